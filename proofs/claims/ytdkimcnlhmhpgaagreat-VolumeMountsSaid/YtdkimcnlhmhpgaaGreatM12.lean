/- -/
import Derived.Test.YtdkimcnlhmhpgaaGreatM11
set_option maxHeartbeats 32000000
set_option maxRecDepth 100000
namespace Go.Proofs.YtdkimcnlhmhpgaaGreat
section
open Go.Proofs.Tryz Go.RowKit
variable {A:Prop} {Inv:DK->World->Prop} {b r rlo:Nat} {d:DK} {w w':World}
theorem M26 (h:A:=by
 rw[e];clear e
 go_enter func180,ntmps180
 go_wp2_with fail
 refine HD.out.mono ?_;rintro e w' ⟨rfl,rfl⟩
 go_wp2_with fail
 refine HD.out.mono ?_;rintro e w' ⟨rfl,rfl⟩
 go_wp2_with fail
 go_ret
 exact⟨rfl,rfl⟩):A:=h
theorem Dk (O:r7 Inv b) {w:World} {d:DK} (h:Inv d w) (j u:Int) (hj:(Lit.int .i64 j).wf=true) (hu:(Lit.int .i64 u).wf=true):
  am! 180 #[b,j,u] w fun e w'=>e=(bo d.stand.length j u:Int)/\w=w':=by
 have⟨n1,n2⟩:=O.len h
 have⟨j1,j2⟩:=ko hj
 have⟨u1,u2⟩:=ko hu
 have hd:=O.lenC h
 generalize d.stand.length=n at*
 have HD:=tK hd
 have g0:((n:Int)==0)=false:=_y
 clear hd hj hu h
 rcases(by omega:j<1\/(1<=j/\(n:Int)-2<j)\/(1<=j/\j<=(n:Int)-2/\u<0)\/(1<=j/\j<=(n:Int)-2/\0<=u/\128*j<u)\/(1<=j/\j<=(n:Int)-2/\0<=u/\u<=128*j))with c1|⟨c1,c2⟩|⟨c1,c2,c3⟩|⟨c1,c2,c3,c4⟩|⟨c1,c2,c3,c4⟩
 .have e:bo n j u=1:=by unfold bo;rw[if_pos _a]
  rw[e];clear e
  go_enter func180,ntmps180
  go_wp2_with fail
  refine HD.out.mono ?_;rintro e w' ⟨rfl,rfl⟩
  go_wp2_with fail
  go_ret
  exact⟨rfl,rfl⟩
 .have e:bo n j u=1:=by unfold bo;rw[if_pos _a]
  exact M26
 .have e:bo n j u=1:=by unfold bo;rw[if_pos _a]
  exact M26
 .have e:bo n j u=1:=by unfold bo;rw[if_pos _a]
  have hm:j*128<u:=_a
  have QL:j*128<=2000000:=_a
  have hm3:0<=j*128:=_a
  exact M26
 .have e:bo n j u=0:=by unfold bo;rw[if_neg _a]
  have hm:u<=j*128:=_a
  have QL:j*128<=2000000:=_a
  have hm3:0<=j*128:=_a
  exact M26
def KH:Value->Nat
 |.string x=>x.size
 |_=>0
def Oa (d:DK) (j u:Int) (s:List UInt8):DK×Int:=
 if bo d.stand.length j u≠0 then(d,1)else if 128*j-u<s.length then(d,100)else if d.down=true then(d,90)else if s=[]then(d,0)else fW d (2+u.toNat/128) ((seen d (2+u.toNat/128)).take (u.toNat%128)++s)
def jb (d:DK) (j u:Int) (s:List UInt8):Int:=if(Oa d j u s).2=0 then u+s.length else 0
def uv (Inv:DK->World->Prop) (d:DK) (j u:Int) (s:List UInt8) (_:World) (e:Ending) (w':World):Prop:=
 e=.returned (.tuple #[(jb d j u s:Int),.int .i64 (Oa d j u s).2])/\Inv (Oa d j u s).1 w'
theorem gz {d':DK} {j u:Int} {s:List UInt8} {C n:Int} (h:Oa d j u s=(d',C)) (hn:n=if C=0 then u+s.length else 0) (hI:Inv d' w'):uv Inv d j u s w (.returned (.tuple #[n,C])) w':=by
 unfold uv jb
 rw[h,hn]
 exact⟨rfl,hI⟩
theorem M99 (h:A:=by
 go_enter func109,ntmps109
 go_wp2_with fail
 refine HF.out.mono ?_;rintro e w' ⟨rfl,rfl⟩
 go_wp2_with fail
 go_ret2
 exact HR.out):A:=h
theorem M76 {A:Prop}(h:A:=by
 rw[if_neg hC]at UG
 have hr:=gz (Inv:=Inv) (w:=w) (n:=0) (SG.out.trans UG.symm) (by rw[if_neg hC]) hI3
 have HR:=tK hr
 clear UG hr hI3 HAA
 go_wp2_with fail
 go_ret2
 exact HR.out):A:=h
theorem M61 (h:A:=by
 have HR:=tK hr
 clear hr hc h R9 hd RP
 go_enter func109,ntmps109
 go_wp2_with fail
 refine HF.out.mono ?_;rintro e w' ⟨rfl,rfl⟩
 go_wp2_with fail
 refine HD.out.mono ?_;rintro e w' ⟨rfl,rfl⟩
 go_wp2_with fail
 go_ret2
 exact HR.out):A:=h
theorem Im (O:r7 Inv b) {w:World} {d:DK} (h:Inv d w) (j u:Int) (s:List UInt8) (hj:(Lit.int .i64 j).wf=true) (hu:(Lit.int .i64 u).wf=true) (hs:s.length<=4000) (ho:d.ops<=40000) (hw:d.waits.length<=5000):
  am! 109 #[b,j,u,s] w (uv Inv d j u s w):=by
 have hf:=Dk O h j u hj hu
 have PW:(bs s).size=s.length:=NQ s
 by_cases hc:bo d.stand.length j u=0
 .have⟨c1,c2,c3,c4⟩:=jX hc
  have⟨n1,n2⟩:=O.len h
  have QL:j*128<=2000000:=_a
  have hm3:0<=j*128:=_a
  have hs':(s.length:Int)<=4000:=_a
  rw[hc]at hf
  have HF:=tK hf
  clear hf hj hu
  by_cases R9:128*j-u<s.length
  .have hr:=gz (Inv:=Inv) (w:=w) (n:=0) (show Oa d j u s=(d,100)by unfold Oa;rw[if_neg _a,if_pos R9]) X! h
   have HR:=tK hr
   have Ug:j*128-u<s.length:=_a
   clear hr hc h R9
   exact M99
  .have Ug:(s.length:Int)<=j*128-u:=_a
   have hd:=O.downC h
   cases RP:d.down
   .rw[RP]at hd
    have HD:=tK hd
    rcases nF s with⟨m1,m2,m3,m4⟩|⟨m1,m2,m3⟩
    .subst m1
     have hr:=gz (Inv:=Inv) (w:=w) (n:=u) (show Oa d j u []=(d,0)by unfold Oa;rw[if_neg _a,if_neg R9,if_neg (by rw[RP];simp),if_pos rfl]) _b h
     exact M61
    .obtain⟨un,rfl⟩:=MM c3
     have hq:(un:Int)/128=((un/128:Nat):Int):=_a
     have hrm:(un:Int)%128=((un%128:Nat):Int):=_a
     have Rm:2+un/128<d.stand.length:=_a
     have QQ:=O.readC (2+((un/128:Nat):Int)) h
     have e1:OM d (2+((un/128:Nat):Int))=0:=by unfold OM;rw[RP,if_neg _b,if_neg _a]
     have e2:Pc d (2+((un/128:Nat):Int))=seen d (2+un/128):=by
      unfold Pc
      rw[if_pos e1]
      congr 1
     rw[e1,e2]at QQ
     have PX:=gj (O.fit h) Rm
     have hR:Oa d j un s=fW d (2+un/128) ((seen d (2+un/128)).take (un%128)++s):=by
      unfold Oa
      rw[if_neg _a,if_neg R9,if_neg (by rw[RP];simp),if_neg (by intro e;rw[e]at m3;simp at m3),Nw]
     have hex:Hid ((bs (seen d (2+un/128))).extract 0 (un%128)++bs s=bs ((seen d (2+un/128)).take (un%128)++s)):=by
      show _=_;rw[aY,aw];simp
     have P3:((seen d (2+un/128)).take (un%128)++s).length<=4128:=by
      rw[tN]
      have:=List.length_take_le (un%128) (seen d (2+un/128))
      omega
     have afq:((bs (seen d (2+un/128))).extract 0 (un%128)).size<=128:=k!
     have y0:(bs (seen d (2+un/128))).size=128:=by rw[NQ,PX]
     have y3:un%128<128:=Nat.mod_lt _ _a
     have⟨TC,SG,HI⟩:=gg! QQ hR h
     have hau:2+un/128<=8192:=_a
     clear QQ e1 e2 PX hR hc h R9 hd RP Rm
     generalize (seen d (2+un/128)).take (un%128)++s=R0 at*
     generalize bs (seen d (2+un/128))=SE at*
     generalize un%128=um at*
     generalize un/128=ud at*
     have i1:(um:Int)<128:=_a
     have i2:(ud:Int)<=8192:=_a
     have i3:(um:Int)<=SE.size:=_a
     have yy:(SE.extract 0 um++bs s).size=(SE.extract 0 um).size+(bs s).size:=ByteArray.size_append
     have hdd:decide (j*128-(un:Int)<(s.length:Int))=false:=MS _a
     go_enter func109,ntmps109
     go_wp2_with fail
     refine HF.out.mono ?_;rintro e w' ⟨rfl,rfl⟩
     go_wp2_with fail
     refine HD.out.mono ?_;rintro e w' ⟨rfl,rfl⟩
     go_wp2_with fail
     refine TC.out.mono ?_;rintro e w' ⟨rfl,rfl⟩
     go_wp2_with fail
     go_loopw [11,14] (fun a t wr=>∃(d':DK) (a':Nat) (rs:List UInt8),a=(a':Int)/\t=rs/\Inv d' wr/\fW d' a' rs=fW d (2+ud) R0/\a'+rs.length<=20000/\d'.ops+rs.length<=60000/\d'.waits.length+rs.length<=10000/\rs.length<=4128) (fun _ t _=>KH t)
     case atStart=>exact⟨d,2+ud,R0,_j,congrArg Value.string hex.out,HI.out,rfl,_a,_a,_a,P3⟩
     case round=>
      obtain⟨d',a',rs,rfl,rfl,hI,hA,b1,b2,b3,b4⟩:=hrel
      have hzr:(bs rs).size=rs.length:=NQ rs
      rcases nF rs with⟨q1,q2,q3,q4⟩|⟨q1,q2,q3⟩
      .subst q1
       rw[BH]at hA
       have hr:=gz (Inv:=Inv) (w:=w) (n:=(un:Int)+s.length) (SG.out.trans hA.symm) _b hI
       have HR:=tK hr
       clear hr hA hI
       go_wp2_with fail
       go_ret2
       exact HR.out
      .have Pb:rs≠[]:=by intro e;rw[e]at q3;simp at q3
       rw[iK Pb]at hA
       have Qg:=mi rs
       have Sr:=fun W (k:NP [] wr W)=>O.writeC (a':Int) (aC rs) (O.keep hI k) _a _a
       have aab:=fy d' (a':Int) (aC rs)
       have⟨HW,Wi,HAA⟩:=gg! Sr aab hA
       clear Sr aab hA hI Pb Qg
       generalize OW d' (a':Int) (aC rs)=C at*
       generalize OJ d' (a':Int) (aC rs)=dn at*
       rcases(by omega:rs.length<=128\/128<rs.length)with g1|g1
       .have ZX:min (rs.length:Int) 128=rs.length:=_a
        have Wl:=fun W=>lz ((bs rs).extract 0 rs.length) 128 W k! _a
        have Zu:Pg ((bs rs).extract 0 rs.length).data.toList 128=aC rs:=by
         rw[aY,cC];unfold aC
         rw[Nh g1];simp
        rw[Zu]at Wl
        have HPF:=tK Wl
        have YE:Hid (ByteArray.empty=bs (rs.drop 128)):=by
         show _=_;rw[List.drop_of_length_le g1];rfl
        clear Wl Zu
        have g2:(rs.length:Int)<=128:=_a
        go_wp2_with fail
        refine(HPF.out _).mono ?_;rintro e w2 ⟨rfl,k2⟩
        go_wp2_with fail
        refine(HW.out _ k2).mono ?_;rintro e w3 ⟨rfl,hI3⟩
        by_cases hC:C=0
        .subst hC
         have UG:=HAA.out
         rw[if_pos rfl]at UG
         have⟨V9,HI3⟩:=_f UG hI3
         clear UG hI3 HAA
         go_wp2_with fail
         go_roundw
         case rel=>(try rw[hrm]);((repeat apply Exists.intro);refine⟨?_,rfl⟩;exact⟨dn,a'+1,rs.drop 128,congrArg (Value.int .i64) _a,congrArg Value.string YE.out,HI3.out,V9.out,by rw[MQ];omega,by have:=Wi.out;rw[MQ];omega,by have:=Wi.out;rw[MQ];omega,by rw[MQ];omega⟩)
         case measure=>(show ByteArray.empty.size<(bs rs).size;rw[NQ];show 0<rs.length;omega)
        .have UG:=HAA.out
         exact M76
       .have ZX:min (rs.length:Int) 128=128:=_a
        have Wl:=fun W=>lz ((bs rs).extract 0 128) 128 W k! _a
        have Zu:Pg ((bs rs).extract 0 128).data.toList 128=aC rs:=by
         rw[aY,cC];unfold aC
         simp
        rw[Zu]at Wl
        have HPF:=tK Wl
        have YE:Hid ((bs rs).extract 128 rs.length=bs (rs.drop 128)):=by
         show _=_;rw[aY,Nh _z]
        clear Wl Zu
        have g2:(128:Int)<rs.length:=_a
        go_wp2_with fail
        refine(HPF.out _).mono ?_;rintro e w2 ⟨rfl,k2⟩
        go_wp2_with fail
        refine(HW.out _ k2).mono ?_;rintro e w3 ⟨rfl,hI3⟩
        by_cases hC:C=0
        .subst hC
         have UG:=HAA.out
         rw[if_pos rfl]at UG
         have⟨V9,HI3⟩:=_f UG hI3
         clear UG hI3 HAA
         go_wp2_with fail
         go_roundw
         case rel=>(try rw[hrm]);((repeat apply Exists.intro);refine⟨?_,rfl⟩;exact⟨dn,a'+1,rs.drop 128,congrArg (Value.int .i64) _a,congrArg Value.string YE.out,HI3.out,V9.out,by rw[MQ];omega,by have:=Wi.out;rw[MQ];omega,by have:=Wi.out;rw[MQ];omega,by rw[MQ];omega⟩)
         case measure=>(show((bs rs).extract 128 rs.length).size<(bs rs).size;rw[YE.out,NQ,NQ,MQ];omega)
        .have UG:=HAA.out
         exact M76
   .rw[RP]at hd
    have HD:=tK hd
    have hr:=gz (Inv:=Inv) (w:=w) (n:=0) (show Oa d j u s=(d,90)by unfold Oa;rw[if_neg _a,if_neg R9,if_pos RP]) X! h
    exact M61
 .have RU:=DB hc
  have hr:=gz (Inv:=Inv) (w:=w) (n:=0) (show Oa d j u s=(d,1)by unfold Oa;rw[if_pos hc]) X! h
  rw[RU]at hf
  have⟨HF,HR⟩:=_f hf hr
  clear hf hr hc RU h hj hu
  exact M99
theorem adr {A:Prop}(h:A:=by
 generalize bs (bA d k)=S0 at*
 go_wp2_with fail
 go_ret2
 exact⟨by rw[<-hex.out];rfl,rfl⟩):A:=h
theorem M94 {A:Prop}(h:A:=by
 have e:OM d (2+(k:Int))=0:=by
  unfold OM
  rw[RP,if_neg _b,if_neg _a]
 refine⟨?_,e⟩
 unfold Pc
 rw[if_pos e]
 congr 1):A:=h
theorem M48 {A:Prop}(h:A:=by
 have Of:=tK NV
 clear hrk ZT XD
 generalize bs (seen d (2+k))=S1 at*
 generalize bs (bA d k)=S0 at*
 go_wp2_with fail
 refine HRK.out.mono ?_;rintro e w' ⟨rfl,rfl⟩
 go_wp2_with fail
 go_round
 case rel=>exact⟨k+1,Of.out,_j,by rw[<-Tz.out]⟩
 case measure=>(have hh:=Of.out;simp[intOf];omega)):A:=h
theorem JV (O:r7 Inv b) {w:World} {d:DK} (h:Inv d w) (j u:Int) (hj:(Lit.int .i64 j).wf=true) (hu:(Lit.int .i64 u).wf=true):
  am! 123 #[b,j,u] w fun e w'=>e=.returned (.tuple #[.string (bs (Pq d j u)),(Oi d j u:Int)])/\w=w':=by
 have hf:=Dk O h j u hj hu
 by_cases hc:bo d.stand.length j u=0
 .have⟨c1,c2,c3,c4⟩:=jX hc
  have⟨n1,n2⟩:=O.len h
  have hd:=O.downC h
  rw[hc]at hf
  cases RP:d.down
  .have el:Oi d j u=0:=by unfold Oi;rw[if_neg _a,if_neg (by rw[RP];simp)]
   have es:Pq d j u=(bA d (On u).toNat).take u.toNat:=by unfold Pq;rw[if_pos el]
   rw[el,es]
   rw[RP]at hd
   have hn:=sP u w hu
   have QQ:=fun(k:Nat) (hk:2+k<d.stand.length)=>O.readC (2+(k:Int)) h
   have Rm:∀k:Nat,2+k<d.stand.length->Pc d (2+(k:Int))=seen d (2+k)/\OM d (2+(k:Int))=0:=fun k hk=>by
    exact M94
   have Zf:∀k:Nat,2+k<d.stand.length->am! 62 #[b,(2+(k:Int):Int)] w fun e w'=>e=.returned (.tuple #[.string (bs (seen d (2+k))),(0:Int)])/\w=w':=fun k hk=>by
    have h1:=QQ k hk
    rw[(Rm k hk).1,(Rm k hk).2]at h1
    exact h1
   have hln:∀k:Nat,2+k<=d.stand.length->(bA d k).length=128*k:=fun k hk=>sG (O.fit h) k hk
   have PX:∀k:Nat,2+k<d.stand.length->(seen d (2+k)).length=128:=fun k hk=>gj (O.fit h) hk
   have hnd:0<=On u/\On u+2<=d.stand.length/\u<=128*On u:=by
    unfold On
    split
    .omega
    .omega
   have⟨nd,Xx⟩:=MM hnd.1
   obtain⟨un,rfl⟩:=MM c3
   rw[Xx]at hn hnd ⊢
   have⟨_,hnd2,hnd3⟩:=hnd
   rw[Nw,Nw]
   have⟨HF,HD,HN,HR,HL,HS⟩:=gj! hf hd hn Zf hln PX
   clear hf hd hn QQ Zf hln PX Rm el es RP hc h Xx
   generalize d.stand.length=n at*
   go_enter func123,ntmps123
   go_wp2_with fail
   refine HF.out.mono ?_;rintro e w' ⟨rfl,rfl⟩
   go_wp2_with fail
   refine HD.out.mono ?_;rintro e w' ⟨rfl,rfl⟩
   go_wp2_with fail
   refine HN.out.mono ?_;rintro e w' ⟨rfl,rfl⟩
   go_wp2_with fail
   go_loop [9,24] (fun t i=>∃k:Nat,k<=nd/\i=(k:Int)/\t=.string (bs (bA d k))) (fun _ i=>nd-(intOf i).toNat)
   case atStart=>exact⟨0,_a,rfl,rfl⟩
   case round=>
    obtain⟨k,hk,rfl,rfl⟩:=hrel
    have XD:=HL.out k _a
    by_cases NV:k<nd
    .have hrk:=HR.out k _a
     have ZT:=HS.out k _a
     have HRK:=tK hrk
     have Tz:Hid (bs (bA d k)++bs (seen d (2+k))=bs (bA d (k+1))):=by show _=_;rw[aw,mq]
     have y0:(bs (bA d k)).size<=2000000:=by rw[NQ,XD];omega
     have y1:(bs (seen d (2+k))).size=128:=by rw[NQ,ZT]
     have yy:(bs (bA d k)++bs (seen d (2+k))).size=(bs (bA d k)).size+(bs (seen d (2+k))).size:=ByteArray.size_append
     have i1:(k:Int)<nd:=_a
     have i2:(nd:Int)<=8192:=_a
     exact M48
    .obtain rfl:k=nd:=_a
     have hex:Hid ((bs (bA d k)).extract 0 un=bs ((bA d k).take un)):=by show _=_;rw[aY];simp
     have y0:(bs (bA d k)).size=128*k:=by rw[NQ,XD]
     have y1:un<=(bs (bA d k)).size:=_a
     have y2:(un:Int)<=(bs (bA d k)).size:=_a
     have y3:(0:Int)<=un:=_a
     exact adr
  .have el:Oi d j u=90:=by unfold Oi;rw[if_neg _a,if_pos RP]
   have es:Pq d j u=[]:=by unfold Pq;rw[if_neg _a]
   rw[el,es]
   rw[RP]at hd
   have⟨HF,HD⟩:=_f hf hd
   clear hf hd el es hc h
   go_enter func123,ntmps123
   go_wp2_with fail
   refine HF.out.mono ?_;rintro e w' ⟨rfl,rfl⟩
   go_wp2_with fail
   refine HD.out.mono ?_;rintro e w' ⟨rfl,rfl⟩
   go_wp2_with fail
   go_ret2
   exact⟨rfl,rfl⟩
 .have RU:=DB hc
  have el:Oi d j u=1:=by unfold Oi;rw[if_pos hc]
  have es:Pq d j u=[]:=by unfold Pq;rw[if_neg _a]
  rw[el,es]
  rw[RU]at hf
  have HF:=tK hf
  clear hf el es hc RU h
  go_enter func123,ntmps123
  go_wp2_with fail
  refine HF.out.mono ?_;rintro e w' ⟨rfl,rfl⟩
  go_wp2_with fail
  go_ret2
  exact⟨rfl,rfl⟩
theorem KY (O:Gp Inv r) {w:World} {d:DK} (h:Inv d w) (j u:Int) (hc:bo d.stand.length j u=0):
  am! 131 #[r,u] w fun e w'=>e=.returned (.tuple #[.string (bs (Pq d j u)),(Oi d j u:Int)])/\w=w':=by
 have⟨c1,c2,c3,c4⟩:=jX hc
 have⟨n1,n2⟩:=O.len h
 have hd:=O.down h
 cases RP:d.down
 .have el:Oi d j u=0:=by unfold Oi;rw[if_neg _a,if_neg (by rw[RP];simp)]
  have es:Pq d j u=(bA d (On u).toNat).take u.toNat:=by unfold Pq;rw[if_pos el]
  rw[el,es]
  rw[RP]at hd
  have QQ:=fun(k:Nat) (hk:2+k<d.stand.length)=>O.readC (2+(k:Int)) h
  have Rm:∀k:Nat,2+k<d.stand.length->Pc d (2+(k:Int))=seen d (2+k)/\OM d (2+(k:Int))=0:=fun k hk=>by
   exact M94
  have Zf:∀k:Nat,2+k<d.stand.length->am! 128 #[r,(2+(k:Int):Int)] w fun e w'=>e=.returned (.tuple #[.string (bs (seen d (2+k))),(0:Int)])/\w=w':=fun k hk=>by
   have h1:=QQ k hk
   rw[(Rm k hk).1,(Rm k hk).2]at h1
   exact h1
  have hln:∀k:Nat,2+k<=d.stand.length->(bA d k).length=128*k:=fun k hk=>sG (O.fit h) k hk
  have PX:∀k:Nat,2+k<d.stand.length->(seen d (2+k)).length=128:=fun k hk=>gj (O.fit h) hk
  have hnd:0<=On u/\On u+2<=d.stand.length/\u<=128*On u/\128*On u<u+128:=by
   unfold On
   split
   .omega
   .omega
  have⟨nd,Xx⟩:=MM hnd.1
  obtain⟨un,rfl⟩:=MM c3
  rw[Xx]at hnd ⊢
  have⟨_,hnd2,hnd3,hnd4⟩:=hnd
  rw[Nw,Nw]
  have⟨HR,HL,HS⟩:=gg! Zf hln PX
  clear QQ Zf hln PX Rm el es RP hc h Xx
  generalize d.stand.length=n at*
  go_enter func131,ntmps131
  go_wp2_with fail
  go_loop [6,7] (fun t i=>∃k:Nat,k<=nd/\i=(k:Int)/\t=.string (bs (bA d k))) (fun _ i=>nd-(intOf i).toNat)
  case atStart=>exact⟨0,_a,rfl,rfl⟩
  case round=>
   obtain⟨k,hk,rfl,rfl⟩:=hrel
   have XD:=HL.out k _a
   by_cases NV:k<nd
   .have hrk:=HR.out k _a
    have ZT:=HS.out k _a
    have HRK:=tK hrk
    have Tz:Hid (bs (bA d k)++bs (seen d (2+k))=bs (bA d (k+1))):=by show _=_;rw[aw,mq]
    have y0:(bs (bA d k)).size<=2000000:=by rw[NQ,XD];omega
    have y1:(bs (seen d (2+k))).size=128:=by rw[NQ,ZT]
    have yy:(bs (bA d k)++bs (seen d (2+k))).size=(bs (bA d k)).size+(bs (seen d (2+k))).size:=ByteArray.size_append
    have i1:(k:Int)*128<un:=_a
    have i2:(nd:Int)<=8192:=_a
    have i3:(k:Int)<8192:=_a
    exact M48
   .obtain rfl:k=nd:=_a
    have hex:Hid ((bs (bA d k)).extract 0 un=bs ((bA d k).take un)):=by show _=_;rw[aY];simp
    have y0:(bs (bA d k)).size=128*k:=by rw[NQ,XD]
    have y1:un<=(bs (bA d k)).size:=_a
    have y2:(un:Int)<=(bs (bA d k)).size:=_a
    have y3:(0:Int)<=un:=_a
    have i1:(un:Int)<=(k:Int)*128:=_a
    have i3:(k:Int)<=8192:=_a
    exact adr
 .have el:Oi d j u=90:=by unfold Oi;rw[if_neg _a,if_pos RP]
  have es:Pq d j u=[]:=by unfold Pq;rw[if_neg _a]
  rw[el,es]
  rw[RP]at hd
  clear el es hc h
  go_enter func131,ntmps131
  go_wp2_with fail
  go_ret2
  exact⟨rfl,rfl⟩
structure QA (w:World) (r rlo:Nat) (d:DK):Prop where
 ref:eK w r rlo d
 fit:dS d
theorem QA.aJ (h:QA w r rlo d) (k:NP [] w w'):QA w' r rlo d:=⟨h.ref.kept0 k,h.fit⟩
theorem QA.lt (h:QA w r rlo d):r<w.heap.size:=by
 have⟨_,_,o⟩:=h.ref.own
 exact o.lt
theorem QA.read (h:QA w r rlo d) (i:Int):am! 128 #[r,i] w fun e w'=>e=.returned (.tuple #[.string (bs (Pc d i)),(OM d i:Int)])/\w=w':=by
 unfold Pc
 by_cases h0:OM d i=0
 .have⟨h1,h2,h3⟩:=dh h0
  obtain⟨n,rfl⟩:=MM h2
  rw[if_pos h0,h0,Nw]
  exact Lc r rlo d n w h.ref h1 _a
 .rw[if_neg h0]
  exact EJ r rlo d i w h.ref h0
theorem QA.write (h:QA w r rlo d) (i:Int) (s:List UInt8) (ho:d.ops<100000) (hw:d.waits.length<20000):
  am! 140 #[r,i,s] w fun e w'=>e=(OW d i s:Int)/\QA w' r rlo (OJ d i s)/\NP [r] w w':=by
 by_cases hz:OM d i=0
 .by_cases hs:s.length=128
  .have⟨h1,h2,h3⟩:=dh hz
   obtain⟨n,rfl⟩:=MM h2
   have e1:OJ d (n:Int) s=cW d n s:=by unfold OJ;rw[if_pos ⟨hz,hs⟩];rfl
   have e2:OW d (n:Int) s=if d.fuse=0 then 90 else 0:=by unfold OW;rw[if_neg _a,if_neg _a]
   have hf:=h.fit.write (n:Int) s
   rw[e1]at hf ⊢
   rw[e2]
   exact(JH r rlo d n s w h.ref h1 _a hs ho hw).mono fun e w' ⟨h4,h5,h6⟩=>⟨h4,⟨h5,hf⟩,h6⟩
  .have e1:OJ d i s=d:=by unfold OJ;rw[if_neg (fun hh=>hs hh.2)]
   have e2:OW d i s=1:=by unfold OW;rw[if_neg _a,if_pos hs]
   rw[e1,e2]
   exact(AI r rlo d i (bs s) w h.ref hz (by rw[NQ];exact hs)).mono fun e w' ⟨h4,h5⟩=>⟨h4,by subst h5;exact h,by subst h5;exact NP.refl _ _⟩
 .have e1:OJ d i s=d:=by unfold OJ;rw[if_neg (fun hh=>hz hh.1)]
  have e2:OW d i s=OM d i:=by unfold OW;rw[if_pos hz]
  rw[e1,e2]
  exact(Cz r rlo d i (bs s) w h.ref hz).mono fun e w' ⟨h4,h5⟩=>⟨h4,by subst h5;exact h,by subst h5;exact NP.refl _ _⟩
theorem QA.image (h:QA w r rlo d):am! 136 #[r] w fun e w'=>e=.returned d.stand.flatten/\w=w':=
 JI r rlo d w h.ref (fun s hs=>Nat.le_of_eq (h.fit.all s hs))
def Gq (w0:World) (r rlo:Nat) (d:DK) (w:World):Prop:=QA w r rlo d/\NP [r] w0 w
theorem QA.JE (h:QA w r rlo d):Gq w r rlo d w:=⟨h,NP.refl _ _⟩
theorem zi (w0:World) (r rlo:Nat):Gp (Gq w0 r rlo) r where
 len:=fun h=>h.1.ref.lens
 fit:=fun h=>h.1.fit
 keep:=fun h k=>⟨h.1.aJ k,h.2.trans (k.mono _b)⟩
 down:=fun h=>h.1.ref.Lt
 readC:=fun i h=>h.1.read i
 writeC:=fun i s h ho hw=>(h.1.write i s ho hw).mono fun e w' hh=>⟨hh.1,hh.2.1,h.2.trans hh.2.2⟩
theorem La {w0:World} {d0:DK} (h0:QA w0 r rlo d0):GP (Gq w0 r rlo) r w0 where
 ops:=zi w0 r rlo
 stands:=fun h=>by have⟨p,c,p',c',e0,_⟩:=h.1.ref.mz;exact⟨p,c,e0⟩
 writeB:=fun i s h ho hw=>(h.1.write i s ho hw).mono fun e w' hh=>⟨hh.1,⟨hh.2.1,h.2.trans hh.2.2⟩,(hh.2.2.both (b:=r) (sb:=r) (mb:=r) (lo:=0)).j9 h0.lt h0.lt h0.lt h0.lt⟩
theorem Lb (v:Value) (l:List (Int×Int)) (size:Int) (PU PC:Nat) {w:World} {r rlo:Nat} {d:DK} (hD:QA w r rlo d) (h:af w v l PU PC) (hl:l.length<=1000000) (Pj:∀a∈l,aQ a)
  (PW:(Lit.int .i64 size).wf=true):
  am! 152 #[r,v,size] w fun e w'=>e=.returned (.tuple #[.string (bs (PV d l size)),(N7 d l size:Int)])/\NP [] w w':=
 Mh (La hD) d v l size PU PC w hD.JE h hl Pj PW
theorem JD (j u:Int) {w:World} {r rlo:Nat} {d:DK} (hD:QA w r rlo d) (hc:bo d.stand.length j u=0):
  am! 131 #[r,u] w fun e w'=>e=.returned (.tuple #[.string (bs (Pq d j u)),(Oi d j u:Int)])/\w=w':=
 KY (zi w r rlo) hD.JE j u hc
end
open Go.Proofs.Tryz Go.RowKit Go.Maps
variable {w w':World} {b sb lo:Nat} {T S:List Nat} {d:DK}
def WB (w:World) (b k:Nat):Prop:=∃v,w.cell? (aa b 1)=some v/\v.ownBlock=some k
structure PK (T:List Nat) (b sb mb:Nat) (w w':World):Prop where
 os:w'.os=w.os
 tape:w'.tape=w.tape
 output:w'.output=w.output
 size:w.heap.size<=w'.heap.size
 block:∀k,k<w.heap.size->k∉T->k≠b->k≠sb->k≠mb->¬WB w b k->w'.heap[k]? =w.heap[k]?
 wb:∀k,WB w' b k->WB w b k\/w.heap.size<=k
theorem WB.iw {k:Nat} (h:w'.cell? (aa b 1)=w.cell? (aa b 1)):WB w' b k↔WB w b k:=by unfold WB;rw[h]
theorem PK.refl (T:List Nat) (b sb mb:Nat) (w:World):PK T b sb mb w w:=⟨rfl,rfl,rfl,MG _,fun _ _ _ _ _ _ _=>rfl,fun _ h=>Or.inl h⟩
theorem PK.trans {mb:Nat} {a:World} (h:PK T b sb mb a w) (k:PK T b sb mb w w'):PK T b sb mb a w':=by
 refine⟨k.os.trans h.os,k.tape.trans h.tape,k.output.trans h.output,Nk h.size k.size,fun i hi h1 h2 h3 h4 h5=>?_,fun i hi=>?_⟩
 .rw[k.block i (MR hi h.size) h1 h2 h3 h4 (fun hw=>by
   rcases h.wb i hw with h6|h6
   .exact h5 h6
   .omega)]
  exact h.block i hi h1 h2 h3 h4 h5
 .rcases k.wb i hi with h6|h6
  .exact h.wb i h6
  .exact Or.inr (Nk h.size h6)
theorem PK.mono {mb:Nat} (h:PK S b sb mb w w') (hST:∀x∈S,x∈T):PK T b sb mb w w':=
 ⟨h.os,h.tape,h.output,h.size,fun k hk h1=>h.block k hk (fun h2=>h1 (hST k h2)),h.wb⟩
theorem NP.pk {mb:Nat} (h:NP S w w') (hb:b<w.heap.size) (hS:∀x∈S,x≠b/\(x∈T\/w.heap.size<=x)):PK T b sb mb w w':=
 ⟨h.os,h.tape,h.output,h.size,fun k hk h1 _ _ _ _=>h.block k hk (fun hx=>by
  rcases(hS k hx).2 with h2|h2
  .exact h1 h2
  .omega),fun k hk=>Or.inl ((WB.iw (h.cell (a:=(aa b 1)) hb (fun hx=>(hS b hx).1 rfl))).1 hk)⟩
theorem NP.eH {mb:Nat} (h:NP [] w w') (hb:b<w.heap.size):PK T b sb mb w w':=h.pk hb (fun x hx=>by cases hx)
theorem PK.kept {mb:Nat} (h:PK T b sb mb w w') (B:Nat) (hB:B<=w.heap.size) (h1:∀x∈T,B<=x) (h2:B<=b) (h3:B<=sb) (h4:B<=mb) (h5:∀k,WB w b k->B<=k):Below B w w':=
 ⟨h.os,h.tape,h.output,h.size,fun k hk=>h.block k _a (fun hx=>by have:=h1 k hx;omega) _a _a _a (fun hx=>by have:=h5 k hx;omega)⟩
theorem aD.bH {mb:Nat} (h:aD w b sb mb lo d):b<w.heap.size:=by have⟨_,_,o,_⟩:=h;exact o.lt
theorem aD.wb {mb:Nat} (h:aD w b sb mb lo d) {k:Nat} (hk:WB w b k):lo<=k/\∃cs,w.heap[k]? =some (.cells cs 206 (0,0)):=by
 have⟨wv,n,o,os,hw,_⟩:=h
 have⟨v,h1,h2⟩:=hk
 have h3:=o.cell 1 _b
 rw[h1]at h3
 have e:v=wv:=by injection h3
 subst e
 rcases hw.2 with⟨rfl,_⟩|⟨g',cap,cur,rfl,hge,hh,_⟩
 .simp[Value.ownBlock]at h2
 .have e1:g'=k:=by simpa[Value.ownBlock]using h2
  subst e1
  exact⟨hge,cur,hh⟩
theorem PK.Lu {mb:Nat} (h:PK [] b sb mb w w') (hD:aD w b sb mb lo d):BK b sb mb lo w w':=
 ⟨h.os,h.tape,h.output,h.size,fun k hk h1 h2 h3 h4=>h.block k hk _b h1 h2 h3 (fun hx=>by
  have⟨h5,cs,h6⟩:=hD.wb hx
  rcases h4 with h4|h4
  .omega
  .exact h4 cs _ h6)⟩
theorem pP (b sb mb lo:Nat) (d:DK) (w:World) (h:aD w b sb mb lo d) (ho:d.ops<100000):am! 90 #[b] w fun e w'=>e=.returned (.bool (decide (d.fuse=0)))/\aD w' b sb mb lo (dq d)/\NP [b] w w'/\w'.cell? (aa b 1)=w.cell? (aa b 1):=by
 have hn:=fun(d':DK) (w':World) (k:NP [b] w w')=>aD.nums (d':=d') h k
 have HN:=tK hn
 clear hn
 have⟨wv,n,o,os,hw,hm,g1,g2,g3,g4,g5,g6,g7,g8,g9,g10,g11⟩:=h
 obtain⟨p,c,rfl⟩:=ah hw
 have⟨c0,c1,c2,c3,c4,c5⟩:=o.c6
 have z:=o.z6
 clear os hw hm
 have⟨st,wa,fu,op,dn⟩:=d
 simp only at*
 obtain⟨q,hq⟩:∃q,q=op+1:=⟨_,rfl⟩
 have Sq:((op:Int)+1)=(q:Int):=_a
 have⟨HQ,HO⟩:=_f hq ho
 clear hq g11
 have aem:(op:Int)<=100000:=_a
 rcases(by omega:fu=0\/fu= -1\/0<fu)with rfl|rfl|hp
 .go_enter func90,ntmps90
  go_wp2_with fail
  go_ret
  have kk:=((NP.refl [b] w).setCell (p:=(aa b 4)) (Or.inl _b) (q:Int)).setCell (p:=(aa b 5)) (Or.inl _b) true
  refine⟨rfl,HN.out (dq ⟨st,wa,0,op,dn⟩) _ kk rfl rfl (by show(-1:Int)<=0;omega) (by show(0:Int)<=9223372036854775807;omega) q! (fun v0 v1 v2 o=>?_),kk,by rw[((o.set 4 _).set 5 _).cell 1 _b,o.cell 1 _b];rfl⟩
  show ae _ b #[v0,v1,v2,(0:Int),((op+1:Nat):Int),true] _
  rw[<-HQ.out]
  exact(o.set 4 _).set 5 _
 .go_enter func90,ntmps90
  go_wp2_with fail
  go_ret
  have kk:=(NP.refl [b] w).setCell (p:=(aa b 4)) (Or.inl _b) (q:Int)
  refine⟨rfl,HN.out (dq ⟨st,wa,-1,op,dn⟩) _ kk rfl rfl (by show(-1:Int)<= -1;omega) (by show(-1:Int)<=9223372036854775807;omega) q! (fun v0 v1 v2 o=>?_),kk,by rw[(o.set 4 _).cell 1 _b,o.cell 1 _b];rfl⟩
  show ae _ b #[v0,v1,v2,(-1:Int),((op+1:Nat):Int),.bool dn] _
  rw[<-HQ.out]
  exact o.set 4 _
 .have Pb:(fu==0)=false:=_y
  have hdc:decide (fu=0)=false:=MS _a
  rw[hdc]
  go_enter func90,ntmps90
  go_wp2_with fail
  go_ret
  have kk:=((NP.refl [b] w).setCell (p:=(aa b 4)) (Or.inl _b) (q:Int)).setCell (p:=(aa b 3)) (Or.inl _b) (fu-1:Int)
  have ef:(dq ⟨st,wa,fu,op,dn⟩).fuse=fu-1:=by show(if 0<fu then fu-1 else fu)=_;rw[if_pos hp]
  have ed:(dq ⟨st,wa,fu,op,dn⟩).down=dn:=by show(if fu=0 then true else dn)=_;rw[if_neg _a]
  refine⟨rfl,HN.out (dq ⟨st,wa,fu,op,dn⟩) _ kk rfl rfl (by rw[ef];omega) (by rw[ef];omega) q! (fun v0 v1 v2 o=>?_),kk,by rw[((o.set 4 _).set 3 _).cell 1 _b,o.cell 1 _b];rfl⟩
  rw[ef,ed]
  show ae _ b #[v0,v1,v2,(fu-1:Int),((op+1:Nat):Int),.bool dn] _
  rw[<-HQ.out]
  exact(o.set 4 _).set 3 _
theorem Iu (b sb mb lo:Nat) (d:DK) (i:Nat) (s:List UInt8) (w:World) (h:aD w b sb mb lo d) (hd:d.down=false) (hi:i<d.stand.length) (hs:s.length=128) (ho:d.ops<100000) (WH:d.waits.length<=10000):
  am! 88 #[b,(i:Int),s] w fun e w'=>e=(if d.fuse=0 then 90 else 0:Int)/\aD w' b sb mb lo (cW d i s)/\PK [] b sb mb w w':=by
 have hr:=DH b sb mb lo d i w h
 have e0:OM d i=0:=by unfold OM;rw[hd,if_neg _b,if_neg _a]
 rw[e0]at hr
 have Sq:=pP b sb mb lo d w h ho
 have hz:(bs s).size=128:=by rw[NQ,hs]
 have S2:(bs s).size<=maxLen:=by rw[hz];decide
 have hi8:i<=8192:=by have⟨_,_,_,_,_,_,_,_,_,_,_,_,_,h8,_⟩:=h;omega
 have⟨i0,q0,q1,q2,q3⟩:=FU
 clear h e0 hd
 have HI:=tK hi
 clear hi
 have key:∀(fb:Bool) (fc:Int),decide (d.fuse=0)=fb->(if d.fuse=0 then(90:Int)else 0)=fc->(fb=true/\fc=90\/fb=false/\fc=0)->
   am! 88 #[b,(i:Int),s] w fun e w'=>e=fc/\aD w' b sb mb lo (cW d i s)/\PK [] b sb mb w w':=by
  intro fb fc hfb UF Wg
  rw[hfb]at Sq
  clear hfb UF
  rcases Wg with⟨rfl,rfl⟩|⟨rfl,rfl⟩
  all_goals
   go_enter func88,ntmps88
   go_wp2_with fail
   refine hr.mono ?_;rintro e w' ⟨rfl,rfl⟩
   go_wp2_with fail
   refine Sq.mono ?_;rintro e w1 ⟨rfl,h1,k1,RU⟩
   have⟨wv,n,o,os,hw,hm,hn,g2,g3,g4,g5,g6,g7,g8,g9,g10,g11⟩:=h1
   obtain⟨p,c,rfl⟩:=ah hw
   have⟨c0,c1,c2,c3,c4,c5⟩:=o.c6
   have z:=o.z6
   have hcw:w.cell? (aa b 1)=(p,(dq d).waits.length,c):=by rw[<-RU];exact o.cell 1 _b
   have afi:(dq d).waits.length<=10000:=WH
   have r3:(dq d).waits.length+1<=maxLen:=_m
   have r4:((dq d).waits.length+1)*24<=140737488355328:=_a
   clear hr Sq
   go_wp2_with (at_builtin;go_must (refine MT _ rfl (.tmp 24) (.tmp 28) 135 rfl lo 206 i0 (.agg #[(0:Int),.string ⟨#[]⟩]) 2 24 underlying135 q0 q1 q2 q3 rfl _d _ _ _ rfl (MH hw _) w1 1 1 [.int .i64 i,.string (bs s)] rfl rfl ?_ ?_ ?_ ?_ ?_ ?_))
   .exact World.news_of_block (Ns w1 _)
   .intro u hu;simp at hu;rcases hu with rfl|rfl<;>rfl
   .exact r3
   .exact r4
   .simp;omega
   intro v5 w5 o3 RQ _ hv5
   obtain⟨p5,c5',rfl⟩:=ah o3
   have⟨HV5,HCW⟩:=_f hv5 hcw
   clear hv5 hcw RU
   have o5:=bW (MH hw _) RQ (o.alloc _) _d
   have os5:=bW (MH hw _) RQ (os.alloc _) _d
   have ZS:=(hm.alloc (.cells #[(i:Int),s] 206)).block (RQ.block mb (hm.alloc _).lt (fun he=>by have:=(ML hw mb he.symm).1;omega))
   have aci:=RQ.size
   simp only[Nd]at aci
   have⟨y0,y1,y2,y3,y4,y5⟩:=o5.c6
   have zy:=o5.z6
   obtain⟨gb,TI,UK⟩:∃gb,(∀j,(Value.slice p (dq d).waits.length c).ownBlock=some j->j=gb)/\(gb=b\/(Value.slice p (dq d).waits.length c).ownBlock=some gb):=by
    cases hb:(Value.slice p (dq d).waits.length c).ownBlock with
    |none=>exact⟨b,(fun j hj=>by cases hj),Or.inl rfl⟩
    |some g=>exact⟨g,(fun j hj=>by injection hj with hj;exact hj.symm),Or.inr rfl⟩
   have hK5:NP [b,mb,gb] w w5:=((k1.mono (T:=[b,mb,gb]) _b).alloc (.cells #[(i:Int),s] 206)).grown RQ (fun j hj=>Or.inl (by rw[TI j hj];simp))
   clear c0 c1 c2 c3 c4 c5 z o os hm hw RQ
   have⟨D,Ot,hf⟩:=ZS.other (p:=(aa b 1)) (by show mb≠b;omega) (p5,(dq d).waits.length+1,c5')
   go_wp2_with (at_mapUpdate;go_must (refine wpList_mapUpdate_own _ rfl _ _ _ 136 rfl 3 9 Dn underlying136 _ mb n _ rfl Ot ?_ _ _ _ rfl rfl (zC i hi8) _ [] (plainElem_string underlying9 S2) ?_))
   .unfold maxLen;omega
   intro w7 VB X9
   go_wp2_with fail
   go_ret
   have SV:=(NP.refl [mb] _).grown X9 (fun k hk=>Or.inl (by simp at hk;simp[hk]))
   have aej:=SV.size
   have e:eJ (d.waits++[(i,s)])=fun j=>if i=j then some s else eJ d.waits j:=funext fun j=>iH _ _ _
   have o7:=SV.own (o5.set 1 (p5,(dq d).waits.length+1,c5')) _e
   have os7:=SV.own (os5.other (p:=(aa b 1)) (by show sb≠b;omega) (p5,(dq d).waits.length+1,c5')) _e
   have hr7:=ax (bT o3 (p:=(aa b 1)) (aB o3 o5 _d) (p5,(dq d).waits.length+1,c5')) SV _e
   have hm7:= @cV.put _ _ _ w7 _ _ Ot.isMap hf i hi8 s VB
   have hsx:(w5.setCell (aa b 1) (p5,(dq d).waits.length+1,c5')).heap.size=w5.heap.size:=z!
   have hlen:(d.waits++[(i,s)]).length=(dq d).waits.length+1:=by simp[dq]
   have Y4:=((hK5.setCell (p:=(aa b 1)) (Or.inl _b) (p5,(dq d).waits.length+1,c5')).trans (SV.mono (T:=[b,mb,gb]) _b))
   have hdk:PK [] b sb mb w w7:=by
    refine⟨Y4.os,Y4.tape,Y4.output,Y4.size,fun k hk _ e1 e2 e3 e4=>Y4.block k hk (fun hx=>?_),fun k hx=>?_⟩
    .simp only[List.mem_cons,List.not_mem_nil,or_false]at hx
     rcases hx with hx|hx|hx
     .exact e1 hx
     .exact e3 hx
     .rcases UK with h|h
      .exact e1 (hx.trans h)
      .exact e4 ⟨_,HCW.out,by rw[hx];exact h⟩
    .have⟨v,h1,h2⟩:=hx
     have h3:=o7.cell 1 _b
     rw[h1]at h3
     have e:v=(p5,(dq d).waits.length+1,c5'):=by injection h3
     subst e
     rcases HV5.out with h4|h4
     .exact Or.inl ⟨_,HCW.out,h4▸h2⟩
     .right
      rw[h2]at h4
      injection h4 with h4
      have:=k1.size
      (try simp only[Nd]at h4)
      omega
   refine⟨rfl,⟨(p5,(dq d).waits.length+1,c5'),n+1,o7,os7,?_,?_,?_,g2,g3,g4,g5,_a,g7,g8,g9,g10,g11⟩,hdk⟩
   .show w7.ownsRow lo _ 2 _ (d.waits++[(i,s)]).length (PG (d.waits++[(i,s)]))
    rw[hlen,qD];exact hr7
   .show cV w7 mb (n+1) (eJ (d.waits++[(i,s)]))
    rw[e];exact hm7
   .show n+1<=(d.waits++[(i,s)]).length
    rw[hlen];omega
 by_cases hf:d.fuse=0
 .have:=key true 90 (MV hf) (if_pos hf) (Or.inl ⟨rfl,rfl⟩)
  rw[if_pos hf];exact this
 .have:=key false 0 (MS hf) (if_neg hf) (Or.inr ⟨rfl,rfl⟩)
  rw[if_neg hf];exact this
theorem PK.Mn {T:List Nat} {b sb mb:Nat} {w w':World} {cs:Array Value} {t:TypeId} (h:NP [sb,b,mb] w w') (o:ae w' b cs t) (h1:cs[1]? =()):PK T b sb mb w w':=
 ⟨h.os,h.tape,h.output,h.size,fun k hk _ e1 e2 e3 _=>h.block k hk (by simp[e1,e2,e3]),fun k hk=>by
  have⟨v,h2,h3⟩:=hk
  have⟨NV,h4⟩:=Array.getElem?_eq_some_iff.1 h1
  have h5:=o.cell 1 NV
  rw[h2,h4]at h5
  injection h5 with h5
  subst h5
  simp[Value.ownBlock]at h3⟩
theorem yR (b sb mb lo:Nat) (d:DK) (w:World) (h:aD w b sb mb lo d) (hfine:∀x∈d.waits,x.1<d.stand.length) (WH:d.waits.length<=10000):
  am! 75 #[b,.func (.func 91) #[] #[]] w fun e w'=>e=.returned (.tuple #[])/\aD w' b sb mb lo (kX d (fun _=>true))/\PK [] b sb mb w w':=by
 have⟨wv,n,o,os,hw,hm,hn,g2,g3,g4,g5,g6,g7,g8,g9,g10,g11⟩:=h
 obtain⟨p,c,rfl⟩:=ah hw
 have⟨c0,c1,c2,c3,c4,c5⟩:=o.c6
 have⟨st,ws,fu,op,dn⟩:=d
 simp only at*
 go_enter func75,ntmps75
 go_wp2_with fail
 go_loopw [11] (fun i wr=>∃k:Nat,k<=ws.length/\i=(k:Int)/\ae wr sb (bV (sk st ws (fun _=>true) k)) 9/\NP [sb] w wr) (fun i _=>ws.length-(intOf i).toNat)
 case atStart=>exact⟨0,_a,rfl,os,NP.refl _ _⟩
 case round=>
  obtain⟨k,hk,rfl,os2,hK⟩:=hrel
  have o2:=hK.own o _e
  have TS:=ax hw hK _e
  by_cases NV:k<ws.length
  .obtain⟨gw,rfl,hgw⟩:∃gw,p=some ⟨gw,0,none⟩/\lo<=gw:=by
    rcases TS.2 with⟨e1,e2⟩|⟨g',cap,cur,e1,hge,_⟩
    .omega
    .injection e1 with e1
     exact⟨g',e1,hge⟩
   have⟨q1,q2⟩:=nc ws k NV
   have w1c:=World.ownsRow.cells TS rfl (k*2) _ q1
   have w2c:=World.ownsRow.cells TS rfl (k*2+1) _ q2
   rw[Ni,Nat.zero_add]at w1c w2c
   have Rm:ws[k].1<st.length:=hfine _ (MJ _)
   have PX:(sk st ws (fun _=>true) k).length=st.length:=su _ _ _ _
   have Ox:=tP st ws (fun _=>true) k NV
   have⟨d0,d1,d2,d3,d4,d5⟩:=o2.c6
   have hgs:gw<wr.heap.size:=sW w1c
   have afr:=os2.lt
   have⟨OY,Of,TO⟩:=gg! Ox NV PX
   clear Ox PX q1 q2 c0 c1 c2 c3 c4 c5
   generalize ws[k].1=at1 at*
   generalize ws[k].2=dt at*
   have i1:(at1:Int)<st.length:=_a
   have ot:=ae.new wr #[(at1:Int),dt] 206
   have os3:=os2.alloc (.cells #[(at1:Int),dt] 206)
   have o3:=o2.alloc (.cells #[(at1:Int),dt] 206)
   have V4:=hK.alloc (.cells #[(at1:Int),dt] 206)
   have⟨e0,e1,e2,e3,e4,e5⟩:=o3.c6
   have⟨f0,f1⟩:=ot.c2
   have QW:at1<(bV (sk st ws (fun _=>true) k)).size:=by simp[bV,TO.out];exact Rm
   obtain⟨v0,s0⟩:∃v0,(wr.alloc (.cells #[(at1:Int),dt] 206)).cell? (aa sb at1)=some v0:=⟨_,os3.cell at1 QW⟩
   have zs:=os3.free at1
   go_wp2_with fail
   refine(Mr _ _).mono ?_;rintro e w' ⟨rfl,rfl⟩
   go_wp2_with fail
   go_region
   have Oy:ae ((wr.setCell (aa sb at1) dt).alloc (.cells #[(at1:Int),dt] 206)).drew sb (bV (sk st ws (fun _=>true) (k+1))) 9:=by
    rw[OY.out]
    simp only[if_true]
    rw[<-nh]
    exact((os2.set at1 _).alloc _).drew
   have WD:=((hK.setCell (p:=(aa sb at1)) (Or.inl _b) dt).alloc (.cells #[(at1:Int),dt] 206)).drew
   go_wp2_with fail
   go_roundw
   case rel=>exact⟨k+1,Of.out,_j,Oy,WD⟩
   case measure=>(have hh:=Of.out;simp[intOf];omega)
  .obtain rfl:k=ws.length:=_a
   have⟨d0,d1,d2,d3,d4,d5⟩:=o2.c6
   have z2:=o2.z6
   have QL:=hm.kept hK _e
   have hm3:=QL.other (p:=(aa b 1)) (by show mb≠b;omega) ()
   have os3:=os2.other (p:=(aa b 1)) (by show sb≠b;omega) ()
   have o3:=o2.set 1 ()
   have hsx:(wr.setCell (aa b 1) ()).heap.size=wr.heap.size:=z!
   have P6:=(hK.mono (T:=[sb,b,mb]) _b).setCell (p:=(aa b 1)) (Or.inl _b) ()
   have hlen:(sk st ws (fun _=>true) ws.length).length=st.length:=su _ _ _ _
   have⟨w7,hrun7,hm7,SV⟩:=hm3.Kb 0
   go_wp2_with fail
   go_end0
   have aej:=SV.size
   have afh:=hK.size
   refine⟨rfl,⟨(),0,?_,SV.own os3 _e,Nf _ _ _ _,hm7,MG _,g2,g3,g4,g5,_a,?_,?_,g9,g10,g11⟩,?_⟩
   .have:=SV.own o3 _e
    show ae w7 b #[(sb,(sk st ws (fun _=>true) ws.length).length,(sk st ws (fun _=>true) ws.length).length),_,_,_,_,_] _
    rw[hlen];exact this
   .show 1<=(sk st ws (fun _=>true) ws.length).length
    rw[hlen];exact g7
   .show(sk st ws (fun _=>true) ws.length).length<=8192
    rw[hlen];exact g8
   .exact PK.Mn (P6.trans (SV.mono _b)) (SV.own o3 _e) _b
theorem PK.JQ {mb:Nat} (h:NP [b] w w') (hc:w'.cell? (aa b 1)=w.cell? (aa b 1)):PK [] b sb mb w w':=
 ⟨h.os,h.tape,h.output,h.size,fun k hk _ e1 _ _ _=>h.block k hk (by simpa using e1),fun k hk=>Or.inl ((WB.iw hc).1 hk)⟩
theorem yT (b sb mb lo:Nat) (d:DK) (w:World) (h:aD w b sb mb lo d) (hd:d.down=false) (hf:d.fuse=0) (ho:d.ops<100000):am! 39 #[b] w fun e w'=>e=(90:Int)/\aD w' b sb mb lo (dq d)/\PK [] b sb mb w w':=by
 have hr:=ti b sb mb lo d w h
 have Sq:=pP b sb mb lo d w h ho
 unfold kY at hr
 rw[hd]at hr
 rw[MV hf]at Sq
 simp only[Bool.false_eq_true,if_false]at hr
 clear h hd hf
 go_enter func39,ntmps39
 go_wp2_with fail
 refine hr.mono ?_;rintro e w' ⟨rfl,rfl⟩
 go_wp2_with fail
 refine Sq.mono ?_;rintro e w1 ⟨rfl,h1,k1,RU⟩
 go_wp2_with fail
 go_ret
 exact⟨rfl,h1,PK.JQ k1 RU⟩
theorem Iv (b sb mb lo:Nat) (d:DK) (w:World) (h:aD w b sb mb lo d) (hd:d.down=false) (hf:d.fuse≠0) (ho:d.ops<100000) (hfine:∀x∈d.waits,x.1<d.stand.length) (WH:d.waits.length<=10000):
  am! 39 #[b] w fun e w'=>e=(0:Int)/\aD w' b sb mb lo (kX (dq d) (fun _=>true))/\PK [] b sb mb w w':=by
 have hr:=ti b sb mb lo d w h
 have Sq:=pP b sb mb lo d w h ho
 have Vg:=fun W (hW:aD W b sb mb lo (dq d))=>yR b sb mb lo (dq d) W hW hfine WH
 unfold kY at hr
 rw[hd]at hr
 rw[MS hf]at Sq
 simp only[Bool.false_eq_true,if_false]at hr
 clear h hd hf
 have Zr:=tK Vg
 clear Vg
 go_enter func39,ntmps39
 go_wp2_with fail
 refine hr.mono ?_;rintro e w' ⟨rfl,rfl⟩
 go_wp2_with fail
 refine Sq.mono ?_;rintro e w1 ⟨rfl,h1,k1,RU⟩
 go_wp2_with fail
 refine(Zr.out _ h1).mono ?_;rintro e w2 ⟨rfl,h2,k2⟩
 go_wp2_with fail
 go_ret
 exact⟨rfl,h2,(PK.JQ k1 RU).trans k2⟩

/- -/
import Derived.Test.YtdkimcnlhmhpgaaGreatK12
import Derived.Test.YtdkimcnlhmhpgaaGreatK13
set_option maxHeartbeats 16000000
set_option maxRecDepth 100000
set_option linter.unusedVariables false
namespace Go.Proofs.YtdkimcnlhmhpgaaGreat
open Go.RowKit
variable {A:Prop} {Inv:DK->World->Prop} {b:Nat} {w:World} {d:DK}
theorem M25 (h:A:=by
 rw[e];clear e
 go_enter Tryz.func180,Tryz.ntmps180
 go_wp2_with fail
 refine HD.out.mono ?_;rintro e w' ⟨rfl,rfl⟩
 go_wp2_with fail
 refine HD.out.mono ?_;rintro e w' ⟨rfl,rfl⟩
 go_wp2_with fail
 go_ret
 exact⟨rfl,rfl⟩):A:=h
theorem DU (O:s9 Inv b) (h:Inv d w) (j u:Int) (hj:(Lit.int .i64 j).wf=true) (hu:(Lit.int .i64 u).wf=true):
  Calls Tryz.prog 180 #[.pointer (some ⟨b,0,none⟩),.int .i64 j,.int .i64 u] w fun e w'=>e=.returned (.int .i64 (aN d.stand.length j u))/\w=w':=by
 obtain⟨n1,n2⟩:=O.len h
 obtain⟨j1,j2⟩:=fA hj
 obtain⟨u1,u2⟩:=fA hu
 have hd:=O.lenC h
 generalize d.stand.length=n at*
 have HD:=Mb hd
 have g0:((n:Int)==0)=false:=by rw[ME];omega
 clear hd hj hu h
 rcases(by omega:j<1\/(1<=j/\(n:Int)-2<j)\/(1<=j/\j<=(n:Int)-2/\u<0)\/(1<=j/\j<=(n:Int)-2/\0<=u/\128*j<u)\/(1<=j/\j<=(n:Int)-2/\0<=u/\u<=128*j))with c1|⟨c1,c2⟩|⟨c1,c2,c3⟩|⟨c1,c2,c3,c4⟩|⟨c1,c2,c3,c4⟩
 .have e:aN n j u=1:=by unfold aN;rw[if_pos (by omega)]
  rw[e];clear e
  go_enter Tryz.func180,Tryz.ntmps180
  go_wp2_with fail
  refine HD.out.mono ?_;rintro e w' ⟨rfl,rfl⟩
  go_wp2_with fail
  go_ret
  exact⟨rfl,rfl⟩
 .have e:aN n j u=1:=by unfold aN;rw[if_pos (by omega)]
  exact M25
 .have e:aN n j u=1:=by unfold aN;rw[if_pos (by omega)]
  exact M25
 .have e:aN n j u=1:=by unfold aN;rw[if_pos (by omega)]
  have hm:j*128<u:=by omega
  have Tg:j*128<=2000000:=by omega
  have Y0:0<=j*128:=by omega
  exact M25
 .have e:aN n j u=0:=by unfold aN;rw[if_neg (by omega)]
  have hm:u<=j*128:=by omega
  have Tg:j*128<=2000000:=by omega
  have Y0:0<=j*128:=by omega
  exact M25
def KT:Value->Nat
 |.string x=>x.size
 |_=>0
def Nm (d:DK) (j u:Int) (s:List UInt8):DK×Int:=
 if aN d.stand.length j u≠0 then(d,1)else if 128*j-u<s.length then(d,100)else if d.down=true then(d,90)else if s=[]then(d,0)else dL d (2+u.toNat/128) ((seen d (2+u.toNat/128)).take (u.toNat%128)++s)
def jo (d:DK) (j u:Int) (s:List UInt8):Int:=if(Nm d j u s).2=0 then u+s.length else 0
def ve (Inv:DK->World->Prop) (d:DK) (j u:Int) (s:List UInt8) (w:World) (e:Ending) (w':World):Prop:=
 e=.returned (.tuple #[.int .i64 (jo d j u s),.int .i64 (Nm d j u s).2])/\Inv (Nm d j u s).1 w'
theorem gI {d':DK} {j u:Int} {s:List UInt8} {C n:Int} {w':World} (h:Nm d j u s=(d',C)) (hn:n=if C=0 then u+s.length else 0) (hI:Inv d' w'):ve Inv d j u s w (.returned (.tuple #[.int .i64 n,.int .i64 C])) w':=by
 unfold ve jo
 rw[h,hn]
 exact⟨rfl,hI⟩
theorem M79 (h:A:=by
 go_enter Tryz.func109,Tryz.ntmps109
 go_wp2_with fail
 refine HF.out.mono ?_;rintro e w' ⟨rfl,rfl⟩
 go_wp2_with fail
 go_ret2
 exact HR.out):A:=h
theorem M59 {A:Prop}(h:A:=by
 rw[if_neg hC]at TK
 have hr:=gI (Inv:=Inv) (w:=w) (n:=0) (Sd.out.trans TK.symm) (by rw[if_neg hC]) hI3
 have HR:=Mb hr
 clear TK hr hI3 HAA
 go_wp2_with fail
 go_ret2
 exact HR.out):A:=h
theorem M47 (h:A:=by
 have HR:=Mb hr
 clear hr hc h PA hd RS
 go_enter Tryz.func109,Tryz.ntmps109
 go_wp2_with fail
 refine HF.out.mono ?_;rintro e w' ⟨rfl,rfl⟩
 go_wp2_with fail
 refine HD.out.mono ?_;rintro e w' ⟨rfl,rfl⟩
 go_wp2_with fail
 go_ret2
 exact HR.out):A:=h
theorem IJ (O:s9 Inv b) (h:Inv d w) (j u:Int) (s:List UInt8) (hj:(Lit.int .i64 j).wf=true) (hu:(Lit.int .i64 u).wf=true) (hs:s.length<=4000) (ho:d.ops<=40000) (hw:d.waits.length<=5000):
  Calls Tryz.prog 109 #[.pointer (some ⟨b,0,none⟩),.int .i64 j,.int .i64 u,.string (bs s)] w (ve Inv d j u s w):=by
 have hf:=DU O h j u hj hu
 have O4:(bs s).size=s.length:=Nj s
 by_cases hc:aN d.stand.length j u=0
 .obtain⟨c1,c2,c3,c4⟩:=gN hc
  obtain⟨n1,n2⟩:=O.len h
  have Tg:j*128<=2000000:=by omega
  have Y0:0<=j*128:=by omega
  have hs':(s.length:Int)<=4000:=by omega
  rw[hc]at hf
  have HF:=Mb hf
  clear hf hj hu
  by_cases PA:128*j-u<s.length
  .have hr:=gI (Inv:=Inv) (w:=w) (n:=0) (show Nm d j u s=(d,100)by unfold Nm;rw[if_neg (by omega),if_pos PA]) (by rw[if_neg (by omega)]) h
   have HR:=Mb hr
   have T8:j*128-u<s.length:=by omega
   clear hr hc h PA
   exact M79
  .have T8:(s.length:Int)<=j*128-u:=by omega
   have hd:=O.downC h
   cases RS:d.down
   .rw[RS]at hd
    have HD:=Mb hd
    rcases bN s with⟨m1,m2,m3,m4⟩|⟨m1,m2,m3⟩
    .subst m1
     have hr:=gI (Inv:=Inv) (w:=w) (n:=u) (show Nm d j u []=(d,0)by unfold Nm;rw[if_neg (by omega),if_neg PA,if_neg (by rw[RS];simp),if_pos rfl]) (by simp) h
     exact M47
    .obtain⟨un,rfl⟩:=Mr c3
     have hq:(un:Int)/128=((un/128:Nat):Int):=by omega
     have XA:(un:Int)%128=((un%128:Nat):Int):=by omega
     have Q2:2+un/128<d.stand.length:=by omega
     have PF:=O.readC (2+((un/128:Nat):Int)) h
     have e1:N7 d (2+((un/128:Nat):Int))=0:=by unfold N7;rw[RS,if_neg (by simp),if_neg (by omega)]
     have e2:Og d (2+((un/128:Nat):Int))=seen d (2+un/128):=by
      unfold Og
      rw[if_pos e1]
      congr 1
     rw[e1,e2]at PF
     have Px:=hZ (O.fit h) Q2
     have hR:Nm d j un s=dL d (2+un/128) ((seen d (2+un/128)).take (un%128)++s):=by
      unfold Nm
      rw[if_neg (by omega),if_neg PA,if_neg (by rw[RS];simp),if_neg (by intro e;rw[e]at m3;simp at m3),ML]
     have hex:Hid ((bs (seen d (2+un/128))).extract 0 (un%128)++bs s=bs ((seen d (2+un/128)).take (un%128)++s)):=by
      show _=_;rw[aX,aT];simp
     have Po:((seen d (2+un/128)).take (un%128)++s).length<=4128:=by
      rw[Mc]
      have:=List.length_take_le (un%128) (seen d (2+un/128))
      omega
     have aeh:((bs (seen d (2+un/128))).extract 0 (un%128)).size<=128:=by rw[aX,Nj];simp;omega
     have y0:(bs (seen d (2+un/128))).size=128:=by rw[Nj,Px]
     have y3:un%128<128:=Nat.mod_lt _ (by omega)
     have RO:=Mb PF
     have Sd:=Mb hR
     have HI:=Mb h
     have hau:2+un/128<=8192:=by omega
     clear PF e1 e2 Px hR hc h PA hd RS Q2
     generalize (seen d (2+un/128)).take (un%128)++s=R0 at*
     generalize bs (seen d (2+un/128))=SE at*
     generalize un%128=um at*
     generalize un/128=ud at*
     have i1:(um:Int)<128:=by omega
     have i2:(ud:Int)<=8192:=by omega
     have i3:(um:Int)<=SE.size:=by omega
     have yy:(SE.extract 0 um++bs s).size=(SE.extract 0 um).size+(bs s).size:=ByteArray.size_append
     have hdd:decide (j*128-(un:Int)<(s.length:Int))=false:=MN (by omega)
     go_enter Tryz.func109,Tryz.ntmps109
     go_wp2_with fail
     refine HF.out.mono ?_;rintro e w' ⟨rfl,rfl⟩
     go_wp2_with fail
     refine HD.out.mono ?_;rintro e w' ⟨rfl,rfl⟩
     go_wp2_with fail
     refine RO.out.mono ?_;rintro e w' ⟨rfl,rfl⟩
     go_wp2_with fail
     go_loopw [11,14] (fun a t wr=>∃(d':DK) (a':Nat) (rs:List UInt8),a=.int .i64 a'/\t=.string (bs rs)/\Inv d' wr/\dL d' a' rs=dL d (2+ud) R0/\a'+rs.length<=20000/\d'.ops+rs.length<=60000/\d'.waits.length+rs.length<=10000/\rs.length<=4128) (fun _ t _=>KT t)
     case atStart=>exact⟨d,2+ud,R0,by go_num,congrArg Value.string hex.out,HI.out,rfl,by omega,by omega,by omega,Po⟩
     case round=>
      obtain⟨d',a',rs,rfl,rfl,hI,hA,b1,b2,b3,b4⟩:=hrel
      have hzr:(bs rs).size=rs.length:=Nj rs
      rcases bN rs with⟨q1,q2,q3,q4⟩|⟨q1,q2,q3⟩
      .subst q1
       rw[Cs]at hA
       have hr:=gI (Inv:=Inv) (w:=w) (n:=(un:Int)+s.length) (Sd.out.trans hA.symm) (by simp) hI
       have HR:=Mb hr
       clear hr hA hI
       go_wp2_with fail
       go_ret2
       exact HR.out
      .have Ot:rs≠[]:=by intro e;rw[e]at q3;simp at q3
       rw[dq Ot]at hA
       have Pe:=mr rs
       have Ti:=fun W (k:aa [] wr W)=>O.writeC (a':Int) (av rs) (O.keep hI k) (by omega) (by omega)
       have U6:=fk d' (a':Int) (av rs)
       have HW:=Mb Ti
       have PY:=Mb U6
       have HAA:=Mb hA
       clear Ti U6 hA hI Ot Pe
       generalize NV d' (a':Int) (av rs)=C at*
       generalize NG d' (a':Int) (av rs)=dn at*
       rcases(by omega:rs.length<=128\/128<rs.length)with g1|g1
       .have hmn:min (rs.length:Int) 128=rs.length:=by omega
        have Ta:=fun W=>lI ((bs rs).extract 0 rs.length) 128 W (by rw[aX,Nj];simp;omega) (by omega)
        have VR:Pg ((bs rs).extract 0 rs.length).data.toList 128=av rs:=by
         rw[aX,dP];unfold av
         rw[Mk g1];simp
        rw[VR]at Ta
        have HPF:=Mb Ta
        have XU:Hid (ByteArray.empty=bs (rs.drop 128)):=by
         show _=_;rw[List.drop_of_length_le g1];rfl
        clear Ta VR
        have g2:(rs.length:Int)<=128:=by omega
        go_wp2_with fail
        refine(HPF.out _).mono ?_;rintro e w2 ⟨rfl,k2⟩
        go_wp2_with fail
        refine(HW.out _ k2).mono ?_;rintro e w3 ⟨rfl,hI3⟩
        by_cases hC:C=0
        .subst hC
         have TK:=HAA.out
         rw[if_pos rfl]at TK
         have Xy:=Mb TK
         have HI3:=Mb hI3
         clear TK hI3 HAA
         go_wp2_with fail
         go_roundw
         case rel=>(try rw[XA]);((repeat apply Exists.intro);refine⟨?_,rfl⟩;exact⟨dn,a'+1,rs.drop 128,congrArg (Value.int .i64) (by omega),congrArg Value.string XU.out,HI3.out,Xy.out,by rw[Mq];omega,by have:=PY.out;rw[Mq];omega,by have:=PY.out;rw[Mq];omega,by rw[Mq];omega⟩)
         case measure=>(show ByteArray.empty.size<(bs rs).size;rw[Nj];show 0<rs.length;omega)
        .have TK:=HAA.out
         exact M59
       .have hmn:min (rs.length:Int) 128=128:=by omega
        have Ta:=fun W=>lI ((bs rs).extract 0 128) 128 W (by rw[aX,Nj];simp;omega) (by omega)
        have VR:Pg ((bs rs).extract 0 128).data.toList 128=av rs:=by
         rw[aX,dP];unfold av
         simp
        rw[VR]at Ta
        have HPF:=Mb Ta
        have XU:Hid ((bs rs).extract 128 rs.length=bs (rs.drop 128)):=by
         show _=_;rw[aX,Mk (by rw[Mq];omega)]
        clear Ta VR
        have g2:(128:Int)<rs.length:=by omega
        go_wp2_with fail
        refine(HPF.out _).mono ?_;rintro e w2 ⟨rfl,k2⟩
        go_wp2_with fail
        refine(HW.out _ k2).mono ?_;rintro e w3 ⟨rfl,hI3⟩
        by_cases hC:C=0
        .subst hC
         have TK:=HAA.out
         rw[if_pos rfl]at TK
         have Xy:=Mb TK
         have HI3:=Mb hI3
         clear TK hI3 HAA
         go_wp2_with fail
         go_roundw
         case rel=>(try rw[XA]);((repeat apply Exists.intro);refine⟨?_,rfl⟩;exact⟨dn,a'+1,rs.drop 128,congrArg (Value.int .i64) (by omega),congrArg Value.string XU.out,HI3.out,Xy.out,by rw[Mq];omega,by have:=PY.out;rw[Mq];omega,by have:=PY.out;rw[Mq];omega,by rw[Mq];omega⟩)
         case measure=>(show((bs rs).extract 128 rs.length).size<(bs rs).size;rw[XU.out,Nj,Nj,Mq];omega)
        .have TK:=HAA.out
         exact M59
   .rw[RS]at hd
    have HD:=Mb hd
    have hr:=gI (Inv:=Inv) (w:=w) (n:=0) (show Nm d j u s=(d,90)by unfold Nm;rw[if_neg (by omega),if_neg PA,if_pos RS]) (by rw[if_neg (by omega)]) h
    exact M47
 .have Rt:=D5 hc
  have hr:=gI (Inv:=Inv) (w:=w) (n:=0) (show Nm d j u s=(d,1)by unfold Nm;rw[if_pos hc]) (by rw[if_neg (by omega)]) h
  rw[Rt]at hf
  have HF:=Mb hf
  have HR:=Mb hr
  clear hf hr hc Rt h hj hu
  exact M79
theorem Kc (O:s9 Inv b) (h:Inv d w) (j u:Int) (hj:(Lit.int .i64 j).wf=true) (hu:(Lit.int .i64 u).wf=true):
  Calls Tryz.prog 123 #[.pointer (some ⟨b,0,none⟩),.int .i64 j,.int .i64 u] w fun e w'=>e=.returned (.tuple #[.string (bs (Oh d j u)),.int .i64 (NC d j u)])/\w=w':=by
 have hf:=DU O h j u hj hu
 by_cases hc:aN d.stand.length j u=0
 .obtain⟨c1,c2,c3,c4⟩:=gN hc
  obtain⟨n1,n2⟩:=O.len h
  have hd:=O.downC h
  rw[hc]at hf
  cases RS:d.down
  .have el:NC d j u=0:=by unfold NC;rw[if_neg (by omega),if_neg (by rw[RS];simp)]
   have es:Oh d j u=(ch d (Nv u).toNat).take u.toNat:=by unfold Oh;rw[if_pos el]
   rw[el,es]
   rw[RS]at hd
   have hn:=nY u w hu
   have PF:=fun(k:Nat) (hk:2+k<d.stand.length)=>O.readC (2+(k:Int)) h
   have Q2:∀k:Nat,2+k<d.stand.length->Og d (2+(k:Int))=seen d (2+k)/\N7 d (2+(k:Int))=0:=fun k hk=>by
    have e:N7 d (2+(k:Int))=0:=by
     unfold N7
     rw[RS,if_neg (by simp),if_neg (by omega)]
    refine⟨?_,e⟩
    unfold Og
    rw[if_pos e]
    congr 1
   have abI:∀k:Nat,2+k<d.stand.length->Calls Tryz.prog 62 #[.pointer (some ⟨b,0,none⟩),.int .i64 (2+(k:Int))] w fun e w'=>e=.returned (.tuple #[.string (bs (seen d (2+k))),.int .i64 0])/\w=w':=fun k hk=>by
    have h1:=PF k hk
    rw[(Q2 k hk).1,(Q2 k hk).2]at h1
    exact h1
   have hln:∀k:Nat,2+k<=d.stand.length->(ch d k).length=128*k:=fun k hk=>kE (O.fit h) k hk
   have Px:∀k:Nat,2+k<d.stand.length->(seen d (2+k)).length=128:=fun k hk=>hZ (O.fit h) hk
   have hnd:0<=Nv u/\Nv u+2<=d.stand.length/\u<=128*Nv u:=by
    unfold Nv
    split
    .omega
    .omega
   obtain⟨nd,aau⟩:=Mr hnd.1
   obtain⟨un,rfl⟩:=Mr c3
   rw[aau]at hn hnd ⊢
   obtain⟨_,hnd2,hnd3⟩:=hnd
   rw[ML,ML]
   have HF:=Mb hf
   have HD:=Mb hd
   have HN:=Mb hn
   have HR:=Mb abI
   have HL:=Mb hln
   have HS:=Mb Px
   clear hf hd hn PF abI hln Px Q2 el es RS hc h aau
   generalize d.stand.length=n at*
   go_enter Tryz.func123,Tryz.ntmps123
   go_wp2_with fail
   refine HF.out.mono ?_;rintro e w' ⟨rfl,rfl⟩
   go_wp2_with fail
   refine HD.out.mono ?_;rintro e w' ⟨rfl,rfl⟩
   go_wp2_with fail
   refine HN.out.mono ?_;rintro e w' ⟨rfl,rfl⟩
   go_wp2_with fail
   go_loop [9,24] (fun t i=>∃k:Nat,k<=nd/\i=.int .i64 k/\t=.string (bs (ch d k))) (fun _ i=>nd-(intOf i).toNat)
   case atStart=>exact⟨0,by omega,rfl,rfl⟩
   case round=>
    obtain⟨k,hk,rfl,rfl⟩:=hrel
    have hlk:=HL.out k (by omega)
    by_cases Ns:k<nd
    .have hrk:=HR.out k (by omega)
     have hsk:=HS.out k (by omega)
     have HRK:=Mb hrk
     have Ug:Hid (bs (ch d k)++bs (seen d (2+k))=bs (ch d (k+1))):=by show _=_;rw[aT,gQ]
     have y0:(bs (ch d k)).size<=2000000:=by rw[Nj,hlk];omega
     have y1:(bs (seen d (2+k))).size=128:=by rw[Nj,hsk]
     have yy:(bs (ch d k)++bs (seen d (2+k))).size=(bs (ch d k)).size+(bs (seen d (2+k))).size:=ByteArray.size_append
     have i1:(k:Int)<nd:=by omega
     have i2:(nd:Int)<=8192:=by omega
     have NU:=Mb Ns
     clear hrk hsk hlk
     generalize bs (seen d (2+k))=S1 at*
     generalize bs (ch d k)=S0 at*
     go_wp2_with fail
     refine HRK.out.mono ?_;rintro e w' ⟨rfl,rfl⟩
     go_wp2_with fail
     go_round
     case rel=>exact⟨k+1,NU.out,by go_num,by rw[<-Ug.out]⟩
     case measure=>(have hh:=NU.out;simp[intOf];omega)
    .obtain rfl:k=nd:=by omega
     have hex:Hid ((bs (ch d k)).extract 0 un=bs ((ch d k).take un)):=by show _=_;rw[aX];simp
     have y0:(bs (ch d k)).size=128*k:=by rw[Nj,hlk]
     have y1:un<=(bs (ch d k)).size:=by omega
     have y2:(un:Int)<=(bs (ch d k)).size:=by omega
     have y3:(0:Int)<=un:=by omega
     generalize bs (ch d k)=S0 at*
     go_wp2_with fail
     go_ret2
     exact⟨by rw[<-hex.out];rfl,rfl⟩
  .have el:NC d j u=90:=by unfold NC;rw[if_neg (by omega),if_pos RS]
   have es:Oh d j u=[]:=by unfold Oh;rw[if_neg (by omega)]
   rw[el,es]
   rw[RS]at hd
   have HF:=Mb hf
   have HD:=Mb hd
   clear hf hd el es hc h
   go_enter Tryz.func123,Tryz.ntmps123
   go_wp2_with fail
   refine HF.out.mono ?_;rintro e w' ⟨rfl,rfl⟩
   go_wp2_with fail
   refine HD.out.mono ?_;rintro e w' ⟨rfl,rfl⟩
   go_wp2_with fail
   go_ret2
   exact⟨rfl,rfl⟩
 .have Rt:=D5 hc
  have el:NC d j u=1:=by unfold NC;rw[if_pos hc]
  have es:Oh d j u=[]:=by unfold Oh;rw[if_neg (by omega)]
  rw[el,es]
  rw[Rt]at hf
  have HF:=Mb hf
  clear hf el es hc Rt h
  go_enter Tryz.func123,Tryz.ntmps123
  go_wp2_with fail
  refine HF.out.mono ?_;rintro e w' ⟨rfl,rfl⟩
  go_wp2_with fail
  go_ret2
  exact⟨rfl,rfl⟩
end Go.Proofs.YtdkimcnlhmhpgaaGreat
namespace Go.Proofs.YtdkimcnlhmhpgaaGreat
open Go.RowKit Go.Maps
variable {w' w0 w:World} {T:List Nat} {b sb mb lo:Nat} {d:DK}
structure DA (w:World) (b sb mb lo:Nat) (d:DK):Prop where
 disk:aI w b sb mb lo d
 fit:bg d
section
variable {w:World} {b sb mb lo:Nat} {d:DK}
theorem DA.aJ (h:DA w b sb mb lo d) (k:aa [] w w'):DA w' b sb mb lo d:=⟨h.disk.keep k (fun x hx=>by cases hx),h.fit⟩
theorem DA.aQ (h:DA w b sb mb lo d):b<w.heap.size:=h.disk.aQ
theorem DA.Bh (h:DA w b sb mb lo d):sb<w.heap.size:=by obtain⟨_,_,_,os,_⟩:=h.disk;exact os.lt
theorem DA.BG (h:DA w b sb mb lo d):mb<w.heap.size:=by obtain⟨_,_,_,_,_,hm,_⟩:=h.disk;exact hm.lt
theorem DA.len (h:DA w b sb mb lo d):1<=d.stand.length/\d.stand.length<=8192:=by
 obtain⟨_,_,_,_,_,_,_,_,_,_,_,_,h7,h8,_⟩:=h.disk
 exact⟨h7,h8⟩
theorem DA.read (h:DA w b sb mb lo d) (i:Int):Calls Tryz.prog 62 #[.pointer (some ⟨b,0,none⟩),.int .i64 i] w fun e w'=>e=.returned (.tuple #[.string (bs (Og d i)),.int .i64 (N7 d i)])/\w=w':=by
 by_cases hz:N7 d i=0
 .obtain⟨h1,h2,h3⟩:=fW hz
  obtain⟨n,rfl⟩:=Mr h2
  refine(Lm b sb mb lo d n w h.disk h1 (by omega)).mono fun e w' ⟨h4,h5⟩=>⟨?_,h5⟩
  rw[h4];unfold Og;rw[if_pos hz,hz];rfl
 .refine(Gk b sb mb lo d i w h.disk hz).mono fun e w' ⟨h4,h5⟩=>⟨?_,h5⟩
  rw[h4];unfold Og;rw[if_neg hz];rfl
theorem DA.write (h:DA w b sb mb lo d) (i:Int) (s:List UInt8) (ho:d.ops<100000) (hw:d.waits.length<=10000):
  Calls Tryz.prog 88 #[.pointer (some ⟨b,0,none⟩),.int .i64 i,.string (bs s)] w fun e w'=>e=.returned (.int .i64 (NV d i s))/\DA w' b sb mb lo (NG d i s)/\PK [] b sb mb w w':=by
 by_cases hz:N7 d i=0
 .by_cases hs:s.length=128
  .obtain⟨h1,h2,h3⟩:=fW hz
   obtain⟨n,rfl⟩:=Mr h2
   have e1:NG d (n:Int) s=aL d n s:=by unfold NG;rw[if_pos ⟨hz,hs⟩];rfl
   have e2:NV d (n:Int) s=if d.fuse=0 then 90 else 0:=by unfold NV;rw[if_neg (by omega),if_neg (by omega)]
   have hf:=h.fit.write (n:Int) s
   rw[e1]at hf ⊢
   rw[e2]
   exact(IY b sb mb lo d n s w h.disk h1 (by omega) hs ho hw).mono fun e w' ⟨h4,h5,h6⟩=>⟨h4,⟨h5,hf⟩,h6⟩
  .have e1:NG d i s=d:=by unfold NG;rw[if_neg (fun hh=>hs hh.2)]
   have e2:NV d i s=1:=by unfold NV;rw[if_neg (by omega),if_pos hs]
   rw[e1,e2]
   exact(Cc b sb mb lo d i (bs s) w h.disk hz (by rw[Nj];exact hs)).mono fun e w' ⟨h4,h5⟩=>⟨h4,by subst h5;exact h,by subst h5;exact PK.refl _ _ _ _ _⟩
 .have e1:NG d i s=d:=by unfold NG;rw[if_neg (fun hh=>hz hh.1)]
  have e2:NV d i s=N7 d i:=by unfold NV;rw[if_pos hz]
  rw[e1,e2]
  exact(Ea b sb mb lo d i (bs s) w h.disk hz).mono fun e w' ⟨h4,h5⟩=>⟨h4,by subst h5;exact h,by subst h5;exact PK.refl _ _ _ _ _⟩
theorem DA.flush (h:DA w b sb mb lo d) (ho:d.ops<100000) (hw:d.waits.length<=10000):
  Calls Tryz.prog 39 #[.pointer (some ⟨b,0,none⟩)] w fun e w'=>e=.returned (.int .i64 (gn d))/\DA w' b sb mb lo (bL d)/\PK [] b sb mb w w':=by
 have hf:=h.fit.flush
 unfold gn bL at*
 by_cases hd:d.down=true
 .rw[if_pos hd]at hf ⊢
  rw[if_pos hd]
  exact(zY b sb mb lo d w h.disk hd).mono fun e w' ⟨h4,h5⟩=>⟨h4,by subst h5;exact h,by subst h5;exact PK.refl _ _ _ _ _⟩
 .have Rf:d.down=false:=by simpa using hd
  rw[if_neg hd]at hf ⊢
  rw[if_neg hd]
  by_cases h0:d.fuse=0
  .rw[if_pos h0]at hf ⊢
   rw[if_pos h0]
   exact(zZ b sb mb lo d w h.disk Rf h0 ho).mono fun e w' ⟨h4,h5,h6⟩=>⟨h4,⟨h5,hf⟩,h6⟩
  .rw[if_neg h0]at hf ⊢
   rw[if_neg h0]
   exact(I0 b sb mb lo d w h.disk Rf h0 ho (fun x hx=>(h.fit.fine x hx).1) hw).mono fun e w' ⟨h4,h5,h6⟩=>⟨h4,⟨h5,hf⟩,h6⟩
theorem DA.iw (h:DA w b sb mb lo d) (v:Value) (keep:List Bool) (OD On:Nat) (hb:eA w v keep OD On) (hbs:sb<OD\/On<=sb) (hw:d.waits.length<=10000):
  Calls Tryz.prog 28 #[.pointer (some ⟨b,0,none⟩),v] w fun e w'=>e=.returned (.tuple #[])/\DA w' b sb mb lo (Oo d keep)/\PK [] b sb mb w w':=
 (IZ b sb mb lo d v keep OD On w h.disk (fun x hx=>(h.fit.fine x hx).1) hw hb hbs hb.len).mono fun e w' ⟨h4,h5,h6⟩=>⟨h4,⟨h5,h.fit.iw keep⟩,h6⟩
theorem DA.image (h:DA w b sb mb lo d):Calls Tryz.prog 26 #[.pointer (some ⟨b,0,none⟩)] w fun e w'=>e=.returned (.string (bs d.stand.flatten))/\DA w' b sb mb lo d/\aa [] w w':=
 (Ki b sb mb lo d w h.disk (fun s hs=>by rw[h.fit.all s hs];omega)).mono fun e w' ⟨h4,h5⟩=>⟨h4,h.aJ h5,h5⟩
end
theorem Ha (n:Nat) (w:World) (h1:1<=n) (h2:n<=8192):
  Calls Tryz.prog 9 #[.int .i64 n] w fun e w'=>∃b sb mb lo,e=.returned (.tuple #[.pointer (some ⟨b,0,none⟩),.int .i64 0])/\DA w' b sb mb lo (Pw (List.replicate n Nl))/\aa [] w w'/\w.heap.size<=b/\w.heap.size<=sb/\w.heap.size<=mb/\w.heap.size<=lo:=
 (L4 n w h1 h2).mono fun e w' ⟨b,sb,mb,lo,he,hA⟩=>⟨b,sb,mb,lo,he,⟨hA.disk,hA.fit⟩,hA.kept,hA.hb,hA.hsb,hA.hmb,hA.hlo⟩
theorem PK.Cl {S:List Nat} (h:PK T b sb mb w0 w) (k:aa S w w') (hb:b<w0.heap.size) (hl:∀x∈S,x∈T\/w0.heap.size<=x) (Vg:b∉S):PK T b sb mb w0 w':=
 ⟨k.os.trans h.os,k.tape.trans h.tape,k.output.trans h.output,MA h.size k.size,fun i hi h1 h2 h3 h4 h5=>(k.block i (Mo hi h.size) (fun hx=>by
  rcases hl i hx with h6|h6
  .exact h1 h6
  .omega)).trans (h.block i hi h1 h2 h3 h4 h5),fun i hi=>h.wb i ((WB.gz (k.cell (a:=⟨b,1,none⟩) (Mo hb h.size) Vg)).1 hi)⟩
theorem PK.Lv {D:Nat} (h:PK T b sb mb w0 w) (k:aa [D] w w') (hb:b<w0.heap.size) (hl:w0.heap.size<=D):PK T b sb mb w0 w':=
 h.Cl k hb (fun y hy=>by
  simp only[List.mem_cons,List.not_mem_nil,or_false]at hy
  exact Or.inr (by omega)) (fun hy=>by
  simp only[List.mem_cons,List.not_mem_nil,or_false]at hy
  omega)
def GJ (w0:World) (b sb mb lo:Nat) (d:DK) (w:World):Prop:=DA w b sb mb lo d/\PK [] b sb mb w0 w
theorem DA.Ca (h:DA w b sb mb lo d):GJ w b sb mb lo d w:=⟨h,PK.refl _ _ _ _ _⟩
theorem rA (w0:World) (b sb mb lo:Nat):s9 (GJ w0 b sb mb lo) b where
 len:=fun h=>h.1.len
 fit:=fun h=>h.1.fit
 keep:=fun h k=>⟨h.1.aJ k,h.2.trans (k.bM h.1.aQ)⟩
 lenC:=fun h=>Vx b sb mb lo _ _ h.1.disk
 downC:=fun h=>Hc b sb mb lo _ _ h.1.disk
 readC:=fun i h=>h.1.read i
 writeC:=fun i s h ho hw=>(h.1.write i s ho hw).mono fun e w' hh=>⟨hh.1,hh.2.1,h.2.trans hh.2.2⟩
theorem Ll {d0:DK} (h0:DA w0 b sb mb lo d0):pf (GJ w0 b sb mb lo) b w0.heap.size where
 ops:=rA w0 b sb mb lo
 writeB:=fun i s h ho hw=>(h.1.write i s ho hw).mono fun e w' hh=>⟨hh.1,⟨hh.2.1,h.2.trans hh.2.2⟩,((hh.2.2.Lk h.1.disk).both b).lX h0.aQ h0.Bh h0.BG h0.aQ⟩
 putD:=fun{d w w' D x} h ho k hl=>⟨⟨h.1.disk.putD ho k,h.1.fit⟩,h.2.Lv k h0.aQ hl⟩
theorem He (v:Value) (l:List (Int×Int)) (s:List UInt8) (OD On:Nat) (hD:DA w b sb mb lo d) (h:af w v l OD On) (hl:l.length<=1000000) (Ox:∀a∈l,aU a)
  (hs:s.length<=1048576) (ho:d.ops<=90000) (hw:d.waits.length<=1800):
  Calls Tryz.prog 49 #[.pointer (some ⟨b,0,none⟩),v,.string (bs s)] w fun e w'=>e=.returned (.int .i64 (NF d l s).2)/\DA w' b sb mb lo (NF d l s).1/\PK [] b sb mb w w':=
 (L1 (Ll hD) d v l s OD On w hD.Ca (Md _) h hl Ox hs ho hw).mono fun e w' hh=>⟨hh.1,hh.2.1.1,hh.2.1.2⟩
theorem ux (v:Value) (l:List (Int×Int)) (size:Int) (OD On:Nat) (hD:DA w b sb mb lo d) (h:af w v l OD On) (hl:l.length<=1000000) (Ox:∀a∈l,aU a)
  (O4:(Lit.int .i64 size).wf=true):
  Calls Tryz.prog 60 #[.pointer (some ⟨b,0,none⟩),v,.int .i64 size] w fun e w'=>e=.returned (.tuple #[.string (bs (Ov d l size)),.int .i64 (Nr d l size)])/\aa [] w w':=
 L2 (rA w b sb mb lo) d v l size OD On w hD.Ca h hl Ox O4
theorem F4 (j u:Int) (s:List UInt8) (hD:DA w b sb mb lo d) (hj:(Lit.int .i64 j).wf=true) (hu:(Lit.int .i64 u).wf=true) (hs:s.length<=4000) (ho:d.ops<=40000) (hw:d.waits.length<=5000):
  Calls Tryz.prog 109 #[.pointer (some ⟨b,0,none⟩),.int .i64 j,.int .i64 u,.string (bs s)] w fun e w'=>e=.returned (.tuple #[.int .i64 (jo d j u s),.int .i64 (Nm d j u s).2])/\DA w' b sb mb lo (Nm d j u s).1/\PK [] b sb mb w w':=
 (IJ (rA w b sb mb lo) hD.Ca j u s hj hu hs ho hw).mono fun e w' hh=>⟨hh.1,hh.2.1,hh.2.2⟩
theorem Kb (j u:Int) (hD:DA w b sb mb lo d) (hj:(Lit.int .i64 j).wf=true) (hu:(Lit.int .i64 u).wf=true):
  Calls Tryz.prog 123 #[.pointer (some ⟨b,0,none⟩),.int .i64 j,.int .i64 u] w fun e w'=>e=.returned (.tuple #[.string (bs (Oh d j u)),.int .i64 (NC d j u)])/\w=w':=
 Kc (rA w b sb mb lo) hD.Ca j u hj hu
end Go.Proofs.YtdkimcnlhmhpgaaGreat
namespace Go.Proofs.YtdkimcnlhmhpgaaGreat
open Go.RowKit
theorem JI (us:List (Nat×Array Value×Array Value)) (cs:Nat->Int) (I:Nat->World->Prop) (g off c:Nat) (w:World) (hn:us.length<=1000)
  (hen:∀(i:Nat) (h:i<us.length),Enters Tryz.prog us[i].1)
  (h0:I 0 w) (NW:∀k W,I k W->∀(i:Nat) (h:i<us.length),W.cell? ⟨g,off+i,none⟩=some (.func (.func us[i].1) us[i].2.1 us[i].2.2))
  (NQ:∀(k:Nat) (h:k<us.length) W,I k W->(∀i,i<k->cs i=0)->Calls Tryz.prog us[k].1 (us[k].2.1++us[k].2.2) W fun e W'=>e=.returned (.int .i64 (cs k))/\I (k+1) W'):
  Calls Tryz.prog 37 #[.slice (some ⟨g,off,none⟩) us.length c] w fun e w'=>(∃k,k<us.length/\(∀i,i<k->cs i=0)/\cs k≠0/\e=.returned (.int .i64 (cs k))/\I (k+1) w')\/((∀i,i<us.length->cs i=0)/\e=.returned (.int .i64 0)/\I us.length w'):=by
 have HEN:=Mb hen
 have HC:=Mb NW
 have HS:=Mb NQ
 clear hen NW NQ
 have hn':(us.length:Int)<=1000:=by omega
 go_enter Tryz.func37,Tryz.ntmps37
 go_wp2_with fail
 go_step3
 go_wp2_with fail
 go_step3
 go_wp2_with fail
 refine wp_loop_rounds 1 ?_
 rw[rounds_succ]
 go_wp2_with fail
 go_loopw [3,8] (fun e i wr=>∃k:Nat,k<=us.length/\i=.int .i64 k/\e=.int .i64 0/\(∀j,j<k->cs j=0)/\I k wr) (fun _ i _=>us.length-(intOf i).toNat)
 case atStart=>exact⟨0,by omega,rfl,rfl,(fun j hj=>by omega),h0⟩
 case round=>
  obtain⟨k,hk,rfl,rfl,hz,hI⟩:=hrel
  by_cases Ns:k<us.length
  .have Pe:=HC.out k _ hI k Ns
   have N8:=HS.out k Ns _ hI hz
   have he:=HEN.out k Ns
   unfold Enters at he
   have HZ:=Mb hz
   have NU:=Mb Ns
   generalize us[k].1=f at*
   generalize us[k].2.1=A at*
   generalize us[k].2.2=B at*
   have hlen:(k:Int)<us.length:=by omega
   clear hz hI
   go_wp2_with fail
   refine N8.mono ?_;rintro e w2 ⟨rfl,hI2⟩
   by_cases hc:cs k=0
   .have hz':∀j,j<k+1->cs j=0:=fun j hj=>by
     rcases Nat.lt_succ_iff_lt_or_eq.1 hj with h|h
     .exact HZ.out j h
     .rw[h];exact hc
    rw[hc]
    have HZ2:=Mb hz'
    clear hz' hc
    go_wp2_with fail
    go_roundw
    case rel=>exact⟨k+1,NU.out,by go_num,rfl,HZ2.out,hI2⟩
    case measure=>(have hh:=NU.out;simp[intOf];omega)
   .have hce:(cs k==0)=false:=by simpa using hc
    have HCN:=Mb hc
    clear hc
    go_wp2_with fail
    rw[Exit.noGoto_ret]
    go_ret
    exact Or.inl ⟨k,NU.out,HZ.out,HCN.out,rfl,hI2⟩
  .obtain rfl:k=us.length:=by omega
   have HZ:=Mb hz
   clear hz
   go_wp2_with fail
   rw[Exit.noGoto_ret]
   go_ret
   exact Or.inr ⟨HZ.out,rfl,hI⟩
end Go.Proofs.YtdkimcnlhmhpgaaGreat

/- -/
import Derived.Test.YtdkimcnlhmhpgaaGreatK22
set_option maxHeartbeats 16000000
set_option maxRecDepth 100000
namespace Go.Proofs.YtdkimcnlhmhpgaaGreat
open Go.RowKit
variable {w:World} {lo base n b:Nat} {x0 x1:Value} {t:TypeId}
theorem kX.grown {w':World} {v:Value} {y:Ly} {rv:Value} {xs:List Value} (h:kX w lo v y) (N3:w.ownsRow base 70 1 rv n xs) (hg:w.grownBy w' rv.ownBlock):kX w' lo v y:=by
 have key:∀g cs t,ae w g cs t->70≠t->ae w' g cs t:=fun g cs t o Ot=>by
  refine Eq.trans (hg.block g o.lt ?_) o
  rcases N3.2 with⟨rfl,_⟩|⟨g',cap,cur,rfl,_,hh,_⟩
  .simp[Value.ownBlock]
  .intro he
   have e:g=g':=by simpa[Value.ownBlock]using he
   subst e
   have o':w.heap[g]? =some (.cells cs t (0,0)):=o
   rw[o']at hh
   injection hh with hh
   injection hh with _ ht
   exact Ot ht.symm
 cases y with
 |hd s u=>obtain⟨g,h1,h2,h3,h4⟩:=h;exact⟨g,h1,h2,key g _ _ h3 (by decide),h4⟩
 |wd n=>obtain⟨g,h1,h2,h3,h4⟩:=h;exact⟨g,h1,h2,key g _ _ h3 (by decide),h4⟩
 |hf n=>obtain⟨g,h1,h2,h3,h4⟩:=h;exact⟨g,h1,h2,key g _ _ h3 (by decide),h4⟩
theorem J6 {x2 x3 x4 x5:Value} (h:ae w b #[x0,x1,x2,x3,x4,x5] t):w.cell? ⟨b,1,none⟩=some x1/\w.cell? ⟨b,2,none⟩=some x2/\w.cell? ⟨b,3,none⟩=some x3/\w.cell? ⟨b,4,none⟩=some x4/\w.cell? ⟨b,5,none⟩=some x5:=h.c6.2
theorem xI (h:ae w b #[x0,x1] t):w.cell? ⟨b,0,none⟩=some x0/\w.cell? ⟨b,1,none⟩=some x1:=h.c2
theorem Iw {g:Nat} {cs:Array Value} {e:TypeId} (h:ae w g cs e) (hn:cs.size=n) (hb:base<=g) (hm:n<=maxLen):w.ownsRow base e 1 (.slice (some ⟨g,0,none⟩) n n) n cs.toList:=
 ⟨by simp[hn],Or.inr ⟨g,n,cs,rfl,hb,h,Md _,hm,by simp[hn],by rw[Mk (by simp[hn])]⟩⟩
def SB.pz (s:SB) (v:Value) (k:Nat):List Ly:=
 [.hd s v,.wd s.sectors.toNat,.wd s.journal.toNat,.wd s.used.toNat,.wd s.size.toNat,.hf s.runs.length,.hf 0]++((s.runs.take k).map fun r=>[Ly.hf r.1.toNat,Ly.hf r.2.toNat]).flatten
theorem SB.FP (s:SB) (v:Value) (k:Nat) (h:k<s.runs.length):s.pz v (k+1)=s.pz v k++[.hf s.runs[k].1.toNat,.hf s.runs[k].2.toNat]:=by
 unfold SB.pz
 rw[Mf h,Ms,MR,<-Mi]
 rfl
def nJ (w:World) (lo:Nat) (v:Value) (zs:List (Value×Ly)):Prop:=
 w.ownsRow lo 70 1 v zs.length (zs.map (·.1))/\∀z∈zs,kX w lo z.1 z.2
theorem F8:∃i,Tryz.prog.info? 70=some i/\i.zero=some .nilFunc/\i.size=1/\i.bytes=8:=by
 have hi:(Tryz.prog.info? 70).map (fun i=>(i.zero,i.size,i.bytes))=some (some .nilFunc,1,8):=by kernel_rfl
 exact VQ
def Hf (w wx:World) (v:Value) (s:SB) (u:Value):Prop:=
 ∃zs,nJ wx w.heap.size v zs/\zs.map (·.2)=s.pz u 0/\ae wx w.heap.size (s.cells u) 58/\aa [] w wx
theorem Lg (w:World) (sq a b u z n:Nat) (l:List (Int×Int)) (v:Value) (hn:l.length=n) (hsq:sq<18446744073709551616) (ha:a<4294967296) (hb:b<4294967296) (hu:u<4294967296) (hz:z<4294967296) (Qy:n<65536):
  Hf w ((((((((w.alloc (.cells #[.int .u64 (sq:Int),.int .i64 (a:Int),.int .i64 (b:Int),.int .i64 (u:Int),.int .i64 (z:Int),v] 58)).alloc (.cells #[.int .i64 (a:Int)] 3)).alloc (.cells #[.int .i64 (b:Int)] 3)).alloc (.cells #[.int .i64 (u:Int)] 3)).alloc (.cells #[.int .i64 (z:Int)] 3)).alloc (.cells #[.int .i64 (n:Int)] 3)).alloc (.cells #[.int .i64 0] 3)).alloc (.cells #[.func (.func 228) #[] #[.pointer (some ⟨w.heap.size,0,none⟩)],.func (.func 225) #[] #[.pointer (some ⟨w.heap.size+1,0,none⟩)],.func (.func 225) #[] #[.pointer (some ⟨w.heap.size+1+1,0,none⟩)],.func (.func 225) #[] #[.pointer (some ⟨w.heap.size+1+1+1,0,none⟩)],.func (.func 225) #[] #[.pointer (some ⟨w.heap.size+1+1+1+1,0,none⟩)],.func (.func 227) #[] #[.pointer (some ⟨w.heap.size+1+1+1+1+1,0,none⟩)],.func (.func 227) #[] #[.pointer (some ⟨w.heap.size+1+1+1+1+1+1,0,none⟩)]] 70)).drew (.slice (some ⟨w.heap.size+1+1+1+1+1+1+1,0,none⟩) 7 7) ⟨sq,a,b,u,z,l⟩ v:=by
 obtain⟨o0,o1,o2,o3,o4,o5,o6,o7⟩:=vI w #[.int .u64 (sq:Int),.int .i64 (a:Int),.int .i64 (b:Int),.int .i64 (u:Int),.int .i64 (z:Int),v] #[.int .i64 (a:Int)] #[.int .i64 (b:Int)] #[.int .i64 (u:Int)] #[.int .i64 (z:Int)] #[.int .i64 (n:Int)] #[.int .i64 0] #[.func (.func 228) #[] #[.pointer (some ⟨w.heap.size,0,none⟩)],.func (.func 225) #[] #[.pointer (some ⟨w.heap.size+1,0,none⟩)],.func (.func 225) #[] #[.pointer (some ⟨w.heap.size+1+1,0,none⟩)],.func (.func 225) #[] #[.pointer (some ⟨w.heap.size+1+1+1,0,none⟩)],.func (.func 225) #[] #[.pointer (some ⟨w.heap.size+1+1+1+1,0,none⟩)],.func (.func 227) #[] #[.pointer (some ⟨w.heap.size+1+1+1+1+1,0,none⟩)],.func (.func 227) #[] #[.pointer (some ⟨w.heap.size+1+1+1+1+1+1,0,none⟩)]] 58 3 3 3 3 3 3 70
 have hr:=Iw (base:=w.heap.size) o7 (n:=7) rfl (by omega) (by unfold maxLen;omega)
 refine⟨[(.func (.func 228) #[] #[.pointer (some ⟨w.heap.size,0,none⟩)],.hd ⟨sq,a,b,u,z,l⟩ v),(.func (.func 225) #[] #[.pointer (some ⟨w.heap.size+1,0,none⟩)],.wd a),(.func (.func 225) #[] #[.pointer (some ⟨w.heap.size+1+1,0,none⟩)],.wd b),(.func (.func 225) #[] #[.pointer (some ⟨w.heap.size+1+1+1,0,none⟩)],.wd u),(.func (.func 225) #[] #[.pointer (some ⟨w.heap.size+1+1+1+1,0,none⟩)],.wd z),(.func (.func 227) #[] #[.pointer (some ⟨w.heap.size+1+1+1+1+1,0,none⟩)],.hf n),(.func (.func 227) #[] #[.pointer (some ⟨w.heap.size+1+1+1+1+1+1,0,none⟩)],.hf 0)],⟨hr,?_⟩,?_,o0,?_⟩
 .intro y hy
  simp only[List.mem_cons,List.not_mem_nil,or_false]at hy
  rcases hy with rfl|rfl|rfl|rfl|rfl|rfl|rfl
  .exact⟨_,Md _,rfl,o0,hsq⟩
  .exact⟨_,by omega,rfl,o1,ha⟩
  .exact⟨_,by omega,rfl,o2,hb⟩
  .exact⟨_,by omega,rfl,o3,hu⟩
  .exact⟨_,by omega,rfl,o4,hz⟩
  .exact⟨_,by omega,rfl,o5,Qy⟩
  .exact⟨_,by omega,rfl,o6,by omega⟩
 .subst hn
  simp[SB.pz]
 .exact((((((((((aa.refl _ _).alloc _).alloc _).alloc _).alloc _).alloc _).alloc _).alloc _).alloc _).drew)
theorem DR {w wr w5:World} {v:Value} {zs:List (Value×Ly)} {n1 n2 g cap:Nat} (h:nJ wr w.heap.size v zs) (hw:w.heap.size<=wr.heap.size) (h1:n1<65536) (h2:n2<65536)
  (o3:w5.ownsRow w.heap.size 70 1 (.slice (some ⟨g,0,none⟩) (zs.length+2) cap) (zs.length+2) (zs.map (·.1)++[.func (.func 227) #[] #[.pointer (some ⟨wr.heap.size+1,0,none⟩)],.func (.func 227) #[] #[.pointer (some ⟨wr.heap.size+1+1,0,none⟩)]]))
  (gr:World.grownBy ((((wr.alloc (.cells #[.int .i64 (n1:Int),.int .i64 (n2:Int)] 128)).alloc (.cells #[.int .i64 (n1:Int)] 3)).alloc (.cells #[.int .i64 (n2:Int)] 3)).alloc (.cells #[.func (.func 227) #[] #[.pointer (some ⟨wr.heap.size+1,0,none⟩)],.func (.func 227) #[] #[.pointer (some ⟨wr.heap.size+1+1,0,none⟩)]] 70)).drew w5 v.ownBlock):
  nJ w5 w.heap.size (.slice (some ⟨g,0,none⟩) (zs.length+2) cap) (zs++[(.func (.func 227) #[] #[.pointer (some ⟨wr.heap.size+1,0,none⟩)],.hf n1),(.func (.func 227) #[] #[.pointer (some ⟨wr.heap.size+1+1,0,none⟩)],.hf n2)]):=by
 obtain⟨N3,hlay⟩:=h
 have aav:=World.ownsRow.drew (Me (Me (Me (Me N3 (.cells #[.int .i64 (n1:Int),.int .i64 (n2:Int)] 128)) (.cells #[.int .i64 (n1:Int)] 3)) (.cells #[.int .i64 (n2:Int)] 3)) (.cells #[.func (.func 227) #[] #[.pointer (some ⟨wr.heap.size+1,0,none⟩)],.func (.func 227) #[] #[.pointer (some ⟨wr.heap.size+1+1,0,none⟩)]] 70))
 have k4:aa [] wr ((((wr.alloc (.cells #[.int .i64 (n1:Int),.int .i64 (n2:Int)] 128)).alloc (.cells #[.int .i64 (n1:Int)] 3)).alloc (.cells #[.int .i64 (n2:Int)] 3)).alloc (.cells #[.func (.func 227) #[] #[.pointer (some ⟨wr.heap.size+1,0,none⟩)],.func (.func 227) #[] #[.pointer (some ⟨wr.heap.size+1+1,0,none⟩)]] 70)).drew:=((((((aa.refl _ _).alloc _).alloc _).alloc _).alloc _).drew)
 obtain⟨_,q1,q2,_⟩:=jP wr #[.int .i64 (n1:Int),.int .i64 (n2:Int)] #[.int .i64 (n1:Int)] #[.int .i64 (n2:Int)] #[.func (.func 227) #[] #[.pointer (some ⟨wr.heap.size+1,0,none⟩)],.func (.func 227) #[] #[.pointer (some ⟨wr.heap.size+1+1,0,none⟩)]] 128 3 3 70
 refine⟨by simpa using o3,fun y hy=>?_⟩
 rw[Mj]at hy
 rcases hy with hy|hy
 .exact((hlay y hy).kept k4 (by simp)).grown aav gr
 .simp only[List.mem_cons,List.not_mem_nil,or_false]at hy
  rcases hy with rfl|rfl
  .exact kX.grown (y:=.hf n1) ⟨_,by omega,rfl,q1.drew,h1⟩ aav gr
  .exact kX.grown (y:=.hf n2) ⟨_,by omega,rfl,q2.drew,h2⟩ aav gr
theorem Fv (sq a b u z:Nat) (l:List (Int×Int)) (v:Value) (lo hi:Nat) (w:World) (h:af w v l lo hi) (hq:sq<18446744073709551616) (ha:a<=8192) (hb:b<=8192) (hu:u<=1048576) (hz:z<=1048576) (hl:l.length<=16)
  (OJ:∀k (hk:k<l.length),0<=l[k].1/\l[k].1<=8192/\0<=l[k].2/\l[k].2<=8192):
  Calls Tryz.prog 165 #[.agg #[.int .u64 (sq:Int),.int .i64 (a:Int),.int .i64 (b:Int),.int .i64 (u:Int),.int .i64 (z:Int),v]] w fun e w'=>(∃r zs,e=.returned r/\nJ w' w.heap.size r zs/\zs.map (·.2)=(SB.mk sq a b u z l).pz v l.length)/\aa [] w w':=by
 obtain⟨i0,hi0,hz0,PS,P8⟩:=F8
 obtain⟨p,c,rfl⟩:=h.shape
 have Xz:=Mb OJ
 clear OJ
 have hL0:=Lg w sq a b u z l.length l (.slice p l.length c) rfl hq (by omega) (by omega) (by omega) (by omega) (by omega)
 have HL0:=Mb hL0
 clear hL0
 have o:=ae.new w #[.int .u64 (sq:Int),.int .i64 (a:Int),.int .i64 (b:Int),.int .i64 (u:Int),.int .i64 (z:Int),.slice p l.length c] 58
 obtain⟨d0,d1,d2,d3,d4,d5⟩:=o.c6
 go_enter Tryz.func165,Tryz.ntmps165
 go_upto_region 3 with fail
 go_cut [5] (fun v5 wx=>Hf w wx v5 ⟨sq,a,b,u,z,l⟩ (.slice p l.length c))
 case first=>
  go_region_held3 (fun w'=>w'.cell? ⟨w.heap.size,1,none⟩=some (.int .i64 (a:Int))/\w'.cell? ⟨w.heap.size,2,none⟩=some (.int .i64 (b:Int))/\w'.cell? ⟨w.heap.size,3,none⟩=some (.int .i64 (u:Int))/\w'.cell? ⟨w.heap.size,4,none⟩=some (.int .i64 (z:Int))/\w'.cell? ⟨w.heap.size,5,none⟩=some (.slice p l.length c)) ((refine J6 (x0:=.int .u64 (sq:Int)) (t:=58) ?_;(repeat' first|exact o|refine ae.drew ?_|refine ae.alloc ?_ _)))
   (first
    |(go_at_call 224;((with_reducible refine(Lj _ _).mono ?_));rintro e w' ⟨rfl,rfl⟩)
    |(go_at_call 226;((with_reducible refine(G9 _ _).mono ?_));rintro e w' ⟨rfl,rfl⟩))
  all_goals go_wp2_with fail
  all_goals go_meet
  all_goals exact HL0.out
 case rest=>
  obtain⟨zs,hlays,hzs,ho,hkc⟩:=hcut
  unfold SB.cells at ho
  obtain⟨d0,d1,d2,d3,d4,d5⟩:=ho.c6
  have HZ:=Mb hzs
  clear hzs
  go_wp2_with fail
  go_loopw [5,36] (fun v i wr=>∃(k:Nat) (zs:List (Value×Ly)),k<=l.length/\i=.int .i64 k/\nJ wr w.heap.size v zs/\Aside (zs.map (·.2)=(SB.mk sq a b u z l).pz (.slice p l.length c) k/\zs.length=7+2*k)/\aa [] w wr) (fun _ i _=>l.length-(intOf i).toNat)
  case atStart=>exact⟨0,zs,by omega,rfl,hlays,⟨HZ.out,by have:=congrArg List.length HZ.out;rw[Mm]at this;rw[this];rfl⟩,hkc⟩
  case round=>
   obtain⟨k,zs,hk,rfl,hlays,hA,hK⟩:=hrel
   by_cases Ns:k<l.length
   .obtain⟨b',off,rfl,c0,c1,UW,Py,Pb⟩:=(h.kept0 hK).at_ k Ns
    obtain⟨p',cap',rfl⟩:=ai hlays.1
    have N3:=hlays.1
    have Rr:=Xz.out k Ns
    have Pt:=SB.FP (SB.mk sq a b u z l) (.slice (some ⟨b',off,none⟩) l.length c) k Ns
    simp only at Pt
    obtain⟨n1,Rx⟩:=Mr Rr.1
    obtain⟨n2,Qy⟩:=Mr Rr.2.2.1
    rw[Rx]at c0 Pt Rr
    rw[Qy]at c1 Pt Rr
    rw[ML,ML]at Pt
    have UT:=Mb Pt
    have hzl:zs.length<=100:=by have:=hA.2;omega
    have XN:=hK.size
    have TG:n1<65536:=by omega
    have Qo:n2<65536:=by omega
    have Ot:some wr.heap.size≠(Value.slice p' zs.length cap').ownBlock:=fun e=>by have:=(Mn N3 _ e.symm).2;omega
    have NQ:=fun w5 g cap=> @DR w wr w5 (.slice p' zs.length cap') zs n1 n2 g cap hlays XN TG Qo
    have Qu:=Mb NQ
    have Ul:=Mb Ot
    have HK:=Mb hK
    have HOW:=Mb N3
    have o1:=ae.new wr #[.int .i64 (n1:Int),.int .i64 (n2:Int)] 128
    clear Pt Rx Qy Rr hlays NQ Ot hK
    go_wp2_with fail
    go_region_held3 (fun w'=>w'.cell? ⟨wr.heap.size,0,none⟩=some (.int .i64 (n1:Int))/\w'.cell? ⟨wr.heap.size,1,none⟩=some (.int .i64 (n2:Int))) (first|go_keep|((refine xI (t:=128) ?_;(repeat' first|exact o1|refine ae.drew ?_|refine ae.alloc ?_ _))))
     (first
      |(go_at_call 226;((with_reducible refine(G9 _ _).mono ?_));rintro e w' ⟨rfl,rfl⟩)
      |(refine step_append_lies _ (by rfl) (.tmp 40) (.tmp 49) 226 (by rfl) w.heap.size 70 i0 .nilFunc 1 8 Tryz.underlying226 hi0 hz0 PS P8 rfl (by decide) _ _ _ (by rfl) (World.ownsRow.drew (Me (Me (Me (Me HOW.out _) _) _) _)) ⟨wr.heap.size+1+1+1,0,none⟩ 2 2 [.func (.func 227) #[] #[.pointer (some ⟨wr.heap.size+1,0,none⟩)],.func (.func 227) #[] #[.pointer (some ⟨wr.heap.size+1+1,0,none⟩)]] (by rfl) rfl (World.news_of_block (jP wr _ _ _ _ _ _ _ _).2.2.2) (by intro u hu;simp at hu;rcases hu with rfl|rfl<;>rfl) (by decide) (by unfold maxLen;omega) (by omega) (by simp;omega) (wr.heap.size+1+1+1+1) (by simp) ?_;intro g3 VU w5 o3 Sh at3 lt3;have y0:w5.cell? ⟨wr.heap.size,0,none⟩=some (.int .i64 (n1:Int)):=(by rw[Sh.cell_far ⟨wr.heap.size,0,none⟩ (by simp;omega) Ul.out];exact(xI (t:=128) (by(repeat' first|exact o1|refine ae.drew ?_|refine ae.alloc ?_ _))).1);have y1:w5.cell? ⟨wr.heap.size,1,none⟩=some (.int .i64 (n2:Int)):=(by rw[Sh.cell_far ⟨wr.heap.size,1,none⟩ (by simp;omega) Ul.out];exact(xI (t:=128) (by(repeat' first|exact o1|refine ae.drew ?_|refine ae.alloc ?_ _))).2)))
    have hL5:=Qu.out w5 g3 VU o3 Sh
    have Ri:aa [] w w5:=(((((HK.out.alloc _).alloc _).alloc _).alloc _).drew).grown Sh (fun g hg=>Or.inr (Mn HOW.out g hg).1)
    clear Sh o3 at3 y0 y1
    go_wp2_with fail
    go_roundw
    case rel=>exact⟨k+1,_,by omega,by go_num,hL5,⟨by rw[Ms,hA.1,UT.out];rfl,by have:=hA.2;simp;omega⟩,Ri⟩
    case measure=>simp[intOf];omega
   .obtain rfl:k=l.length:=by omega
    have hA1:=Mb hA.1
    clear hA
    go_wp2_with fail
    go_ret
    exact⟨⟨_,zs,rfl,hlays,hA1.out⟩,hK⟩
def bV (l:List (Int×Int)):List UInt8:=(l.map fun r=>Nh r.1.toNat 2++Nh r.2.toNat 2).flatten
def SB.body (s:SB):List UInt8:=
 cM++Nh s.seq 8++Nh s.sectors.toNat 4++Nh s.journal.toNat 4++Nh s.used.toNat 4++Nh s.size.toNat 4++Nh s.runs.length 2++Nh 0 2++bV s.runs
def SB.sector (s:SB):List UInt8:=eR (Pg s.body 124)
theorem FQ (l:List (Int×Int)):(((l.map fun r=>[Ly.hf r.1.toNat,Ly.hf r.2.toNat]).flatten).map Ly.fl).flatten=bV l:=by
 induction l with
 |nil=>rfl
 |cons a l ih=>
  simp only[List.map_cons,List.flatten_cons,Ms,MR,bV]
  rw[ih]
  simp[Ly.fl,bV]
theorem FR (s:SB) (v:Value):((s.pz v s.runs.length).map Ly.fl).flatten=s.body:=by
 unfold SB.pz
 rw[MC,Ms,MR,FQ]
 simp[Ly.fl,SB.body]
theorem vx (l:List (Int×Int)):(bV l).length=4*l.length:=by
 induction l with
 |nil=>rfl
 |cons a l ih=>simp only[bV,List.map_cons,List.flatten_cons,Mc,aq,Mz]at*;omega
theorem ym (s:SB):s.body.length=36+4*s.runs.length:=by
 simp only[SB.body,Mc,aq,vx,cM,Mz,List.length_nil]
theorem yf (l:List UInt8) (h:l.length<=124):(Pg l 124).length=124:=by
 unfold Pg;rw[Mc,MF];omega
theorem dG (s:SB) (h:s.runs.length<=16):s.sector.length=128:=by
 unfold SB.sector eR
 rw[Mc,aq,yf _ (by rw[ym];omega)]
theorem Iu (s:SB) (v:Value) (lo hi:Nat) (w:World) (h:af w v s.runs lo hi) (hm:s.may) (hq:s.seq<18446744073709551616):
  Calls Tryz.prog 165 #[.agg (s.cells v)] w fun e w'=>(∃r zs,e=.returned r/\nJ w' w.heap.size r zs/\zs.map (·.2)=s.pz v s.runs.length)/\aa [] w w':=by
 obtain⟨⟨g1,g2,g3,g4,g5,g6,g7,g8,g9,g10⟩,hL,_⟩:=hm
 have hLO:=ie (Md _) hL
 obtain⟨sq,a,b,u,z,l⟩:=s
 simp only at*
 obtain⟨a,rfl⟩:=Mr (show 0<=a by omega)
 obtain⟨b,rfl⟩:=Mr (show 0<=b by omega)
 obtain⟨u,rfl⟩:=Mr (show 0<=u by omega)
 obtain⟨z,rfl⟩:=Mr (show 0<=z by omega)
 exact Fv sq a b u z l v lo hi w h hq (by omega) (by omega) (by omega) (by omega) g10 (fun k hk=>by
  have:=eM.1 (hLO k hk)
  omega)
theorem M32 {A:Prop}(h:A:=by
 go_wp2_with fail
 refine(hc _ ho).mono ?_;rintro e w3 ⟨rfl,PE⟩
 go_wp2_with fail
 go_roundw
 case rel=>exact⟨k+1,NU.out,by go_num,by rw[HT2.out,<-N6.out],hK.trans PE⟩
 case measure=>(have hh:=NU.out;simp[intOf];omega)):A:=h
theorem J5 (s:SB) (v:Value) (lo hi:Nat) (w:World) (h:af w v s.runs lo hi) (hm:s.may) (hq:s.seq<18446744073709551616):
  Calls Tryz.prog 93 #[.agg (s.cells v)] w fun e w'=>e=.returned (.tuple #[.string (bs s.sector),.int .i64 0])/\aa [] w w':=by
 have Rm:s.runs.length<=16:=hm.1.2.2.2.2.2.2.2.2.2
 have hC:=fun w' (hk:aa [] w w')=>(Dt s v lo hi w' (h.kept0 hk) (by omega)).mono fun e w'' hh=>(show e=.returned (.int .i64 0)/\aa [] w' w'' from⟨by
  rcases hh.1 with⟨_,e1⟩|⟨e1,_⟩
  .exact e1
  .exact absurd hm e1,hh.2⟩)
 have hF:=fun w' (hk:aa [] w w')=>Iu s v lo hi w' (h.kept0 hk) hm hq
 have o:=ae.new w (s.cells v) 58
 have hb:=ym s
 have Tr:=FR s v
 have HB:=Mb Tr
 have YW:=fun w=>lI (bs s.body) 124 w (by rw[Nj];omega) (by omega)
 rw[dP]at YW
 have Za:=fun w=>Ce (Pg s.body 124) w (by rw[yf _ (by omega)];omega)
 have S4:eR (Pg s.body 124)=s.sector:=rfl
 rw[S4]at Za
 have HC:=Mb hC
 have HF:=Mb hF
 clear hC hF h hm Tr S4
 generalize Pg s.body 124=FL at*
 generalize s.sector=SL at*
 unfold SB.cells at*
 go_enter Tryz.func93,Tryz.ntmps93
 obtain⟨d0,d1,d2,d3,d4,d5⟩:=o.c6
 go_wp2_with fail
 refine(HC.out _ ((aa.refl _ _).alloc _)).mono ?_;rintro e w1 ⟨rfl,OY⟩
 have o1:=OY.own o (by simp)
 obtain⟨d0,d1,d2,d3,d4,d5⟩:=o1.c6
 go_wp2_with fail
 refine(HF.out _ (((aa.refl _ _).alloc _).trans OY)).mono ?_;rintro e w2 ⟨⟨r,zs,rfl,⟨N3,hlay⟩,hzs⟩,P9⟩
 have hzl:zs.length=(s.pz v s.runs.length).length:=by rw[<-hzs,Mm]
 have acG:zs.length=7+2*s.runs.length:=by
  rw[hzl];unfold SB.pz;rw[MC,Mc]
  have:∀l:List (Int×Int),((l.map fun r=>[Ly.hf r.1.toNat,Ly.hf r.2.toNat]).flatten).length=2*l.length:=fun l=>by
   induction l with
   |nil=>rfl
   |cons a l ih=>simp only[List.map_cons,List.flatten_cons,Mc,Mz,ih,List.length_nil];omega
  rw[this];rfl
 have Sv:(zs.map fun z=>z.2.fl).flatten=s.body:=by
  rw[<-HB.out,<-hzs,List.map_map];rfl
 have HT:=Mb Sv
 have QC:aa [] w w2:=(((aa.refl _ _).alloc _).trans OY).trans P9
 have ad3:w.heap.size<=w1.heap.size:=by have:=OY.size;simp at this;omega
 clear hzl hzs Sv HF HC HB
 obtain⟨g,cap,rfl,hg⟩:∃g cap,r=.slice (some ⟨g,0,none⟩) zs.length cap/\(Value.slice (some ⟨g,0,none⟩) zs.length cap).ownBlock=some g:=by
  rcases N3.2 with⟨_,hx⟩|⟨g,cap,cur,rfl,_⟩
  .omega
  .exact⟨g,cap,rfl,rfl⟩
 have hzb:zs.length<=100:=by omega
 have H2:=Mb acG
 clear acG
 go_wp2_with fail
 go_loopw [5,16] (fun t i wr=>∃k:Nat,k<=zs.length/\i=.int .i64 k/\t=.string (bs ((zs.take k).map fun z=>z.2.fl).flatten)/\aa [] w2 wr) (fun _ i _=>zs.length-(intOf i).toNat)
 case atStart=>exact⟨0,by omega,rfl,rfl,aa.refl _ _⟩
 case round=>
  obtain⟨k,hk,rfl,rfl,hK⟩:=hrel
  by_cases Ns:k<zs.length
  .have To:=au N3 hK (by simp)
   have YB:=(hlay zs[k] (Mh _)).kept hK (by simp)
   have NW:=World.ownsRow.cells To hg k zs[k].1 (by simp[Ns])
   rw[My,Nat.zero_add]at NW
   have Us:((zs.take (k+1)).map fun z=>z.2.fl).flatten=((zs.take k).map fun z=>z.2.fl).flatten++zs[k].2.fl:=by
    rw[Mf Ns,Ms,MR]
    congr 1;simp
   have O4:(((zs.take k).map fun z=>z.2.fl).flatten).length<=1000:=by
    have e1:(zs.map fun z=>z.2.fl).flatten=((zs.take k).map fun z=>z.2.fl).flatten++((zs.drop k).map fun z=>z.2.fl).flatten:=by
     rw[<-MR,<-Ms,List.take_append_drop]
    have e2:=congrArg List.length (e1.symm.trans HT.out)
    rw[Mc]at e2;omega
   have ael:(bs ((zs.take k).map fun z=>z.2.fl).flatten).size<=1000:=by rw[Nj];exact O4
   have N6:Hid (bs ((zs.take k).map fun z=>z.2.fl).flatten++bs zs[k].2.fl=bs ((zs.take (k+1)).map fun z=>z.2.fl).flatten):=by
    show bs _++bs _=_;rw[aT,Us]
   have NU:=Mb Ns
   clear Us O4 To
   generalize ((zs.take k).map fun z=>z.2.fl).flatten=T at*
   generalize hT2:((zs.take (k+1)).map fun z=>z.2.fl).flatten=T2 at*
   have HT2:=Mb hT2
   clear hT2
   generalize zs[k].1=f at*
   generalize zs[k].2=y at*
   cases y with
   |hd s' u=>
    obtain⟨g',_,rfl,ho,hs⟩:=YB
    have P8:(bs (Ly.hd s' u).fl).size<=100:=by rw[Nj];simp[Ly.fl,aq,cM]
    have hc:=fun w h=>Lu g' s' u w h hs
    rw[show cM++Nh s'.seq 8=(Ly.hd s' u).fl from rfl]at hc
    generalize (Ly.hd s' u).fl=tx at*
    exact M32
   |wd n=>
    obtain⟨g',_,rfl,ho,hs⟩:=YB
    have P8:(bs (Ly.wd n).fl).size<=100:=by rw[Nj];simp[Ly.fl,aq]
    have hc:=fun w h=>Ls g' n w h hs
    rw[show Nh n 4=(Ly.wd n).fl from rfl]at hc
    generalize (Ly.wd n).fl=tx at*
    exact M32
   |hf n=>
    obtain⟨g',_,rfl,ho,hs⟩:=YB
    have P8:(bs (Ly.hf n).fl).size<=100:=by rw[Nj];simp[Ly.fl,aq]
    have hc:=fun w h=>Lt g' n w h hs
    rw[show Nh n 2=(Ly.hf n).fl from rfl]at hc
    generalize (Ly.hf n).fl=tx at*
    exact M32
  .obtain rfl:k=zs.length:=by omega
   have e1:((zs.take zs.length).map fun z=>z.2.fl).flatten=s.body:=by rw[MC];exact HT.out
   rw[e1]at*
   clear e1
   generalize s.body=B at*
   go_wp2_with fail
   refine(YW _).mono ?_;rintro e w3 ⟨rfl,PE⟩
   go_wp2_with fail
   refine(Za _).mono ?_;rintro e w4 ⟨rfl,Rp⟩
   go_wp2_with fail
   go_ret2
   exact⟨rfl,((QC.trans hK).trans PE).trans Rp⟩
theorem Iq (s:SB) (v:Value) (lo hi:Nat) (w:World) (h:af w v s.runs lo hi) (hl:s.runs.length<=1000000) (hm:¬s.may):
  Calls Tryz.prog 93 #[.agg (s.cells v)] w fun e w'=>e=.returned (.tuple #[.string (bs []),.int .i64 1])/\aa [] w w':=by
 have hC:=fun w' (hk:aa [] w w')=>(Dt s v lo hi w' (h.kept0 hk) hl).mono fun e w'' hh=>(show e=.returned (.int .i64 1)/\aa [] w' w'' from⟨by
  rcases hh.1 with⟨e1,_⟩|⟨_,e1⟩
  .exact absurd e1 hm
  .exact e1,hh.2⟩)
 have o:=ae.new w (s.cells v) 58
 have HC:=Mb hC
 clear hC h hm
 unfold SB.cells at*
 go_enter Tryz.func93,Tryz.ntmps93
 obtain⟨d0,d1,d2,d3,d4,d5⟩:=o.c6
 go_wp2_with fail
 refine(HC.out _ ((aa.refl _ _).alloc _)).mono ?_;rintro e w1 ⟨rfl,OY⟩
 go_wp2_with fail
 go_ret2
 exact⟨rfl,((aa.refl _ _).alloc _).trans OY⟩
theorem pF {T:List Nat} {sb mb:Nat} {d:DK} (hD:DA w b sb mb lo d) (ho:d.ops<100000) (hw:d.waits.length<=10000):
  Calls Tryz.prog 39 (#[.pointer (some ⟨b,0,none⟩)]++#[]) w fun e w'=>e=.returned (.int .i64 (Ni d).2)/\DA w' b sb mb lo (Ni d).1/\PK T b sb mb w w':=by
 rw[Array.append_empty]
 exact(hD.flush ho hw).mono fun e w' ⟨h1,h2,h3⟩=>⟨h1,h2,h3.mono (by simp)⟩
theorem KJ {T:List Nat} (n g1 g2 g3:Nat) (i:Int) (s:List UInt8) {w:World} {b sb mb lo:Nat} {d:DK} (hD:DA w b sb mb lo d)
  (on:ae w n #[.func (.func 87) #[] #[.pointer (some ⟨g1,0,none⟩),.pointer (some ⟨g2,0,none⟩),.pointer (some ⟨g3,0,none⟩)],.func (.func 39) #[.pointer (some ⟨b,0,none⟩)] #[]] 42)
  (h1:ae w g1 #[.pointer (some ⟨b,0,none⟩)] 23) (h2:ae w g2 #[.int .i64 i] 3) (h3:ae w g3 #[.string (bs s)] 9)
  (f0:aW T w b sb mb n) (f1:aW T w b sb mb g1) (f2:aW T w b sb mb g2) (f3:aW T w b sb mb g3) (ho:d.ops<=90000) (hw:d.waits.length<=9000):
  Calls Tryz.prog 37 #[.slice (some ⟨n,0,none⟩) 2 2] w fun e w'=>e=.returned (.int .i64 (ah [Nq i s,Ni] d).2)/\DA w' b sb mb lo (ah [Nq i s,Ni] d).1/\PK T b sb mb w w':=by
 refine wG [Nq i s,Ni] [(87,#[],#[.pointer (some ⟨g1,0,none⟩),.pointer (some ⟨g2,0,none⟩),.pointer (some ⟨g3,0,none⟩)]),(39,#[.pointer (some ⟨b,0,none⟩)],#[])] rfl n 0 2 hD (by simp) (fun k h=>?_) on.lt f0 (fun k h=>?_) (fun k h W hW hk _=>?_)
 .match k,h with
  |0,_=>exact enters_of Tryz.func87 (by kernel_rfl) rfl
  |1,_=>exact enters_of Tryz.func39 (by kernel_rfl) rfl
 .match k,h with
  |0,_=>exact on.cell 0 (by simp)
  |1,_=>exact on.cell 1 (by simp)
 .match k,h with
  |0,_=>
   have:=uH (T:=T) g1 g2 g3 i s hW (hk.own h1 f1) (hk.own h2 f2) (hk.own h3 f3) (by show d.ops<_;omega) (by show d.waits.length<=_;omega)
   exact this
  |1,_=>
   obtain⟨e1,e2,_⟩:=fk d i s
   exact pF hW (by show(NG d i s).ops<_;omega) (by show(NG d i s).waits.length<=_;omega)
def aE (s:SB) (d:DK):DK×Int:=ah [Nq ((s.seq%2:Nat):Int) s.sector,Ni] d
theorem Ba (b:Nat) (s:SB) (v:Value) (w:World):
  Calls Tryz.prog 40 #[.pointer (some ⟨b,0,none⟩),.agg (s.cells v)] w fun e w'=>e=.returned (.func (.func 92) #[] #[.pointer (some ⟨w.heap.size+1,0,none⟩),.pointer (some ⟨w.heap.size,0,none⟩)])/\(w.alloc (.cells #[.pointer (some ⟨b,0,none⟩)] 23)).alloc (.cells (s.cells v) 58)=w':=by
 unfold SB.cells
 go_enter Tryz.func40,Tryz.ntmps40
 go_wp2_with fail
 go_ret
 exact⟨rfl,rfl⟩
theorem wZ {T:List Nat} (gS gD:Nat) (s:SB) (v:Value) {w:World} {b sb mb lo:Nat} {d:DK} (hD:DA w b sb mb lo d) (hT:∀x∈T,x<w.heap.size) (hS:ae w gS (s.cells v) 58) (hd:ae w gD #[.pointer (some ⟨b,0,none⟩)] 23)
  (hr:b8 T w b sb mb v s.runs) (hm:s.may) (hq:s.seq<18446744073709551616) (fS:aW T w b sb mb gS) (fD:aW T w b sb mb gD) (ho:d.ops<=90000) (hw:d.waits.length<=9000):
  Calls Tryz.prog 92 #[.pointer (some ⟨gS,0,none⟩),.pointer (some ⟨gD,0,none⟩)] w fun e w'=>e=.returned (.int .i64 (aE s d).2)/\DA w' b sb mb lo (aE s d).1/\PK T b sb mb w w':=by
 obtain⟨OD,On,NT⟩:=hr.1
 have hP:=J5 s v OD On w NT hm hq
 have hSL:=fun W=>GT s.seq W hq
 have hWR:=fun W=>CQ b ((s.seq%2:Nat):Int) s.sector W
 unfold aE
 have HA:Hid (∀W,aa [] w W->∀n g1 g2 g3,w.heap.size<=n->w.heap.size<=g1->w.heap.size<=g2->w.heap.size<=g3->ae W n #[.func (.func 87) #[] #[.pointer (some ⟨g1,0,none⟩),.pointer (some ⟨g2,0,none⟩),.pointer (some ⟨g3,0,none⟩)],.func (.func 39) #[.pointer (some ⟨b,0,none⟩)] #[]] 42->
   ae W g1 #[.pointer (some ⟨b,0,none⟩)] 23->ae W g2 #[.int .i64 ((s.seq%2:Nat):Int)] 3->ae W g3 #[.string (bs s.sector)] 9->
   Calls Tryz.prog 37 #[.slice (some ⟨n,0,none⟩) 2 2] W fun e w'=>e=.returned (.int .i64 (ah [Nq ((s.seq%2:Nat):Int) s.sector,Ni] d).2)/\DA w' b sb mb lo (ah [Nq ((s.seq%2:Nat):Int) s.sector,Ni] d).1/\PK T b sb mb W w'):=Mb (fun W k n g1 g2 g3 a0 a1 a2 a3 o0 o1 o2 o3=>
  KJ n g1 g2 g3 _ _ (hD.aJ k) o0 o1 o2 o3 (hD.bh hT k a0) (hD.bh hT k a1) (hD.bh hT k a2) (hD.bh hT k a3) ho hw)
 have T6:Hid (∀W,PK T b sb mb w W->W.cell? ⟨gD,0,none⟩=some (.pointer (some ⟨b,0,none⟩))/\W.cell? ⟨gS,0,none⟩=some (.int .u64 s.seq)):=Mb (fun W k=>⟨(k.own hd fD).cell 0 (by simp),(k.own hS fS).cell 0 (by simp[SB.cells])⟩)
 have HB:=Mb hD.aQ
 have RF:=hS
 unfold SB.cells at hS hP
 obtain⟨x0,x1,x2,x3,x4,x5⟩:=hS.c6
 have HX:=Mb hS
 have HQ:=Mb hq
 have HP:=Mb hP
 have Tk:=Mb hSL
 have HWR:=Mb hWR
 clear hD hT hS hd hr hm hq fS fD ho hw NT hP hSL hWR RF
 generalize Tq:ah [Nq ((s.seq%2:Nat):Int) s.sector,Ni] d=CH at*
 clear Tq
 generalize hss:s.sector=SS at*
 clear hss
 obtain⟨sq,se,jr,us,sz,rs⟩:=s
 simp only at*
 generalize QJ:((sq%2:Nat):Int)=SLT at*
 clear QJ
 go_enter Tryz.func92,Tryz.ntmps92
 go_wp2_with fail
 refine HP.out.mono ?_;rintro e w1 ⟨rfl,k1⟩
 obtain⟨z1,z2⟩:=T6.out _ (k1.bM HB.out)
 have K1:=Mb k1
 clear k1 x0 x1 x2 x3 x4 x5
 go_upto_region 4 with fail
 go_cut [2]from 13 to 22 (fun v2 wx=>v2=.int .i64 CH.2/\DA wx b sb mb lo CH.1/\PK T b sb mb w wx)
 case first=>
  refine Ml (S:=(fun W=>W.cell? ⟨gD,0,none⟩=some (.pointer (some ⟨b,0,none⟩))/\W.cell? ⟨gS,0,none⟩=some (.int .u64 sq))) (by kernel_rfl) (by exact T6.out _ ((K1.out.drew).bM HB.out)) (fun hHeld=>?_)
  refine tk 0 13 ?_
  refine tk 1 14 ?_
  refine tk 2 15 ?_
  refine tk 4 17 ?_
  refine tk 6 19 ?_
  refine tk 7 20 ?_
  refine rd 3 (fun K hK=>?_)
  go_simp
  ((with_reducible refine(Tk.out _).mono ?_));rintro e w2 ⟨rfl,rfl⟩
  go_wp2_with fail
  refine hK.out _ _ ?_ (fun hHeld=>nm ?_)
  .exact T6.out _ ((K1.out.drew).bM HB.out)
  clear hK K
  refine rd 5 (fun K hK=>?_)
  go_simp
  ((with_reducible refine(HWR.out _).mono ?_));rintro e w2 ⟨rfl,rfl⟩
  go_wp2_with fail
  refine hK.out _ _ ?_ (fun hHeld=>nm ?_)
  .exact T6.out _ ((((K1.out.drew.alloc (.cells #[.pointer (some ⟨b,0,none⟩)] 23)).alloc (.cells #[.int .i64 SLT] 3)).alloc (.cells #[.string (bs SS)] 9)).bM HB.out)
  clear hK K
  refine rd 8 (fun K hK=>?_)
  go_simp
  refine hK.out _ _ ?_ (fun hHeld=>nm ?_)
  .exact T6.out _ ((((((K1.out.alloc (.cells #[.pointer (some ⟨b,0,none⟩)] 23)).alloc (.cells #[.int .i64 SLT] 3)).alloc (.cells #[.string (bs SS)] 9)).alloc (.cells #[.func (.func 87) #[] #[.pointer (some ⟨w1.heap.size,0,none⟩),.pointer (some ⟨w1.heap.size+1,0,none⟩),.pointer (some ⟨w1.heap.size+2,0,none⟩)],.func (.func 39) #[.pointer (some ⟨b,0,none⟩)] #[]] 42)).drew).bM HB.out)
  clear hK K
  obtain⟨o1,o2,o3,o4⟩:=jP w1 #[.pointer (some ⟨b,0,none⟩)] #[.int .i64 SLT] #[.string (bs SS)] #[.func (.func 87) #[] #[.pointer (some ⟨w1.heap.size,0,none⟩),.pointer (some ⟨w1.heap.size+1,0,none⟩),.pointer (some ⟨w1.heap.size+2,0,none⟩)],.func (.func 39) #[.pointer (some ⟨b,0,none⟩)] #[]] 23 3 9 42
  have Q6:=K1.out.size
  refine rd 9 (fun K hK=>?_)
  go_simp
  ((with_reducible refine(HA.out _ (((((K1.out.alloc (.cells #[.pointer (some ⟨b,0,none⟩)] 23)).alloc (.cells #[.int .i64 SLT] 3)).alloc (.cells #[.string (bs SS)] 9)).alloc (.cells #[.func (.func 87) #[] #[.pointer (some ⟨w1.heap.size,0,none⟩),.pointer (some ⟨w1.heap.size+1,0,none⟩),.pointer (some ⟨w1.heap.size+2,0,none⟩)],.func (.func 39) #[.pointer (some ⟨b,0,none⟩)] #[]] 42)).drew) _ w1.heap.size (w1.heap.size+1) (w1.heap.size+2) (by omega) Q6 (by omega) (by omega) o4.drew o1.drew o2.drew o3.drew).mono ?_));rintro e w5 ⟨rfl,Yj,k5⟩
  have Ra:=((((((K1.out.alloc (.cells #[.pointer (some ⟨b,0,none⟩)] 23)).alloc (.cells #[.int .i64 SLT] 3)).alloc (.cells #[.string (bs SS)] 9)).alloc (.cells #[.func (.func 87) #[] #[.pointer (some ⟨w1.heap.size,0,none⟩),.pointer (some ⟨w1.heap.size+1,0,none⟩),.pointer (some ⟨w1.heap.size+2,0,none⟩)],.func (.func 39) #[.pointer (some ⟨b,0,none⟩)] #[]] 42)).drew).bM (T:=T) (sb:=sb) (mb:=mb) HB.out).trans k5
  have KK5:=Mb Ra
  have HD5:=Mb Yj
  clear Yj Ra k5 o1 o2 o3 o4
  go_wp2_with fail
  refine hK.out _ _ ?_ (fun hHeld=>nm ?_)
  .exact T6.out _ (KK5.out)
  clear hK K
  refine tk 10 2 ?_
  refine MM (by kernel_rfl) ?_ _
  try simp only[List.set_cons_succ,List.set_cons_zero]
  go_wp2_with fail
  go_meet
  exact⟨rfl,HD5.out,KK5.out⟩
 case rest=>
  obtain⟨rfl,h1,h2⟩:=hcut
  go_wp2_with fail
  go_ret
  exact⟨rfl,h1,h2⟩
theorem Fo (al:List Nat):∀(d:DK) (s:List UInt8),(eJ al d s).1.ops<=d.ops+al.length/\(eJ al d s).1.waits.length<=d.waits.length+al.length/\(eJ al d s).1.stand.length=d.stand.length:=by
 induction al with
 |nil=>intro d s;exact⟨Md _,Md _,rfl⟩
 |cons a t ih=>
  intro d s
  have h1:=fk d a (av s)
  unfold eJ
  rw[Mz]
  split
  .have h2:=ih (NG d a (av s)) (s.drop 128)
   exact⟨by(try dsimp only);omega,by(try dsimp only);omega,by rw[h2.2.2,h1.2.2]⟩
  .exact⟨by(try dsimp only);omega,by(try dsimp only);omega,h1.2.2⟩
theorem FI (n:Nat):∀l:List Nat,l.Nodup->(∀m∈l,m<n)->l.length<=n:=by
 induction n with
 |zero=>intro l _ h;cases l with
  |nil=>exact Md _
  |cons a t=>exact absurd (h a Mg) (by omega)
 |succ n ih=>
  intro l hn h
  have h1:=ih (l.erase n) (hn.erase n) (fun m hm=>by
   have h2:=hn.mem_erase_iff.1 hm
   have:=h m h2.2
   omega)
  by_cases hm:n∈l
  .have:=List.length_erase_of_mem hm
   omega
  .rw[List.erase_of_not_mem hm]at h1
   omega
theorem Gh {l:List (Int×Int)} {size:Int} (h:dA l n size):(Nu l).length<=n:=
 FI n _ (mK h.2.2.1) (fun m hm=>by have:=(h.lt hm).1;omega)
theorem su (d:DK) (l:List (Int×Int)) (s:List UInt8):(NF d l s).1.ops<=d.ops+d.stand.length/\(NF d l s).1.waits.length<=d.waits.length+d.stand.length/\(NF d l s).1.stand.length=d.stand.length:=by
 unfold NF
 split
 .rename_i h
  have hf:=Gh h
  split
  .exact⟨by(try dsimp only);omega,by(try dsimp only);omega,rfl⟩
  .have:=Fo (Nu l) d s
   exact⟨by(try dsimp only);omega,by(try dsimp only);omega,this.2.2⟩
 .exact⟨by(try dsimp only);omega,by(try dsimp only);omega,rfl⟩
theorem D8 (d:DK):(bL d).ops<=d.ops+1/\(bL d).waits.length<=d.waits.length/\(bL d).stand.length=d.stand.length:=by
 unfold bL
 split
 .exact⟨by(try dsimp only);omega,by(try dsimp only);omega,rfl⟩
 .split
  .exact⟨Md _,Md _,rfl⟩
  .exact⟨Md _,Mu _,nQ _ _⟩
theorem M56 {A:Prop}(h:A:=by
 obtain⟨w1,w2,_⟩:=fk d (a:Int) (av s)
 rw[dq h0]
 split
 .have:=ih (NG d a (av s)) (a+1) (s.drop 128) (by rw[Mq];omega)
  rw[Mq]at this
  omega
 .simp only
  omega):A:=h
theorem Jj (n:Nat):∀(d:DK) (a:Nat) (s:List UInt8),s.length<=n->(dL d a s).1.waits.length<=d.waits.length+s.length/\(dL d a s).1.ops<=d.ops+s.length:=by
 induction n with
 |zero=>
  intro d a s hs
  have:s=[]:=Mt (by omega)
  subst this
  exact⟨Md _,Md _⟩
 |succ n ih=>
  intro d a s hs
  by_cases h0:s=[]
  .subst h0
   exact⟨Md _,Md _⟩
  .have hl:0<s.length:=MH.2 h0
   exact M56
theorem uA (d:DK) (j u:Int) (S:List UInt8):(Nm d j u S).1.waits.length<=d.waits.length+128+S.length/\(Nm d j u S).1.ops<=d.ops+128+S.length:=by
 unfold Nm
 split
 .simp only;omega
 .split
  .simp only;omega
  .split
   .simp only;omega
   .split
    .simp only;omega
    .have h:=Jj _ d (2+u.toNat/128) ((seen d (2+u.toNat/128)).take (u.toNat%128)++S) (Md _)
     have h2:((seen d (2+u.toNat/128)).take (u.toNat%128)).length<=128:=by rw[Mp];omega
     rw[Mc]at h
     omega
end Go.Proofs.YtdkimcnlhmhpgaaGreat

/- -/
import Derived.Test.YtdkimcnlhmhpgaaGreatK50
set_option maxHeartbeats 16000000
set_option maxRecDepth 100000
namespace Go.Proofs.YtdkimcnlhmhpgaaGreat
open Go.RowKit
variable {w wr w':World} {v:Value} {l:List VC} {P:VC->Prop} {lo B b sb mb:Nat} {T S T':List Nat} {d:DK} {c:aj}
theorem ry:∃i,Tryz.prog.info? 34=some i/\i.zero=some (.agg #[.int .i64 0,.int .u32 0,.string {data:=#[]},.string {data:=#[]}])/\i.size=4/\i.bytes=48:=by
 have hi:(Tryz.prog.info? 34).map (fun i=>(i.zero,i.size,i.bytes))=some (some (.agg #[.int .i64 0,.int .u32 0,.string {data:=#[]},.string {data:=#[]}]),4,48):=by kernel_rfl
 exact VQ
theorem rz:∃i,Tryz.prog.info? 110=some i/\i.zero=some (.agg #[.int .i64 0,.int .u32 0,.string {data:=#[]},.string {data:=#[]}])/\i.size=4/\i.bytes=48:=by
 have hi:(Tryz.prog.info? 110).map (fun i=>(i.zero,i.size,i.bytes))=some (some (.agg #[.int .i64 0,.int .u32 0,.string {data:=#[]},.string {data:=#[]}]),4,48):=by kernel_rfl
 exact VQ
def kt (x:VC):List Value:=[.int .i64 x.kind,.int .u32 x.id,.string (bs x.name),.string (bs x.bytes)]
def dm (l:List VC):List Value:=(l.map kt).flatten
theorem Aa (l:List VC) (x:VC):dm (l++[x])=dm l++kt x:=by simp[dm]
theorem Cg (l:List VC) (i:Nat) (h:i<l.length) (j:Nat) (u:Value) (hj:(kt l[i])[j]? =some u):(dm l)[i*4+j]? =some u:=by
 induction l generalizing i with
 |nil=>simp at h
 |cons a l ih=>
  have e:dm (a::l)=kt a++dm l:=rfl
  have hj5:j<4:=by
   have:=(MI.1 hj).1
   simpa[kt]using this
  rw[e]
  cases i with
  |zero=>
   rw[List.getElem?_append_left (by simp[kt];omega)]
   simpa using hj
  |succ i=>
   rw[List.getElem?_append_right (by simp[kt];omega)]
   have e1:(i+1)*4+j-(kt a).length=i*4+j:=by simp[kt];omega
   rw[e1]
   exact ih i (by simpa using h) (by simpa using hj)
theorem uo {base:Nat} {e:TypeId} (h:w.ownsRow base e 4 v l.length (dm l)) (hP:∀x∈l,P x):aZ 4 (fun _ cs x=>cs=kt x/\P x) w v l base w.heap.size:=by
 by_cases h0:l=[]
 .subst h0
  obtain⟨p,c,rfl⟩:=ai h
  exact Or.inl ⟨rfl,p,c,rfl⟩
 .have hp:0<l.length:=MH.2 h0
  obtain⟨g,c,rfl,g1,g2,g3,g4,g5⟩:=fQ h (by omega)
  refine Or.inr ⟨g,0,c,rfl,fun i hi=>?_,g1,g2,Md _,h0,g3,g4⟩
  refine⟨kt l[i],rfl,⟨rfl,hP _ (Mh hi)⟩,fun j u hj=>?_⟩
  rw[Nat.zero_add]
  exact g5 _ _ (Cg l i hi j u hj)
def cI (x:VC):VC:=⟨x.kind,x.id,x.name.take 60,x.bytes.take 6000⟩
def PJ (l:List VC):List VC:=(l.take 8).map cI
theorem wi {x:VC} (h:x.wJ):(cI x).fits:=⟨h.1,h.2.1,by show(x.name.take 60).length<=maxLen;have:=h.2.2.1;rw[Mp];omega,by show(x.bytes.take 6000).length<=1048576;rw[Mp];omega⟩
theorem xJ (l:List VC):(PJ l).length<=8:=by unfold PJ;rw[Mm,Mp];omega
theorem GV {Q:VC->Prop} (h:∀x∈l,P x) (hPQ:∀x,P x->Q (cI x)):∀x∈PJ l,Q x:=by
 intro x hx
 unfold PJ at hx
 obtain⟨y,hy,rfl⟩:=MV.1 hx
 exact hPQ y (h y (List.mem_of_mem_take hy))
def l8 (l:List VC) (w:World) (e:Ending) (w':World):Prop:=
 ∃va vb,e=.returned (.tuple #[va,vb])/\w'.ownsRow w.heap.size 34 4 va (PJ l).length (dm (PJ l))/\w'.ownsRow w.heap.size 110 4 vb (PJ l).length (dm (PJ l))/\aa [] w w'
theorem dC.fits {hi:Nat} (h:dC w v l lo hi):∀x∈l,x.wJ:=by
 intro x hx
 obtain⟨i,hi,rfl⟩:=MO.1 hx
 obtain⟨p,c,rfl⟩:=aZ.shape h
 obtain⟨_,_,_,_,_,_,_,_,h2⟩:=dC.at_ h i hi
 exact h2
theorem M16 {A:Prop}(h:A:=by
 have QD:aa [] w w7:=(Qg.out.alloc _).grown Xd (fun q hq=>Or.inr (Mn S7 q hq).1)
 have H7:Hid (w7.ownsRow w.heap.size 34 4 (.slice pa (k+1) ca) (k+1) (dm ((l.take (k+1)).map cI))):=Mb (by rw[Qp.out];exact Xj)
 have H8:Hid (w7.ownsRow w.heap.size 110 4 v7 (k+1) (dm ((l.take (k+1)).map cI))):=Mb (by rw[Qp.out];exact o7)
 have PL:=Mb QD
 clear o7 Xd S7 Xj QD q0 q1 q2 q3 z0 z1 z2 z3
 go_wp2_with fail
 go_roundw
 case rel=>exact⟨k+1,NU.out,S6.out,by go_num,H7.out,H8.out,PL.out⟩
 case measure=>(have hh:=NU.out;simp[intOf]<;>omega)):A:=h
theorem GN (vl:Value) (l:List VC) (OD On:Nat) (w:World) (hl:dC w vl l OD On):
  Calls Tryz.prog 12 #[vl] w (l8 l w):=by
 have HL:=Mb hl
 obtain⟨p1,c1,rfl⟩:=aZ.shape hl
 have Sx:=aZ.len hl
 unfold maxLen at Sx
 have HLM:=Mb Sx
 clear hl Sx
 unfold l8
 go_enter Tryz.func12,Tryz.ntmps12
 go_wp2_with fail
 go_loopw [4,5,6] (fun va vb i wr=>∃k:Nat,k<=l.length/\k<=8/\i=.int .i64 k/\wr.ownsRow w.heap.size 34 4 va k (dm ((l.take k).map cI))/\wr.ownsRow w.heap.size 110 4 vb k (dm ((l.take k).map cI))/\aa [] w wr) (fun _ _ i _=>l.length-(intOf i).toNat)
 case atStart=>exact⟨0,Mu _,Mu _,rfl,MG _ _ _ _,MG _ _ _ _,aa.refl _ _⟩
 case round=>
  obtain⟨k,hk,hk8,rfl,Rj,hrb,hK⟩:=hrel
  by_cases Ns:k<l.length/\k<8
  .obtain⟨Ns,hlt8⟩:=Ns
   have i1:(k:Int)<l.length:=by omega
   have i2:(k:Int)<8:=by omega
   obtain⟨bl,ol,rfl,r0,r1,r2,r3,Xb,N4⟩:=dC.at_ (HL.out.kept0 hK) k Ns
   have Ws:(l.take (k+1)).map cI=(l.take k).map cI++[cI l[k]]:=by rw[Mf Ns,Ms];rfl
   have NU:=Mb Ns
   have S6:=Mb hlt8
   have HF:=Mb N4
   have HK:=Mb hK
   have HRA:=Mb Rj
   have VA:=Mb hrb
   obtain⟨p6,c6,rfl⟩:=ai Rj
   obtain⟨p7,c7,rfl⟩:=ai hrb
   have QQ:w.heap.size<=wr.heap.size:=hK.size
   obtain⟨LK,hLK⟩:∃L,dm ((l.take k).map cI)=L:=⟨_,rfl⟩
   have ZD:dm ((l.take (k+1)).map cI)=LK++kt (cI l[k]):=by rw[Ws,Aa,hLK];rfl
   have Qp:=Mb ZD
   rw[hLK]at HRA VA
   clear Ws ZD hLK Rj hrb hK hk hk8 hlt8
   generalize hX:l[k]=X at*
   clear hX Ns
   obtain⟨xk,xi,xn,xb⟩:=X
   simp only at*
   have h1m:(xn.length:Int)<=9223372036854775807:=by have:=HF.out.2.2.1;unfold maxLen at this;exact Int.ofNat_le.2 this
   have h2m:(xb.length:Int)<=9223372036854775807:=by have:=HF.out.2.2.2;unfold maxLen at this;exact Int.ofNat_le.2 this
   have hzn:(bs xn).size=xn.length:=Nj _
   have hzb:(bs xb).size=xb.length:=Nj _
   have oX:=ae.new wr #[.int .i64 xk,.int .u32 xi,.string (bs xn),.string (bs xb)] 110
   have hkx:=(aa.refl [] wr).alloc (.cells #[.int .i64 xk,.int .u32 xi,.string (bs xn),.string (bs xb)] 110)
   have ZK:=Mb oX
   have HKX:=Mb hkx
   obtain⟨z0,z1,z2,z3⟩:=oX.c4
   have zf:=oX.free
   clear oX hkx
   rcases Nat.lt_or_ge 6000 xb.length with hb|hb<;>rcases Nat.lt_or_ge 60 xn.length with hn|hn
   .skip
    have j1:((6000:Int)<xb.length):=by omega
    have j2:((60:Int)<xn.length):=by omega
    have s1:(bs xb).extract 0 6000=bs (xb.take 6000):=by rw[aX];rfl
    have s2:(bs xn).extract 0 60=bs (xn.take 60):=by rw[aX];rfl
    have Pe:cI ⟨xk,xi,xn,xb⟩=⟨xk,xi,(List.take 60 xn),(List.take 6000 xb)⟩:=by unfold cI;simp only
    rw[Pe]at Qp
    unfold kt at Qp
    simp only at Qp
    clear hb hn Pe
    go_upto_region 11 with fail
    clear r0 r1 r2 r3 z0 z1 z2 z3 zf Xb j1 j2 h1m h2m hzn hzb s1 s2
    have o2:=ae.new wr #[.int .i64 xk,.int .u32 xi,.string (bs (List.take 60 xn)),.string (bs (List.take 6000 xb))] 110
    have P9:=(aa.refl [] wr).alloc (.cells #[.int .i64 xk,.int .u32 xi,.string (bs (List.take 60 xn)),.string (bs (List.take 6000 xb))] 110)
    have RK:=HRA.out.alloc (.cells #[.int .i64 xk,.int .u32 xi,.string (bs (List.take 60 xn)),.string (bs (List.take 6000 xb))] 110)
    have RT:=VA.out.alloc (.cells #[.int .i64 xk,.int .u32 xi,.string (bs (List.take 60 xn)),.string (bs (List.take 6000 xb))] 110)
    generalize (wr.alloc (.cells #[.int .i64 xk,.int .u32 xi,.string (bs (List.take 60 xn)),.string (bs (List.take 6000 xb))] 110))=w2 at*
    have Rq:=Mb (HK.out.trans P9)
    have Sw:=Mb o2
    have RY:=Mb RK
    have T7:=Mb RT
    obtain⟨z0,z1,z2,z3⟩:=o2.c4
    have Tp:w.heap.size<=w2.heap.size:=Rq.out.size
    clear o2 P9 RK RT QQ
    obtain⟨i0,q0,q1,q2,q3⟩:=ry
    have m3:k+1<=maxLen:=by have:=S6.out;unfold maxLen;omega
    have m4:(k+1)*48<=140737488355328:=by have:=S6.out;omega
    go_wp2_with (at_builtin;go_must (refine Mv _ rfl (.tmp 38) (.tmp 48) 35 rfl w.heap.size 34 i0 (.agg #[.int .i64 0,.int .u32 0,.string {data:=#[]},.string {data:=#[]}]) 4 48 Tryz.underlying35 q0 q1 q2 q3 rfl (by decide) _ _ _ rfl (Me RY.out _) ⟨w2.heap.size,0,none⟩ 1 1 [.int .i64 xk,.int .u32 xi,.string (bs (List.take 60 xn)),.string (bs (List.take 6000 xb))] rfl rfl ?_ ?_ m3 m4 ?_ ?_))
    .exact dw _ _ _
    .intro u hu;simp at hu;rcases hu with rfl|rfl|rfl|rfl<;>rfl
    .simp<;>omega
    intro v6 w6 o6 OE _ _
    have PW:=Me RY.out (.cells #[.int .i64 xk,.int .u32 xi,.string (bs (List.take 60 xn)),.string (bs (List.take 6000 xb))] 34)
    have WV:ae w6 wr.heap.size #[.int .i64 xk,.int .u32 xi,.string (bs (List.take 60 xn)),.string (bs (List.take 6000 xb))] 110:=(OE.block _ (Sw.out.alloc _).lt (fun e=>aB PW (Sw.out.alloc _) (by decide) e.symm)).trans (Sw.out.alloc _)
    have RI:w6.ownsRow w.heap.size 110 4 (.slice p7 k c7) k LK:=bm (Me T7.out _) (fun g cs hb hc=>OE.block g (MY hc) (fun e=>aB PW (show ae _ g cs 110 from hc) (by decide) e.symm))
    have Ps:aa [] w w6:=(Rq.out.alloc _).grown OE (fun q hq=>Or.inr (Mn PW q hq).1)
    obtain⟨z0,z1,z2,z3⟩:=WV.c4
    have aaO:w.heap.size<=w6.heap.size:=Ps.size
    have O6:=Mb o6
    have RP:=Mb RI
    have Qg:=Mb Ps
    obtain⟨pa,ca,rfl⟩:=ai o6
    clear o6 OE PW WV RI Ps Tp q0 q1 q2 q3
    obtain⟨i1',q0,q1,q2,q3⟩:=rz
    go_wp2_with (at_builtin;go_must (refine Mv _ rfl (.tmp 50) (.tmp 52) 36 rfl w.heap.size 110 i1' (.agg #[.int .i64 0,.int .u32 0,.string {data:=#[]},.string {data:=#[]}]) 4 48 Tryz.underlying36 q0 q1 q2 q3 rfl (by decide) _ _ _ rfl (Me RP.out _) ⟨w6.heap.size,0,none⟩ 1 1 [.int .i64 xk,.int .u32 xi,.string (bs (List.take 60 xn)),.string (bs (List.take 6000 xb))] rfl rfl ?_ ?_ m3 m4 ?_ ?_))
    .exact dw _ _ _
    .intro u hu;simp at hu;rcases hu with rfl|rfl|rfl|rfl<;>rfl
    .simp<;>omega
    intro v7 w7 o7 Xd _ _
    have S7:=Me RP.out (.cells #[.int .i64 xk,.int .u32 xi,.string (bs (List.take 60 xn)),.string (bs (List.take 6000 xb))] 110)
    have Xj:w7.ownsRow w.heap.size 34 4 (.slice pa (k+1) ca) (k+1) (LK++[.int .i64 xk,.int .u32 xi,.string (bs (List.take 60 xn)),.string (bs (List.take 6000 xb))]):=bm (Me O6.out _) (fun g cs hb hc=>Xd.block g (MY hc) (fun e=>aB S7 (show ae _ g cs 34 from hc) (by decide) e.symm))
    exact M16
   .skip
    have j1:((6000:Int)<xb.length):=by omega
    have j2:¬((60:Int)<xn.length):=by omega
    have s1:(bs xb).extract 0 6000=bs (xb.take 6000):=by rw[aX];rfl
    have Pe:cI ⟨xk,xi,xn,xb⟩=⟨xk,xi,xn,(List.take 6000 xb)⟩:=by unfold cI;simp only;rw[show xn.take 60=xn from Mk hn]
    rw[Pe]at Qp
    unfold kt at Qp
    simp only at Qp
    clear hb hn Pe
    go_upto_region 11 with fail
    clear r0 r1 r2 r3 z0 z1 z2 z3 zf Xb j1 j2 h1m h2m hzn hzb s1
    have o2:=ae.new wr #[.int .i64 xk,.int .u32 xi,.string (bs xn),.string (bs (List.take 6000 xb))] 110
    have P9:=(aa.refl [] wr).alloc (.cells #[.int .i64 xk,.int .u32 xi,.string (bs xn),.string (bs (List.take 6000 xb))] 110)
    have RK:=HRA.out.alloc (.cells #[.int .i64 xk,.int .u32 xi,.string (bs xn),.string (bs (List.take 6000 xb))] 110)
    have RT:=VA.out.alloc (.cells #[.int .i64 xk,.int .u32 xi,.string (bs xn),.string (bs (List.take 6000 xb))] 110)
    generalize (wr.alloc (.cells #[.int .i64 xk,.int .u32 xi,.string (bs xn),.string (bs (List.take 6000 xb))] 110))=w2 at*
    have Rq:=Mb (HK.out.trans P9)
    have Sw:=Mb o2
    have RY:=Mb RK
    have T7:=Mb RT
    obtain⟨z0,z1,z2,z3⟩:=o2.c4
    have Tp:w.heap.size<=w2.heap.size:=Rq.out.size
    clear o2 P9 RK RT QQ
    obtain⟨i0,q0,q1,q2,q3⟩:=ry
    have m3:k+1<=maxLen:=by have:=S6.out;unfold maxLen;omega
    have m4:(k+1)*48<=140737488355328:=by have:=S6.out;omega
    go_wp2_with (at_builtin;go_must (refine Mv _ rfl (.tmp 38) (.tmp 48) 35 rfl w.heap.size 34 i0 (.agg #[.int .i64 0,.int .u32 0,.string {data:=#[]},.string {data:=#[]}]) 4 48 Tryz.underlying35 q0 q1 q2 q3 rfl (by decide) _ _ _ rfl (Me RY.out _) ⟨w2.heap.size,0,none⟩ 1 1 [.int .i64 xk,.int .u32 xi,.string (bs xn),.string (bs (List.take 6000 xb))] rfl rfl ?_ ?_ m3 m4 ?_ ?_))
    .exact dw _ _ _
    .intro u hu;simp at hu;rcases hu with rfl|rfl|rfl|rfl<;>rfl
    .simp<;>omega
    intro v6 w6 o6 OE _ _
    have PW:=Me RY.out (.cells #[.int .i64 xk,.int .u32 xi,.string (bs xn),.string (bs (List.take 6000 xb))] 34)
    have WV:ae w6 wr.heap.size #[.int .i64 xk,.int .u32 xi,.string (bs xn),.string (bs (List.take 6000 xb))] 110:=(OE.block _ (Sw.out.alloc _).lt (fun e=>aB PW (Sw.out.alloc _) (by decide) e.symm)).trans (Sw.out.alloc _)
    have RI:w6.ownsRow w.heap.size 110 4 (.slice p7 k c7) k LK:=bm (Me T7.out _) (fun g cs hb hc=>OE.block g (MY hc) (fun e=>aB PW (show ae _ g cs 110 from hc) (by decide) e.symm))
    have Ps:aa [] w w6:=(Rq.out.alloc _).grown OE (fun q hq=>Or.inr (Mn PW q hq).1)
    obtain⟨z0,z1,z2,z3⟩:=WV.c4
    have aaO:w.heap.size<=w6.heap.size:=Ps.size
    have O6:=Mb o6
    have RP:=Mb RI
    have Qg:=Mb Ps
    obtain⟨pa,ca,rfl⟩:=ai o6
    clear o6 OE PW WV RI Ps Tp q0 q1 q2 q3
    obtain⟨i1',q0,q1,q2,q3⟩:=rz
    go_wp2_with (at_builtin;go_must (refine Mv _ rfl (.tmp 50) (.tmp 52) 36 rfl w.heap.size 110 i1' (.agg #[.int .i64 0,.int .u32 0,.string {data:=#[]},.string {data:=#[]}]) 4 48 Tryz.underlying36 q0 q1 q2 q3 rfl (by decide) _ _ _ rfl (Me RP.out _) ⟨w6.heap.size,0,none⟩ 1 1 [.int .i64 xk,.int .u32 xi,.string (bs xn),.string (bs (List.take 6000 xb))] rfl rfl ?_ ?_ m3 m4 ?_ ?_))
    .exact dw _ _ _
    .intro u hu;simp at hu;rcases hu with rfl|rfl|rfl|rfl<;>rfl
    .simp<;>omega
    intro v7 w7 o7 Xd _ _
    have S7:=Me RP.out (.cells #[.int .i64 xk,.int .u32 xi,.string (bs xn),.string (bs (List.take 6000 xb))] 110)
    have Xj:w7.ownsRow w.heap.size 34 4 (.slice pa (k+1) ca) (k+1) (LK++[.int .i64 xk,.int .u32 xi,.string (bs xn),.string (bs (List.take 6000 xb))]):=bm (Me O6.out _) (fun g cs hb hc=>Xd.block g (MY hc) (fun e=>aB S7 (show ae _ g cs 34 from hc) (by decide) e.symm))
    exact M16
   .skip
    have j1:¬((6000:Int)<xb.length):=by omega
    have j2:((60:Int)<xn.length):=by omega
    have s2:(bs xn).extract 0 60=bs (xn.take 60):=by rw[aX];rfl
    have Pe:cI ⟨xk,xi,xn,xb⟩=⟨xk,xi,(List.take 60 xn),xb⟩:=by unfold cI;simp only;rw[show xb.take 6000=xb from Mk hb]
    rw[Pe]at Qp
    unfold kt at Qp
    simp only at Qp
    clear hb hn Pe
    go_upto_region 11 with fail
    clear r0 r1 r2 r3 z0 z1 z2 z3 zf Xb j1 j2 h1m h2m hzn hzb s2
    have o2:=ae.new wr #[.int .i64 xk,.int .u32 xi,.string (bs (List.take 60 xn)),.string (bs xb)] 110
    have P9:=(aa.refl [] wr).alloc (.cells #[.int .i64 xk,.int .u32 xi,.string (bs (List.take 60 xn)),.string (bs xb)] 110)
    have RK:=HRA.out.alloc (.cells #[.int .i64 xk,.int .u32 xi,.string (bs (List.take 60 xn)),.string (bs xb)] 110)
    have RT:=VA.out.alloc (.cells #[.int .i64 xk,.int .u32 xi,.string (bs (List.take 60 xn)),.string (bs xb)] 110)
    generalize (wr.alloc (.cells #[.int .i64 xk,.int .u32 xi,.string (bs (List.take 60 xn)),.string (bs xb)] 110))=w2 at*
    have Rq:=Mb (HK.out.trans P9)
    have Sw:=Mb o2
    have RY:=Mb RK
    have T7:=Mb RT
    obtain⟨z0,z1,z2,z3⟩:=o2.c4
    have Tp:w.heap.size<=w2.heap.size:=Rq.out.size
    clear o2 P9 RK RT QQ
    obtain⟨i0,q0,q1,q2,q3⟩:=ry
    have m3:k+1<=maxLen:=by have:=S6.out;unfold maxLen;omega
    have m4:(k+1)*48<=140737488355328:=by have:=S6.out;omega
    go_wp2_with (at_builtin;go_must (refine Mv _ rfl (.tmp 38) (.tmp 48) 35 rfl w.heap.size 34 i0 (.agg #[.int .i64 0,.int .u32 0,.string {data:=#[]},.string {data:=#[]}]) 4 48 Tryz.underlying35 q0 q1 q2 q3 rfl (by decide) _ _ _ rfl (Me RY.out _) ⟨w2.heap.size,0,none⟩ 1 1 [.int .i64 xk,.int .u32 xi,.string (bs (List.take 60 xn)),.string (bs xb)] rfl rfl ?_ ?_ m3 m4 ?_ ?_))
    .exact dw _ _ _
    .intro u hu;simp at hu;rcases hu with rfl|rfl|rfl|rfl<;>rfl
    .simp<;>omega
    intro v6 w6 o6 OE _ _
    have PW:=Me RY.out (.cells #[.int .i64 xk,.int .u32 xi,.string (bs (List.take 60 xn)),.string (bs xb)] 34)
    have WV:ae w6 wr.heap.size #[.int .i64 xk,.int .u32 xi,.string (bs (List.take 60 xn)),.string (bs xb)] 110:=(OE.block _ (Sw.out.alloc _).lt (fun e=>aB PW (Sw.out.alloc _) (by decide) e.symm)).trans (Sw.out.alloc _)
    have RI:w6.ownsRow w.heap.size 110 4 (.slice p7 k c7) k LK:=bm (Me T7.out _) (fun g cs hb hc=>OE.block g (MY hc) (fun e=>aB PW (show ae _ g cs 110 from hc) (by decide) e.symm))
    have Ps:aa [] w w6:=(Rq.out.alloc _).grown OE (fun q hq=>Or.inr (Mn PW q hq).1)
    obtain⟨z0,z1,z2,z3⟩:=WV.c4
    have aaO:w.heap.size<=w6.heap.size:=Ps.size
    have O6:=Mb o6
    have RP:=Mb RI
    have Qg:=Mb Ps
    obtain⟨pa,ca,rfl⟩:=ai o6
    clear o6 OE PW WV RI Ps Tp q0 q1 q2 q3
    obtain⟨i1',q0,q1,q2,q3⟩:=rz
    go_wp2_with (at_builtin;go_must (refine Mv _ rfl (.tmp 50) (.tmp 52) 36 rfl w.heap.size 110 i1' (.agg #[.int .i64 0,.int .u32 0,.string {data:=#[]},.string {data:=#[]}]) 4 48 Tryz.underlying36 q0 q1 q2 q3 rfl (by decide) _ _ _ rfl (Me RP.out _) ⟨w6.heap.size,0,none⟩ 1 1 [.int .i64 xk,.int .u32 xi,.string (bs (List.take 60 xn)),.string (bs xb)] rfl rfl ?_ ?_ m3 m4 ?_ ?_))
    .exact dw _ _ _
    .intro u hu;simp at hu;rcases hu with rfl|rfl|rfl|rfl<;>rfl
    .simp<;>omega
    intro v7 w7 o7 Xd _ _
    have S7:=Me RP.out (.cells #[.int .i64 xk,.int .u32 xi,.string (bs (List.take 60 xn)),.string (bs xb)] 110)
    have Xj:w7.ownsRow w.heap.size 34 4 (.slice pa (k+1) ca) (k+1) (LK++[.int .i64 xk,.int .u32 xi,.string (bs (List.take 60 xn)),.string (bs xb)]):=bm (Me O6.out _) (fun g cs hb hc=>Xd.block g (MY hc) (fun e=>aB S7 (show ae _ g cs 34 from hc) (by decide) e.symm))
    exact M16
   .skip
    have j1:¬((6000:Int)<xb.length):=by omega
    have j2:¬((60:Int)<xn.length):=by omega
    have Pe:cI ⟨xk,xi,xn,xb⟩=⟨xk,xi,xn,xb⟩:=by unfold cI;simp only;rw[show xn.take 60=xn from Mk hn,show xb.take 6000=xb from Mk hb]
    rw[Pe]at Qp
    unfold kt at Qp
    simp only at Qp
    clear hb hn Pe
    go_upto_region 11 with fail
    clear r0 r1 r2 r3 z0 z1 z2 z3 zf Xb j1 j2 h1m h2m hzn hzb
    have o2:=ae.new wr #[.int .i64 xk,.int .u32 xi,.string (bs xn),.string (bs xb)] 110
    have P9:=(aa.refl [] wr).alloc (.cells #[.int .i64 xk,.int .u32 xi,.string (bs xn),.string (bs xb)] 110)
    have RK:=HRA.out.alloc (.cells #[.int .i64 xk,.int .u32 xi,.string (bs xn),.string (bs xb)] 110)
    have RT:=VA.out.alloc (.cells #[.int .i64 xk,.int .u32 xi,.string (bs xn),.string (bs xb)] 110)
    generalize (wr.alloc (.cells #[.int .i64 xk,.int .u32 xi,.string (bs xn),.string (bs xb)] 110))=w2 at*
    have Rq:=Mb (HK.out.trans P9)
    have Sw:=Mb o2
    have RY:=Mb RK
    have T7:=Mb RT
    obtain⟨z0,z1,z2,z3⟩:=o2.c4
    have Tp:w.heap.size<=w2.heap.size:=Rq.out.size
    clear o2 P9 RK RT QQ
    obtain⟨i0,q0,q1,q2,q3⟩:=ry
    have m3:k+1<=maxLen:=by have:=S6.out;unfold maxLen;omega
    have m4:(k+1)*48<=140737488355328:=by have:=S6.out;omega
    go_wp2_with (at_builtin;go_must (refine Mv _ rfl (.tmp 38) (.tmp 48) 35 rfl w.heap.size 34 i0 (.agg #[.int .i64 0,.int .u32 0,.string {data:=#[]},.string {data:=#[]}]) 4 48 Tryz.underlying35 q0 q1 q2 q3 rfl (by decide) _ _ _ rfl (Me RY.out _) ⟨w2.heap.size,0,none⟩ 1 1 [.int .i64 xk,.int .u32 xi,.string (bs xn),.string (bs xb)] rfl rfl ?_ ?_ m3 m4 ?_ ?_))
    .exact dw _ _ _
    .intro u hu;simp at hu;rcases hu with rfl|rfl|rfl|rfl<;>rfl
    .simp<;>omega
    intro v6 w6 o6 OE _ _
    have PW:=Me RY.out (.cells #[.int .i64 xk,.int .u32 xi,.string (bs xn),.string (bs xb)] 34)
    have WV:ae w6 wr.heap.size #[.int .i64 xk,.int .u32 xi,.string (bs xn),.string (bs xb)] 110:=(OE.block _ (Sw.out.alloc _).lt (fun e=>aB PW (Sw.out.alloc _) (by decide) e.symm)).trans (Sw.out.alloc _)
    have RI:w6.ownsRow w.heap.size 110 4 (.slice p7 k c7) k LK:=bm (Me T7.out _) (fun g cs hb hc=>OE.block g (MY hc) (fun e=>aB PW (show ae _ g cs 110 from hc) (by decide) e.symm))
    have Ps:aa [] w w6:=(Rq.out.alloc _).grown OE (fun q hq=>Or.inr (Mn PW q hq).1)
    obtain⟨z0,z1,z2,z3⟩:=WV.c4
    have aaO:w.heap.size<=w6.heap.size:=Ps.size
    have O6:=Mb o6
    have RP:=Mb RI
    have Qg:=Mb Ps
    obtain⟨pa,ca,rfl⟩:=ai o6
    clear o6 OE PW WV RI Ps Tp q0 q1 q2 q3
    obtain⟨i1',q0,q1,q2,q3⟩:=rz
    go_wp2_with (at_builtin;go_must (refine Mv _ rfl (.tmp 50) (.tmp 52) 36 rfl w.heap.size 110 i1' (.agg #[.int .i64 0,.int .u32 0,.string {data:=#[]},.string {data:=#[]}]) 4 48 Tryz.underlying36 q0 q1 q2 q3 rfl (by decide) _ _ _ rfl (Me RP.out _) ⟨w6.heap.size,0,none⟩ 1 1 [.int .i64 xk,.int .u32 xi,.string (bs xn),.string (bs xb)] rfl rfl ?_ ?_ m3 m4 ?_ ?_))
    .exact dw _ _ _
    .intro u hu;simp at hu;rcases hu with rfl|rfl|rfl|rfl<;>rfl
    .simp<;>omega
    intro v7 w7 o7 Xd _ _
    have S7:=Me RP.out (.cells #[.int .i64 xk,.int .u32 xi,.string (bs xn),.string (bs xb)] 110)
    have Xj:w7.ownsRow w.heap.size 34 4 (.slice pa (k+1) ca) (k+1) (LK++[.int .i64 xk,.int .u32 xi,.string (bs xn),.string (bs xb)]):=bm (Me O6.out _) (fun g cs hb hc=>Xd.block g (MY hc) (fun e=>aB S7 (show ae _ g cs 34 from hc) (by decide) e.symm))
    exact M16
  .have Pc:(l.take k).map cI=PJ l:=by
    unfold PJ
    rcases Nat.lt_or_ge k l.length with h|h
    .have:k=8:=by omega
     rw[this]
    .have h2:k=l.length:=by omega
     rw[Mk (by omega),Mk (by omega)]
   have Yr:(PJ l).length=k:=by rw[<-Pc,Mm,Mp];omega
   rw[Pc]at Rj hrb
   have HRA:=Mb Rj
   have VA:=Mb hrb
   have HK:=Mb hK
   have HKL:=Mb Yr
   obtain⟨p6,c6,rfl⟩:=ai Rj
   obtain⟨p7,c7,rfl⟩:=ai hrb
   have hor:((k:Int)<l.length/\¬((k:Int)<8))\/¬((k:Int)<l.length):=by omega
   clear Pc Yr Rj hrb hK Ns
   rcases hor with⟨i1,i2⟩|i1
   all_goals
    go_wp2_with fail
    go_ret2
    exact⟨_,_,rfl,by rw[HKL.out];exact HRA.out,by rw[HKL.out];exact VA.out,HK.out⟩
structure HV (T:List Nat) (w wr:World) (B b sb mb lo:Nat) (v:VS):Prop where
 vol:ay T wr B b sb mb lo v
 kept:aa [] w wr
 new:w.heap.size<=B/\w.heap.size<=b/\w.heap.size<=sb/\w.heap.size<=mb/\∀k,WB wr b k->w.heap.size<=k
theorem HV.aJ {v:VS} (h:HV T w wr B b sb mb lo v) (k:aa [] wr w'):HV T w w' B b sb mb lo v:=
 ⟨h.vol.aJ k,h.kept.trans k,h.new.1,h.new.2.1,h.new.2.2.1,h.new.2.2.2.1,fun g hg=>h.new.2.2.2.2 g ((h.vol.da.qW k g).1 hg)⟩
theorem HV.pk {v v':VS} (h:HV T w wr B b sb mb lo v) (k:PK [B] b sb mb wr w') (hV:ay T w' B b sb mb lo v'):HV T w w' B b sb mb lo v':=by
 obtain⟨n1,n2,n3,n4,n5⟩:=h.new
 exact⟨hV,h.kept.fe (k.kept w.heap.size h.kept.size (fun x hx=>by
  obtain rfl:x=B:=by simpa using hx
  exact n1) n2 n3 n4 n5),n1,n2,n3,n4,fun g hg=>by
  rcases k.wb g hg with h1|h1
  .exact n5 g h1
  .exact MA h.kept.size h1⟩
theorem HV.change {m q:Nat} {v:VS} (h:HV T w wr B b sb mb lo v) (hI:qR m q v) (hm:m<=900) (hq:q<=35000) (vl:Value) (l:List VC) (OD On:Nat) (hl:fj wr vl l OD On) (Sp:l.length<=8) (hf:∀x∈l,x.fits):
  Calls Tryz.prog 11 #[.pointer (some ⟨B,0,none⟩),vl] wr fun e w'=>e=.returned (.int .i64 (NJ v l).2)/\HV T w w' B b sb mb lo (NJ v l).1/\PK [B] b sb mb wr w':=
 (qX vl l OD On h.vol ⟨hI.fit.may,hI.fit.cat,by have:=hI.fit.few;omega,by have:=hI.fit.seq;omega,hI.fit.jr⟩ hl Sp hf (by have:=hI.ops;omega) (by rw[hI.waits];exact Mu _) hI.len).mono fun e w' hh=>⟨hh.1,h.pk hh.2.2 hh.2.1,hh.2.2⟩
theorem HV.made {T:List Nat} {w w1 w2:World} {B b sb mb lo:Nat} {d d':DK} {n j:Int} (k1:aa [] w w1) (hD:DA w1 b sb mb lo d) (hn:w.heap.size<=b/\w.heap.size<=sb/\w.heap.size<=mb/\w.heap.size<=lo) (k2:PK [] b sb mb w1 w2) (hD2:DA w2 b sb mb lo d') (hB:w1.heap.size<=B) (hBT:B∈T) (hT:∀x∈T,x<w2.heap.size) (ON:aW [] w2 b sb mb B)
  (o:ae w2 B (bf b (bW n j) (.slice none 0 0) ⟨1,1,[],[],[]⟩ (.slice none 0 0) (.slice none 0 0) (.slice none 0 0) false) 90):HV T w w2 B b sb mb lo ⟨d',bW n j,bI,false⟩:=by
 obtain⟨n1,n2,n3,n4⟩:=hn
 have Pr:∀k,WB w1 b k->w.heap.size<=k:=fun k hk=>MA n4 (hD.disk.wb hk).1
 refine⟨⟨hD2,⟨_,_,_,_,o,b8.nil none 0,cO.empty _ _ _ _ _⟩,hBT,hT,ON⟩,k1.fe (k2.kept w.heap.size k1.size (fun x hx=>by cases hx) n1 n2 n3 Pr),MA k1.size hB,n1,n2,n3,fun g hg=>?_⟩
 rcases k2.wb g hg with h1|h1
 .exact Pr g h1
 .exact MA k1.size h1
theorem PK.mY (k:PK T b sb mb w w'):∃S,aa S w w'/\∀x∈S,SD T w b sb mb x:=by
 classical
 by_cases h:∃g,WB w b g
 .obtain⟨g,hg⟩:=h
  have hu:∀g',WB w b g'->g'=g:=fun g' hg'=>by
   obtain⟨v,h1,h2⟩:=hg
   obtain⟨v',h3,h4⟩:=hg'
   rw[h1]at h3
   injection h3 with e
   subst e
   rw[h2]at h4
   injection h4 with e
   exact e.symm
  refine⟨g::b::sb::mb::T,⟨k.os,k.tape,k.output,k.size,fun q hq hS=>?_⟩,fun x hx ho=>?_⟩
  .simp only[List.mem_cons,not_or]at hS
   exact k.block q hq hS.2.2.2.2 hS.2.1 hS.2.2.1 hS.2.2.2.1 (fun hw=>hS.1 (hu q hw))
  .obtain⟨o1,o2,o3,o4,o5⟩:=ho
   simp only[List.mem_cons]at hx
   rcases hx with rfl|rfl|rfl|rfl|hx
   .exact o5 hg
   .exact o2 rfl
   .exact o3 rfl
   .exact o4 rfl
   .exact o1 hx
 .refine⟨b::sb::mb::T,⟨k.os,k.tape,k.output,k.size,fun q hq hS=>?_⟩,fun x hx ho=>?_⟩
  .simp only[List.mem_cons,not_or]at hS
   exact k.block q hq hS.2.2.2 hS.1 hS.2.1 hS.2.2.1 (fun hw=>h ⟨q,hw⟩)
  .obtain⟨o1,o2,o3,o4,o5⟩:=ho
   simp only[List.mem_cons]at hx
   rcases hx with rfl|rfl|rfl|hx
   .exact o2 rfl
   .exact o3 rfl
   .exact o4 rfl
   .exact o1 hx
theorem aI.aside (h:aI w b sb mb lo d) (k:aa S w w') (hS:∀x∈S,aW [] w b sb mb x):aI w' b sb mb lo d:=by
 obtain⟨wv,n,ob,os,Ti,hm,hn,h2,h3,h4,h5,h6,r⟩:=h
 have n1:b∉S:=fun hx=>(hS b hx).2.1 rfl
 have n2:sb∉S:=fun hx=>(hS sb hx).2.2.1 rfl
 have n3:mb∉S:=fun hx=>(hS mb hx).2.2.2.1 rfl
 have hr:w'.ownsRow lo 206 2 wv d.waits.length (iK d.waits):=by
  obtain⟨r1,r2⟩:=Ti
  refine⟨r1,?_⟩
  rcases r2 with r2|⟨g,cap,cur,rfl,hg,hh,r⟩
  .exact Or.inl r2
  .refine Or.inr ⟨g,cap,cur,rfl,hg,(k.block g (MY hh) (fun hx=>?_)).trans hh,r⟩
   exact(hS g hx).2.2.2.2 ⟨_,ob.cell 1 (by simp),rfl⟩
 exact⟨wv,n,k.own ob n1,k.own os n2,hr,hm.kept k n3,hn,h2,h3,h4,h5,MA h6 k.size,r⟩
theorem DA.aside (h:DA w b sb mb lo d) (k:aa S w w') (hS:∀x∈S,aW [] w b sb mb x):DA w' b sb mb lo d:=⟨h.disk.aside k hS,h.fit⟩
theorem WB.aside (hb:b<w.heap.size) (k:aa S w w') (hS:b∉S) (g:Nat):WB w' b g↔WB w b g:=WB.gz (k.cell (a:=⟨b,1,none⟩) hb hS)
theorem aW.aside {g:Nat} (h:aW T w b sb mb g) (hb:b<w.heap.size) (k:aa S w w') (hS:b∉S):aW T w' b sb mb g:=⟨h.1,h.2.1,h.2.2.1,h.2.2.2.1,fun hx=>h.2.2.2.2 ((WB.aside hb k hS g).1 hx)⟩
theorem xm (hb:b<w.heap.size) (k:aa S w w') (hS:b∉S) (hT':∀x∈T',x∈T\/w.heap.size<=x):∀g,SD T' w' b sb mb g->SD T w b sb mb g\/w.heap.size<=g:=by
 intro g hg
 by_cases Ns:w.heap.size<=g
 .exact Or.inr Ns
 .refine Or.inl fun ho=>hg ⟨fun hx=>?_,ho.2.1,ho.2.2.1,ho.2.2.2.1,fun hx=>ho.2.2.2.2 ((WB.aside hb k hS g).1 hx)⟩
  rcases hT' g hx with h|h
  .exact ho.1 h
  .exact Ns h
theorem cO.aside (h:cO T w b sb mb v c) (hb:b<w.heap.size) (k:aa S w w') (hST:∀x∈S,x∈T) (hS:b∉S) (hT':∀x∈T',x∈T\/w.heap.size<=x):cO T' w' b sb mb v c:=by
 have h1:aw (SD T w b sb mb) w' v c:=aw.cf h k (fun x hx ho=>ho.1 (hST x hx))
 have h0:aw (fun x=>SD T w b sb mb x\/w.heap.size<=x) w v c:=aw.more h (fun x hx=>hx)
 have h2:aw (fun x=>SD T w b sb mb x\/w.heap.size<=x) w' v c:=aw.cf h0 k (fun x hx=>Or.inl (fun ho=>ho.1 (hST x hx)))
 exact h2.fI (fun g hg=>xm hb k hS hT' g hg)
theorem b8.aside {l:List (Int×Int)} (h:b8 T w b sb mb v l) (hb:b<w.heap.size) (k:aa S w w') (hST:∀x∈S,x∈T) (hS:b∉S) (hT':∀x∈T',x∈T\/w.heap.size<=x):b8 T' w' b sb mb v l:=by
 obtain⟨⟨lo,hi,h1⟩,h2⟩:=h
 refine⟨⟨lo,hi,h1.cf k h2 (fun x hx ho=>ho.1 (hST x hx))⟩,fun g off sp n' c e hn hg=>?_⟩
 rcases xm hb k hS hT' g hg with h3|h3
 .exact h2 g off sp n' c e hn h3
 .have:=h1.lV g off sp n' c e hn
  omega
theorem ay.aside {v:VS} (h:ay T w B b sb mb lo v) (k:aa S w w') (hS:∀x∈S,x∈T/\x≠B/\aW [] w b sb mb x) (hT':∀x∈T',x<w'.heap.size/\(x∈T\/w.heap.size<=x)) (hB:B∈T'):ay T' w' B b sb mb lo v:=by
 have Vg:b∉S:=fun hx=>(hS b hx).2.2.2.1 rfl
 obtain⟨hD,⟨sv,vb,vm,vn,o,hr,hc⟩,_,_,ON⟩:=h
 have hBS:B∉S:=fun hx=>(hS B hx).2.1 rfl
 exact⟨hD.aside k (fun x hx=>(hS x hx).2.2),⟨sv,vb,vm,vn,k.own o hBS,hr.aside hD.aQ k (fun x hx=>(hS x hx).1) Vg (fun x hx=>(hT' x hx).2),hc.aside hD.aQ k (fun x hx=>(hS x hx).1) Vg (fun x hx=>(hT' x hx).2)⟩,hB,fun x hx=>(hT' x hx).1,ON.aside hD.aQ k Vg⟩
theorem rF {s:SB} {sv vb vm vn:Value} (hD:DA w b sb mb lo d) (k:aa [] w w') (hB:w.heap.size<=B) (o:ae w' B (bf b s sv c vb vm vn false) 90) (hr:af w' sv s.runs w.heap.size B) (hc:aw (fun x=>x<w.heap.size\/x=B) w' (.agg #[.int .u32 c.nextBox,.int .u32 c.nextMan,vb,vm,vn]) c)
  (hBT:B∈T) (hT:∀x∈T,x<w.heap.size\/x=B):ay T w' B b sb mb lo ⟨d,s,c,false⟩:=by
 have hsd:∀g,SD T w' b sb mb g->g<w.heap.size\/g=B:=fun g hg=>by
  apply MU
  intro hn
  have h1:w.heap.size<=g/\g≠B:=by omega
  refine hg ⟨fun hx=>?_,by have:=hD.aQ;omega,by have:=hD.Bh;omega,by have:=hD.BG;omega,fun hx=>by have:=hD.GM ((hD.qW k g).1 hx);omega⟩
  rcases hT g hx with h|h
  .omega
  .exact h1.2 h
 refine⟨hD.aJ k,⟨sv,vb,vm,vn,o,⟨⟨_,_,hr⟩,fun g off sp n' c' e hn hg=>?_⟩,hc.fI hsd⟩,hBT,fun x hx=>?_,hD.bh (fun x hx=>by cases hx) k hB⟩
 .rcases hr with⟨h0,_⟩|⟨g',off',c'',e',_,h3,h4,_⟩
  .rw[h0]at hn;simp at hn
  .rw[e']at e
   injection e with e
   injection e with e
   injection e with e
   subst e
   rcases hsd _ hg with h|h<;>omega
 .rcases hT x hx with h|h
  .exact Mo h k.size
  .rw[h];exact o.lt
theorem BL {st:List (List UInt8)} {n:Nat} (h:∀s∈st,s.length=128) (hn:st.length=n):fw st.flatten n n=st/\st.flatten.length=128*n:=by
 have hl:st.flatten.length=128*n:=by
  rw[<-hn]
  clear hn
  induction st with
  |nil=>rfl
  |cons a t ih=>
   rw[List.flatten_cons,Mc,h a (by simp),ih (fun s hs=>h s (by simp[hs])),Mz]
   omega
 refine⟨List.ext_getElem (by rw[oD _ _ _ (Md _),hn]) (fun i h1 h2=>?_),hl⟩
 have h3:=FU st.flatten n i (by omega)
 rw[MD,Mw h1,Option.getD_some]at h3
 exact h3.trans (Gl st h i h2)
theorem Kh (hf:bg d) (h1:1<=d.stand.length) (h2:d.stand.length<=8192) (w:World):
  Calls Tryz.prog 22 #[.string (bs d.stand.flatten)] w fun e w'=>∃b sb mb lo,e=.returned (.tuple #[.pointer (some ⟨b,0,none⟩),.int .i64 0])/\DA w' b sb mb lo (Pw d.stand)/\aa [] w w'/\w.heap.size<=b/\w.heap.size<=sb/\w.heap.size<=mb/\w.heap.size<=lo:=by
 obtain⟨e1,e2⟩:=BL hf.all rfl
 refine(Ln d.stand.flatten d.stand.length w e2 h1 h2).mono fun e w' hh=>?_
 obtain⟨b,sb,mb,lo,he,hD,g1,g2,g3,k⟩:=hh
 rw[e1]at hD
 refine⟨b,sb,mb,lo,he,⟨hD,⟨fun x hx=>(by cases hx),hf.all⟩⟩,k,g3,g1,g2,?_⟩
 have:=(aI.LJ hD).1
 omega
end Go.Proofs.YtdkimcnlhmhpgaaGreat

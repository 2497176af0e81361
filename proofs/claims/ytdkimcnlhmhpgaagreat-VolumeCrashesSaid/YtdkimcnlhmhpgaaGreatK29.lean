/- -/
import Derived.Test.YtdkimcnlhmhpgaaGreatK28
set_option maxHeartbeats 16000000
set_option maxRecDepth 100000
namespace Go.Proofs.YtdkimcnlhmhpgaaGreat
open Go.RowKit
variable {w0 w w' w1:World} {v:Value} {l:List (Int×Int)} {j:Nat}
theorem Na:type_of% @Option.mem_toList:=@Option.mem_toList
theorem nv:∃i,Tryz.prog.info? 102=some i/\i.zero=some (.agg #[.int .i64 0,.int .u32 0,.string {data:=#[]},.int .i64 0,.slice none 0 0])/\i.size=5/\i.bytes=64:=by
 have hi:(Tryz.prog.info? 102).map (fun i=>(i.zero,i.size,i.bytes))=some (some (.agg #[.int .i64 0,.int .u32 0,.string {data:=#[]},.int .i64 0,.slice none 0 0]),5,64):=by kernel_rfl
 exact VQ
def cJ (l:List (ag×Value)):List Value:=(l.map fun x=>[Value.int .i64 x.1.kind,Value.int .u32 x.1.id,Value.string (bs x.1.name),Value.int .i64 x.1.size,x.2]).flatten
theorem gL (l:List (ag×Value)) (r:ag) (v:Value):cJ (l++[(r,v)])=cJ l++[Value.int .i64 r.kind,Value.int .u32 r.id,Value.string (bs r.name),Value.int .i64 r.size,v]:=by simp[cJ]
theorem qc (l:List (ag×Value)) (i:Nat) (h:i<l.length) (j:Nat) (u:Value) (hj:[Value.int .i64 l[i].1.kind,Value.int .u32 l[i].1.id,Value.string (bs l[i].1.name),Value.int .i64 l[i].1.size,l[i].2][j]? =some u):(cJ l)[i*5+j]? =some u:=by
 induction l generalizing i with
 |nil=>simp at h
 |cons a l ih=>
  have e:cJ (a::l)=[Value.int .i64 a.1.kind,Value.int .u32 a.1.id,Value.string (bs a.1.name),Value.int .i64 a.1.size,a.2]++cJ l:=rfl
  have hj5:j<5:=by
   have:=(MI.1 hj).1
   simpa using this
  rw[e]
  cases i with
  |zero=>
   rw[List.getElem?_append_left (by simp;omega)]
   simpa using hj
  |succ i=>
   rw[List.getElem?_append_right (by simp;omega)]
   have e1:(i+1)*5+j-[Value.int .i64 a.1.kind,Value.int .u32 a.1.id,Value.string (bs a.1.name),Value.int .i64 a.1.size,a.2].length=i*5+j:=by simp;omega
   rw[e1]
   exact ih i (by simpa using h) (by simpa using hj)
def aP (w0 w:World) (v:Value) (l:List ag):Prop:=
 ∃vs:List (ag×Value),vs.map (·.1)=l/\w.ownsRow w0.heap.size 102 5 v l.length (cJ vs)/\∀x∈vs,bS w0 w x.2 x.1.runs/\x.1.fits
def nI (w0 w:World) (S:List Nat):Prop:=∀x∈S,x<w0.heap.size\/∃cs t,ae w x cs t/\t≠128/\t≠102
theorem nI.nil (w0 w:World):nI w0 w []:=fun x hx=>by cases hx
theorem nh {w:World} {x:Nat} {cs UJ:Array Value} {t t':TypeId} (h:ae w x cs t) (h':w.heap[x]? =some (.cells UJ t' (0,0))):t=t':=by
 have o':w.heap[x]? =some (.cells cs t (0,0)):=h
 rw[o']at h'
 injection h' with h'
 injection h' with _ e
theorem bS.cf {S:List Nat} (h:bS w0 w v l) (k:aa S w w') (hS:∀x∈S,x<w0.heap.size\/∃cs t,ae w x cs t/\t≠128):bS w0 w' v l:=
 dS h k (fun x hx hb cs hc=>by
  rcases hS x hx with h1|⟨UJ,t,o,ht⟩
  .omega
  .exact ht (nh o hc))
theorem bS.base (h:bS w1 w v l) (hb:w0.heap.size<=w1.heap.size):bS w0 w v l:=aH h hb
theorem bS.rO (h:bS w0 w v l):af w v l w0.heap.size w.heap.size:=af.bo h
section
variable {S:List Nat} {w0 w w':World} {v:Value} {l:List ag}
theorem aP.kept (h:aP w0 w v l) (k:aa S w w') (hS:nI w0 w S):aP w0 w' v l:=by
 obtain⟨vs,h1,h2,h3⟩:=h
 refine⟨vs,h1,dS h2 k (fun x hx hb cs hc=>?_),fun x hx=>⟨(h3 x hx).1.cf k (fun y hy=>?_),(h3 x hx).2⟩⟩
 .rcases hS x hx with h1|⟨UJ,t,o,_,ht⟩
  .omega
  .exact ht (nh o hc)
 .rcases hS y hy with h1|⟨UJ,t,o,ht,_⟩
  .exact Or.inl h1
  .exact Or.inr ⟨UJ,t,o,ht⟩
theorem aP.kept0 (h:aP w0 w v l) (k:aa [] w w'):aP w0 w' v l:=h.kept k (nI.nil _ _)
theorem aP.base (h:aP w1 w v l) (hb:w0.heap.size<=w1.heap.size):aP w0 w v l:=by
 obtain⟨vs,h1,h2,h3⟩:=h
 exact⟨vs,h1,aH h2 hb,fun x hx=>⟨(h3 x hx).1.base hb,(h3 x hx).2⟩⟩
theorem aP.nil (w0 w:World):aP w0 w (.slice none 0 0) []:=⟨[],rfl,MG _ _ _ _,fun x hx=>by cases hx⟩
theorem aP.shape (h:aP w0 w v l):∃p c,v=.slice p l.length c:=by
 obtain⟨vs,h1,h2,h3⟩:=h;exact ai h2
theorem aP.rO (h:aP w0 w v l):cY w v l w0.heap.size w.heap.size:=by
 obtain⟨vs,rfl,h2,h3⟩:=h
 by_cases h0:vs=[]
 .subst h0
  obtain⟨p,c,rfl⟩:=ai h2
  exact Or.inl ⟨rfl,p,c,rfl⟩
 .have hp:0<vs.length:=MH.2 h0
  obtain⟨g,c,rfl,g1,g2,g3,g4,g5⟩:=fQ h2 (by simpa using hp)
  refine Or.inr ⟨g,0,c,rfl,fun i hi=>?_,g1,g2,Md _,fun e=>h0 (List.map_eq_nil_iff.1 e),g3,g4⟩
  have hi':i<vs.length:=by simpa using hi
  obtain⟨q1,q2⟩:=h3 _ (Mh hi')
  refine⟨[Value.int .i64 vs[i].1.kind,Value.int .u32 vs[i].1.id,Value.string (bs vs[i].1.name),Value.int .i64 vs[i].1.size,vs[i].2],rfl,⟨vs[i].2,by rw[MZ],by rw[MZ];exact q1.rO,by rw[MZ];exact q2⟩,fun j u hj=>?_⟩
  rw[Nat.zero_add]
  exact g5 _ _ (qc vs i hi' j u hj)
theorem aP.more {v' kv:Value} {r:ag} {o:Obj} {w5:World} {vs:List (ag×Value)} (h1:vs.map (·.1)=l) (h3:∀x∈vs,bS w0 w x.2 x.1.runs/\x.1.fits) (h2:w.ownsRow w0.heap.size 102 5 v l.length (cJ vs))
  (hr:bS w0 w kv r.runs) (hf:r.fits) (hg:(w.alloc o).grownBy w5 v.ownBlock) (hn:w5.ownsRow w0.heap.size 102 5 v' (l.length+1) (cJ vs++[Value.int .i64 r.kind,Value.int .u32 r.id,Value.string (bs r.name),Value.int .i64 r.size,kv])):
  aP w0 w5 v' (l++[r]):=by
 have Nt:=Me h2 o
 have hk:∀(u:Value) (rs:List (Int×Int)),bS w0 w u rs->bS w0 w5 u rs:=fun u rs hu=>by
  have hu':bS w0 (w.alloc o) u rs:=Me hu o
  exact bm hu' (fun g cs hb hc=>hg.block g (MY hc) (fun e=>aB Nt (show ae (w.alloc o) g cs 128 from hc) (by decide) e.symm))
 refine⟨vs++[(r,kv)],by simp[h1],by rw[gL,Mc,MT];exact hn,fun x hx=>?_⟩
 rcases Mj.1 hx with hx|hx
 .exact⟨hk _ _ (h3 x hx).1,(h3 x hx).2⟩
 .have hx:x=(r,kv):=by simpa using hx
  subst hx
  exact⟨hk _ _ hr,hf⟩
end
structure kl (w wr:World) (rb:Nat) (s:List UInt8) (j:Nat) (v6:Value) (vs:List (ag×Value)) (rest:List UInt8):Prop where
 so:eC j s=some (vs.map (·.1),rest)
 rd:aO wr w.heap.size rest 0
 box:ae wr rb #[.pointer (some ⟨w.heap.size,0,none⟩)] 255
 row:wr.ownsRow w.heap.size 102 5 v6 j (cJ vs)
 each:∀x∈vs,bS w wr x.2 x.1.runs/\x.1.fits
 len:vs.length=j
 kept:aa [] w wr
 hrb:w.heap.size<rb
theorem kl.new {wr:World} {rb:Nat} {s:List UInt8} {v6:Value} {vs:List (ag×Value)} {rest:List UInt8} (h:kl w wr rb s j v6 vs rest):aP w wr v6 (vs.map (·.1)):=
 ⟨vs,rfl,by rw[Mm,h.len];exact h.row,h.each⟩
theorem kl.next {w wr w3 w5:World} {rb:Nat} {s:List UInt8} {j:Nat} {v6 v' kv:Value} {vs:List (ag×Value)} {rest rest':List UInt8} {r:ag} {o1 o2:Obj} (h:kl w wr rb s j v6 vs rest) (ho:je rest=some (r,rest'))
  (kk:aa [w.heap.size] wr w3) (hR:aO w3 w.heap.size rest' 0) (hr:bS wr w3 kv r.runs) (hf:r.fits)
  (hg:((w3.alloc o1).alloc o2).grownBy w5 v6.ownBlock) (hn:w5.ownsRow w.heap.size 102 5 v' (j+1) (cJ vs++[Value.int .i64 r.kind,Value.int .u32 r.id,Value.string (bs r.name),Value.int .i64 r.size,kv])):
  kl w w5 rb s (j+1) v' (vs++[(r,kv)]) rest':=by
 have Rg:w3.ownsRow w.heap.size 102 5 v6 j (cJ vs):=dS h.row kk (fun x hx _ cs hc=>by
  have hx:x=w.heap.size:=by simpa using hx
  subst hx
  exact absurd (nh h.rd hc) (by decide))
 have O4:=h.kept.size
 have aeo:=h.hrb
 have Zx:=kk.own h.box (by simp;omega)
 have PE:aa [] w w3:=h.kept.call kk (fun x hx=>Or.inr (by have:x=w.heap.size:=(by simpa using hx);omega))
 have VY:∀x∈vs,bS w w3 x.2 x.1.runs/\x.1.fits:=fun x hx=>⟨(h.each x hx).1.cf kk (fun y hy=>by
  have hy:y=w.heap.size:=by simpa using hy
  subst hy
  exact Or.inr ⟨_,_,h.rd,by decide⟩),(h.each x hx).2⟩
 have Rj:=Me (Me Rg o1) o2
 have hk:∀(u:Value) (rs:List (Int×Int)),bS w w3 u rs->bS w w5 u rs:=fun u rs hu=>by
  have hu':bS w ((w3.alloc o1).alloc o2) u rs:=Me (Me hu o1) o2
  exact bm hu' (fun g cs hb hc=>hg.block g (MY hc) (fun e=>aB Rj (show ae ((w3.alloc o1).alloc o2) g cs 128 from hc) (by decide) e.symm))
 refine⟨?_,cK Rj hg (ae.alloc (ae.alloc hR o1) o2) (by decide),cK Rj hg ((Zx.alloc o1).alloc o2) (by decide),by rw[gL];exact hn,fun x hx=>?_,by rw[Mc,h.len];rfl,((PE.alloc o1).alloc o2).grown hg (fun i hi=>Or.inr (Mn Rj i hi).1),h.hrb⟩
 .rw[tA h.so ho];simp
 .rcases Mj.1 hx with hx|hx
  .exact⟨hk _ _ (VY x hx).1,(VY x hx).2⟩
  .have hx:x=(r,kv):=by simpa using hx
   subst hx
   exact⟨hk _ _ (hr.base O4),hf⟩
def Ad (s:List UInt8) (w:World) (e:Ending) (w':World):Prop:=
 ((∃o v,fF s=some o/\aP w w' v o/\e=.returned (.tuple #[v,.bool true]))\/(fF s=none/\∃v,e=.returned (.tuple #[v,.bool false])))/\aa [] w w'
theorem IX:mS [] 0=0:=rfl
theorem D9 {l:List UInt8} (h:l≠[]):mS l 0=7:=by unfold mS;rw[if_pos ⟨rfl,h⟩]
theorem FX (s:List UInt8) (w:World):
  Calls Tryz.prog 196 #[.string (bs s)] w (Ad s w):=by
 have PF:=fun W=>oh (bs s) W
 rw[dP]at PF
 have RO:=Mb PF
 clear PF
 go_enter Tryz.func196,Tryz.ntmps196
 go_wp2_with fail
 refine(RO.out _).mono ?_;rintro e w1 ⟨rfl,hR,OY⟩
 have ob:=ae.new w1 #[.pointer (some ⟨w.heap.size,0,none⟩)] 255
 have hl1:=ae.lt hR
 have hu:=tC w.heap.size s 0 _ (ae.alloc hR (.cells #[.pointer (some ⟨w.heap.size,0,none⟩)] 255))
 have bn:((Ny 2 s 0).1:Int)<65536:=by have:=dB 2 s 0;omega
 have hx0:=fun h=>lJ (k:=2) (l:=s) (x:=0) h
 have OF:=fun h=>Jd (s:=s) h
 have Y8:=fun h=>Co (s:=s) h
 have PH:=fun r o h=>Cp (s:=s) (r:=r) (o:=o) h
 have WE:=fun o h1 h2=>wz (s:=s) (o:=o) h1 h2
 have HU:=Mb hu
 have HR:=Mb hR
 have HX0:=Mb hx0
 have Pk:=Mb OF
 have UV:=Mb Y8
 have abS:=Mb PH
 have Z2:=Mb WE
 clear hu RO hx0 OF Y8 PH WE hR
 generalize Ny 2 s 0=N at*
 go_wp2_with fail
 refine HU.out.mono ?_;rintro e w2 ⟨rfl,QX,P9⟩
 have ob2:=P9.own ob (by simp;omega)
 have hK:aa [] w w2:=(OY.alloc _).call P9 (fun x hx=>Or.inr (by have:x=w.heap.size:=(by simpa using hx);omega))
 clear HU OY P9 ob HR
 generalize w1.heap.size=rb at*
 by_cases h1:N.1<1
 .have hb:=Pk.out (by omega)
  have HB:=Mb hb
  have h1':(N.1:Int)<1:=by omega
  clear hb h1
  go_wp2_with fail
  go_ret2
  exact⟨Or.inr ⟨HB.out,_,rfl⟩,hK⟩
 .by_cases h2:8192<N.1
  .have hb:=Pk.out (by omega)
   have HB:=Mb hb
   have h1':(1:Int)<=N.1:=by omega
   have h2':(8192:Int)<N.1:=by omega
   clear hb h1 h2
   go_wp2_with fail
   go_ret2
   exact⟨Or.inr ⟨HB.out,_,rfl⟩,hK⟩
  .have h1':(1:Int)<=N.1:=by omega
   have h2':(N.1:Int)<=8192:=by omega
   have hx:=HX0.out (by omega)
   obtain⟨n,s1,x⟩:=N
   simp only at*
   subst hx
   have N8:kl w w2 rb s1 0 (.slice none 0 0) [] s1:=⟨rfl,QX,ob2,MG _ _ _ _,fun x hx=>(by cases hx),rfl,hK,by omega⟩
   have OM:=Mb N8
   have cr:w2.cell? ⟨rb,0,none⟩=some (.pointer (some ⟨w.heap.size,0,none⟩)):=ob2.cell 0 (by simp)
   clear N8 QX ob2 hK HX0 h1 h2
   generalize R9:(n:Int)=nn at*
   have YM:=Mb R9
   clear R9
   go_wp2_with fail
   go_loopw [6,7,8,23] (fun v6 v7 v8 i wr=>∃(j:Nat) (vs:List (ag×Value)) (rest:List UInt8),j<=n/\i=.int .i64 j/\kl w wr rb s1 j v6 vs rest) (fun _ _ _ i _=>n-(intOf i).toNat)
   case atStart=>exact⟨0,[],s1,by omega,rfl,OM.out⟩
   case round=>
    obtain⟨j,vs,rest,hj,rfl,N8⟩:=hrel
    obtain⟨p6,c6,rfl⟩:=ai N8.row
    have cr:wr.cell? ⟨rb,0,none⟩=some (.pointer (some ⟨w.heap.size,0,none⟩)):=N8.box.cell 0 (by simp)
    have XE:=Mb N8
    by_cases Ns:j<n
    .have Rs:=II w.heap.size rest wr N8.rd
     have R7:=Mb Rs
     have NU:=Mb Ns
     have i1:(j:Int)<nn:=by have:=YM.out;omega
     clear Rs N8 OM
     go_wp2_with fail
     refine R7.out.mono ?_;rintro e w3 ⟨r,kv,Nt,N4,PE,hc⟩
     clear R7
     rcases hc with⟨rest',ho,hR3,rfl⟩|⟨ho,rfl⟩
     .have HO:=Mb ho
      have XG:=Mb hR3
      have OK:=Mb Nt
      have P7:=Mb N4
      obtain⟨pk,ck,rfl⟩:=ai Nt
      obtain⟨i0,q0,q1,q2,q3⟩:=nv
      have TM:w3.ownsRow w.heap.size 102 5 (.slice p6 j c6) j (cJ vs):=dS XE.out.row PE (fun x hx _ cs hc=>by
       have hx:x=w.heap.size:=by simpa using hx
       subst hx
       exact absurd (nh XE.out.rd hc) (by decide))
      have adA:=Mb TM
      have r3:j+1<=maxLen:=by unfold maxLen;omega
      have r4:(j+1)*64<=140737488355328:=by omega
      have ady:w.heap.size<=w3.heap.size:=MA XE.out.kept.size PE.size
      clear ho hR3 Nt N4 TM
      unfold ag.cells
      go_wp2_with (at_builtin;go_must (refine Mv _ rfl (.tmp 32) (.tmp 34) 92 rfl w.heap.size 102 i0 (.agg #[.int .i64 0,.int .u32 0,.string {data:=#[]},.int .i64 0,.slice none 0 0]) 5 64 Tryz.underlying92 q0 q1 q2 q3 rfl (by decide) _ _ _ rfl (Me (Me adA.out _) _) ⟨w3.heap.size+1,0,none⟩ 1 1 [.int .i64 r.kind,.int .u32 r.id,.string (bs r.name),.int .i64 r.size,.slice pk r.runs.length ck] rfl rfl ?_ ?_ r3 r4 ?_ ?_))
      .have:=World.news_of_block (M0 (w3.alloc (.cells #[.int .i64 r.kind,.int .u32 r.id,.string (bs r.name),.int .i64 r.size,.slice pk r.runs.length ck] 102)) (.cells #[.int .i64 r.kind,.int .u32 r.id,.string (bs r.name),.int .i64 r.size,.slice pk r.runs.length ck] 102))
       simpa only[MK]using this
      .intro u hu;simp at hu;rcases hu with rfl|rfl|rfl|rfl|rfl<;>rfl
      .simp;omega
      intro v6 w6 o6 OE _ _
      have Tb:=kl.next XE.out HO.out PE XG.out OK.out P7.out OE o6
      have Ue:=Mb Tb
      clear Tb o6 OE
      go_wp2_with fail
      go_roundw
      case rel=>exact⟨j+1,_,_,NU.out,by go_num,Ue.out⟩
      case measure=>(have hh:=NU.out;simp[intOf];omega)
     .have hb:=UV.out (by rw[Bk XE.out.so ho NU.out])
      have HB:=Mb hb
      have QC:aa [] w w3:=XE.out.kept.call PE (fun x hx=>Or.inr (by have:x=w.heap.size:=(by simpa using hx);omega))
      obtain⟨pk,ck,rfl⟩:=ai Nt
      clear hb ho Nt
      unfold ag.cells
      go_wp2_with fail
      go_ret2
      exact⟨Or.inr ⟨HB.out,_,rfl⟩,QC.alloc _⟩
    .obtain rfl:j=n:=by omega
     have i1:¬((j:Int)<nn):=by have:=YM.out;omega
     have PN:=KY w.heap.size rest 0 wr N8.rd
     have SU:=Mb N8.new
     have QC:=N8.kept
     have Sf:=N8.so
     by_cases hr:rest=[]
     .subst hr
      rw[IX]at PN
      have hb:=Z2.out _ (by have:=YM.out;omega) (by have:=YM.out;omega) Sf
      have HB:=Mb hb
      have HE:=Mb PN
      clear hb PN N8 OM Sf XE
      go_wp2_with fail
      refine HE.out.mono ?_;rintro e w' ⟨rfl,rfl⟩
      go_wp2_with fail
      go_ret2
      exact⟨Or.inl ⟨_,_,HB.out,SU.out,rfl⟩,QC⟩
     .rw[D9 hr]at PN
      have hb:=abS.out _ _ Sf hr
      have HB:=Mb hb
      have HE:=Mb PN
      clear hb PN N8 OM Sf XE hr
      go_wp2_with fail
      refine HE.out.mono ?_;rintro e w' ⟨rfl,rfl⟩
      go_wp2_with fail
      go_ret2
      exact⟨Or.inr ⟨HB.out,_,rfl⟩,QC⟩
theorem bB {P:Program} {ops:Array Oper} {o:Oper} {a:Act} {K:Act->World->Prop} {Q:Exit->Act->World->Prop} {E:Prop}
  (hg:o.guard=none) (d x:Operand) (dT sT:TypeId) (Qk:o.op=Op.call {callee:=Callee.builtin Builtin.append,args:=#[d,x],argTypes:=#[dT,sT]})
  (v u:Value) (hd:a.eval d=v) (hx:a.eval x=u) {v':Value} (hr:(Builtin.append_ #[dT,sT] o.type #[v,u]).run P w=.ok v' w') (hK:K (a.put o.dst v') w'):
  if Region.wanted o (yielded ops a.tmps)=true then Oper.wp P o a w K Q else E:=by
 have hw:Region.wanted o (yielded ops a.tmps)=true:=by simp[Region.wanted,hg]
 rw[if_pos hw]
 unfold Oper.wp
 simp[execOp,Qk,resolve,invoke,builtin,hd,hx,hr,Result.andThen]
 exact hK
def gP (w0 w:World) (bx:Nat) (l:List ag):Prop:=
 ∃v vs,ae w bx #[v] 92/\vs.map (·.1)=l/\w.ownsRow w0.heap.size 102 5 v vs.length (cJ vs)/\(∀x∈vs,af w0 x.2 x.1.runs 0 w0.heap.size/\x.1.fits)/\aa [] w0 w/\w0.heap.size<=bx
theorem gP.val {bx:Nat} {l:List ag} (h:gP w0 w bx l):∃v,ae w bx #[v] 92/\cY w v l 0 w.heap.size/\aa [] w0 w:=by
 obtain⟨v,vs,h1,rfl,h3,h4,h5,h6⟩:=h
 refine⟨v,h1,?_,h5⟩
 by_cases h0:vs=[]
 .subst h0
  obtain⟨p,c,rfl⟩:=ai h3
  exact Or.inl ⟨rfl,p,c,rfl⟩
 .have hp:0<vs.length:=MH.2 h0
  obtain⟨g,c,rfl,g1,g2,g3,g4,g5⟩:=fQ h3 (by simpa using hp)
  refine Or.inr ⟨g,0,c,by simp,fun i hi=>?_,Mu _,g2,Md _,fun e=>h0 (List.map_eq_nil_iff.1 e),by simpa using g3,g4⟩
  have hi':i<vs.length:=by simpa using hi
  obtain⟨q1,q2⟩:=h4 _ (Mh hi')
  refine⟨[Value.int .i64 vs[i].1.kind,Value.int .u32 vs[i].1.id,Value.string (bs vs[i].1.name),Value.int .i64 vs[i].1.size,vs[i].2],rfl,⟨vs[i].2,by rw[MZ],by rw[MZ];exact(q1.kept0 h5).jK,by rw[MZ];exact q2⟩,fun j u hj=>?_⟩
  rw[Nat.zero_add]
  exact g5 _ _ (qc vs i hi' j u hj)
theorem CV {l:List Nf} {k:Int} (h:j<l.length):(l.take (j+1)).map (·.told k)=(l.take j).map (·.told k)++[(l[j]'h).told k]:=by
 rw[Mf h,Ms];rfl
theorem M7 {A:Prop}(h:A:=by
 clear hK K
 have Pz:=ae.new w3 #[.int .i64 k,.int .u32 A.id,.string (bs A.name),.int .i64 A.size,.slice pk nk ck] 102
 obtain⟨v5,w5,NT,Od,hgrow5,_,_⟩:=run_append_own_at (P:=Tryz.prog) (w3.alloc (.cells #[.int .i64 k,.int .u32 A.id,.string (bs A.name),.int .i64 A.size,.slice pk nk ck] 102)) w0.heap.size 92 92 102 i0 _ 5 64 Tryz.underlying92 hi0 hz0 PS P8 rfl (by decide) _ vs.length (cJ vs) (Me SO.out _) ⟨w3.heap.size,0,none⟩ 1 1 [.int .i64 k,.int .u32 A.id,.string (bs A.name),.int .i64 A.size,.slice pk nk ck] rfl (fun q u hq=>by
  have WD:=(MI.1 hq).1
  rw[My,Nat.zero_add,Pz.cell q (by simpa using WD)]
  rw[<-hq];simp[Mw WD]) (by intro u hu;simp at hu;rcases hu with rfl|rfl|rfl|rfl|rfl<;>rfl) (by have:=HVL.out;unfold maxLen;omega) (by have:=HVL.out;omega) (by have:=K3.out.size;simp;omega)
 obtain⟨p5,c5,rfl⟩:=ai Od
 obtain⟨T,hT⟩:∃T:List Nat,T=((Value.slice pv vs.length cv).ownBlock).toList:=⟨_,rfl⟩
 have Wv:bx∉T:=fun hb=>by
  rw[hT,Na]at hb
  exact aB SO.out Z3.out (by decide) hb
 have ZX:wr.heap.size∉T:=fun hb=>by
  rw[hT,Na]at hb
  exact aB SO.out OI3.out (by decide) hb
 have Ud:aa T _ w5:=(aa.refl T _).grown hgrow5 (fun q hq=>Or.inl (by rw[hT,Na];exact hq))
 have SJ:=Mb (Ud.own (Z3.out.alloc _) Wv)
 have OI5:=Mb (Ud.own (OI3.out.alloc _) ZX)
 have K5:=Mb ((K3.out.alloc _).grown hgrow5 (fun q hq=>Or.inr (Mn SO.out q hq).1))
 have aaD:=Mb Od
 have Qn:=Mb NT
 clear Od hgrow5 hT Wv ZX Ud Pz NT
 refine rd 5 (fun K hK=>?_)
 refine bB rfl _ _ 92 92 rfl _ _ (by simp[Act.eval,Act.put]) (by simp[Act.eval,Act.put]) Qn.out ?_
 refine hK.out _ _ ?_ (fun hHeld=>nm ?_)
 .exact OI5.out.c4
 clear hK K
 have b0:=SJ.out.cell 0 (by simp)
 simp only[List.getElem_toArray,List.getElem_cons_zero]at b0
 have z0:=SJ.out.free 0
 refine rd 6 (fun K hK=>?_)
 go_simp
 refine hK.out _ _ ?_ (fun hHeld=>nm ?_)
 .exact(OI5.out.other (p:=⟨bx,0,none⟩) Ul.out _).c4
 clear hK K
 refine MM (by kernel_rfl) ?_ _
 go_wp2_with fail
 go_roundw
 case rel=>
  refine⟨j+1,NU.out,by go_num,.slice p5 (vs.length+1) c5,vs++[(A.told k,.slice pk nk ck)],?_,?_,?_,?_,?_,Q0.out⟩
  .exact SJ.out.set 0 _
  .rw[Ms,HVS.out,Mi,Tc.out];rfl
  .rw[gL,Mc,MT]
   exact cw aaD.out ((aa.refl [bx] w5).setCell (p:=⟨bx,0,none⟩) (Or.inl (by simp)) _) SJ.out (by decide)
  .intro x hx
   rcases Mj.1 hx with hx|hx
   .exact HVR.out x hx
   .have:x=(A.told k,.slice pk nk ck):=by simpa using hx
    subst this;exact SU.out
  .exact K5.out.setCell (p:=⟨bx,0,none⟩) (Or.inr Q0.out) _
 case measure=>(have h:=NU.out;simp[intOf];omega)):A:=h
theorem ED (k:Int) (vl:Value) (l:List Nf) (L:List ag) (bx:Nat) (w0 w:World) (h:aS w0 vl l) (hA:gP w0 w bx L) (hlen:L.length+l.length<=100000) (hkw:(Lit.int .i64 k).wf=true):
  Calls Tryz.prog 181 #[.int .i64 k,vl,.pointer (some ⟨bx,0,none⟩)] w fun e w'=>e=.returned (.tuple #[])/\gP w0 w' bx (L++l.map (·.told k)):=by
 obtain⟨i0,hi0,hz0,PS,P8⟩:=nv
 obtain⟨p,c,rfl⟩:=h.shape
 have H:=Mb h
 have HA:=Mb hA
 have Oa:=Mb hlen
 have QZ:(l.length:Int)<=1000000:=by omega
 clear h hA hlen
 go_enter Tryz.func181,Tryz.ntmps181
 go_wp2_with fail
 go_loopw [9] (fun i wr=>∃j:Nat,j<=l.length/\i=.int .i64 j/\gP w0 wr bx (L++(l.take j).map (·.told k))) (fun i _=>l.length-(intOf i).toNat)
 case atStart=>exact⟨0,Mu _,rfl,by simpa using HA.out⟩
 case round=>
  obtain⟨j,hj,rfl,hR⟩:=hrel
  by_cases Ns:j<l.length
  .have i1:(j:Int)<l.length:=by omega
   obtain⟨b,off,kv,rfl,hia,hb,Rt,Th,HIA⟩:=H.out.jJ j Ns
   have Pc:=CV (k:=k) Ns
   obtain⟨v,vs,ho,hvs,Nt,hvr,hK,hbx⟩:=hR
   obtain⟨y0,y1,y2,y3⟩:=HIA wr hK
   have Zl:=fun W=>GK k (l[j]'Ns) kv W hia.iN
   have TA:af w0 kv ((l[j]'Ns).told k).runs 0 w0.heap.size/\((l[j]'Ns).told k).fits:=⟨hia.1,Nf.gB hia.2.1 hkw⟩
   obtain⟨pk,nk,ck,rfl⟩:=hia.iN
   have hvl:vs.length<=100000:=by
    have:=congrArg List.length hvs
    rw[Mm,Mc,Mm,Mp]at this
    have:=Oa.out
    omega
   have HVS:=Mb hvs
   have Tc:=Mb Pc
   have SU:=Mb TA
   have HVR:=Mb hvr
   have HT:=Mb Zl
   have NU:=Mb Ns
   have HVL:=Mb hvl
   have ZM:=Mb hK
   have Q0:=Mb hbx
   have Ul:Hid (wr.heap.size≠bx):=Mb (fun e=>by have:=ho.lt;omega)
   unfold Nf.told ag.cells Nf.cells at HT
   clear hvs Pc TA hvr Zl hia HIA hb hvl
   generalize hLA:l[j]'Ns=A at*
   clear hLA
   have OB:=Mb (ho.alloc (.cells #[.int .u32 A.id,.string (bs A.name),.int .i64 A.size,.slice pk nk ck] 113))
   have OI:=Mb (ae.new wr #[.int .u32 A.id,.string (bs A.name),.int .i64 A.size,.slice pk nk ck] 113)
   have Tf:=Mb (Me Nt (.cells #[.int .u32 A.id,.string (bs A.name),.int .i64 A.size,.slice pk nk ck] 113))
   have KW:=Mb (hK.alloc (.cells #[.int .u32 A.id,.string (bs A.name),.int .i64 A.size,.slice pk nk ck] 113))
   clear ho Nt hK hbx Ns
   obtain⟨pv,cv,rfl⟩:=ai Tf.out
   go_wp2_with fail
   refine Ml (S:=(fun W=>(W.cell? ⟨wr.heap.size,0,none⟩=some (.int .u32 A.id)/\W.cell? ⟨wr.heap.size,1,none⟩=some (.string (bs A.name))/\W.cell? ⟨wr.heap.size,2,none⟩=some (.int .i64 A.size)/\W.cell? ⟨wr.heap.size,3,none⟩=some (.slice pk nk ck)))) (by kernel_rfl) (by exact OI.out.drew.c4) (fun hHeld=>?_)
   have b1:=OB.out.drew.cell 0 (by simp)
   simp only[List.getElem_toArray,List.getElem_cons_zero]at b1
   refine tk 1 14 ?_
   refine tk 2 15 ?_
   refine wpAnyH_ready (rs:=[0,3]) (by kernel_rfl) (by simp) ?_
   refine(AllReadyH.cons rfl (fun K hK=>?_) (AllReadyH.cons rfl (fun K hK=>?_) AllReadyH.nil))
   .skip
    go_simp
    refine hK.out _ _ ?_ (fun hHeld=>nm ?_)
    .exact OI.out.drew.c4
    clear hK K
    refine rd 3 (fun K hK=>?_)
    go_simp
    ((with_reducible refine(HT.out _).mono ?_));rintro e w3 ⟨rfl,k3⟩
    have Z3:=Mb (k3.own OB.out.drew (by simp))
    have OI3:=Mb (k3.own OI.out.drew (by simp))
    have SO:=Mb (au (World.ownsRow.drew Tf.out) k3 (by simp))
    have K3:=Mb (KW.out.drew.trans k3)
    go_wp2_with fail
    refine hK.out _ _ ?_ (fun hHeld=>nm ?_)
    .exact OI3.out.c4
    clear hK K
    refine rd 4 (fun K hK=>?_)
    go_simp
    refine hK.out _ _ ?_ (fun hHeld=>nm ?_)
    .go_keep
    exact M7
   .skip
    go_simp
    ((with_reducible refine(HT.out _).mono ?_));rintro e w3 ⟨rfl,k3⟩
    have Z3:=Mb (k3.own OB.out.drew (by simp))
    have OI3:=Mb (k3.own OI.out.drew (by simp))
    have SO:=Mb (au (World.ownsRow.drew Tf.out) k3 (by simp))
    have K3:=Mb (KW.out.drew.trans k3)
    go_wp2_with fail
    refine hK.out _ _ ?_ (fun hHeld=>nm ?_)
    .exact OI3.out.c4
    clear hK K
    have b3:=Z3.out.cell 0 (by simp)
    simp only[List.getElem_toArray,List.getElem_cons_zero]at b3
    refine wpAnyH_ready (rs:=[0,4]) (by kernel_rfl) (by simp) ?_
    refine(AllReadyH.cons rfl (fun K hK=>?_) (AllReadyH.cons rfl (fun K hK=>?_) AllReadyH.nil))
    .skip
     go_simp
     refine hK.out _ _ ?_ (fun hHeld=>nm ?_)
     .exact OI3.out.c4
     clear hK K
     refine rd 4 (fun K hK=>?_)
     go_simp
     refine hK.out _ _ ?_ (fun hHeld=>nm ?_)
     .go_keep
     exact M7
    .skip
     go_simp
     refine hK.out _ _ ?_ (fun hHeld=>nm ?_)
     .go_keep
     clear hK K
     have b4:=(Z3.out.alloc (.cells #[.int .i64 k,.int .u32 A.id,.string (bs A.name),.int .i64 A.size,.slice pk nk ck] 102)).cell 0 (by simp)
     simp only[List.getElem_toArray,List.getElem_cons_zero]at b4
     refine rd 0 (fun K hK=>?_)
     go_simp
     refine hK.out _ _ ?_ (fun hHeld=>nm ?_)
     .exact(OI3.out.alloc _).c4
     exact M7
  .obtain rfl:j=l.length:=by omega
   rw[MC]at hR
   have HRF:=Mb hR
   have i1:¬(l.length:Int)<l.length:=by omega
   clear hR
   go_wp2_with fail
   refine bodyPost_end (results_none rfl _ _ _) rfl ?_
   exact⟨rfl,HRF.out⟩
def lZ (c:aj) (w:World) (e:Ending) (w':World):Prop:=∃u,e=.returned u/\cY w' u (N0 c) 0 w'.heap.size/\aa [] w w'
theorem wO (v:Value) (c:aj) (w:World) (h:cC w v c) (hlen:c.boxes.length+c.mans.length+c.names.length<=100000):
  Calls Tryz.prog 110 #[v] w (lZ c w):=by
 obtain⟨vb,vm,vn,rfl,hb,hm,hn,_⟩:=h
 obtain⟨p1,c1,e1⟩:=hb.shape
 obtain⟨p2,c2,e2⟩:=hm.shape
 obtain⟨p3,c3,e3⟩:=hn.shape
 obtain⟨W1,hW1⟩:∃W1,W1=w.alloc (.cells #[.int .u32 c.nextBox,.int .u32 c.nextMan,vb,vm,vn] 52):=⟨_,rfl⟩
 have k1:aa [] w W1:=by rw[hW1];exact(aa.refl _ _).alloc _
 have HB:Hid (∀W L,gP W1 W (w.heap.size+1) L->L.length=0->Calls Tryz.prog 181 #[.int .i64 1,vb,.pointer (some ⟨w.heap.size+1,0,none⟩)] W fun e w'=>e=.returned (.tuple #[])/\gP W1 w' (w.heap.size+1) (L++c.boxes.map (·.told 1))):=Mb (fun W L hA hL=>ED 1 vb _ L _ W1 W (hb.kept0 k1) hA (by omega) (by decide))
 have HM:Hid (∀W L,gP W1 W (w.heap.size+1) L->L.length=c.boxes.length->Calls Tryz.prog 181 #[.int .i64 2,vm,.pointer (some ⟨w.heap.size+1,0,none⟩)] W fun e w'=>e=.returned (.tuple #[])/\gP W1 w' (w.heap.size+1) (L++c.mans.map (·.told 2))):=Mb (fun W L hA hL=>ED 2 vm _ L _ W1 W (hm.kept0 k1) hA (by omega) (by decide))
 have HN:Hid (∀W L,gP W1 W (w.heap.size+1) L->L.length=c.boxes.length+c.mans.length->Calls Tryz.prog 181 #[.int .i64 3,vn,.pointer (some ⟨w.heap.size+1,0,none⟩)] W fun e w'=>e=.returned (.tuple #[])/\gP W1 w' (w.heap.size+1) (L++c.names.map (·.told 3))):=Mb (fun W L hA hL=>ED 3 vn _ L _ W1 W (hn.kept0 k1) hA (by omega) (by decide))
 subst e1 e2 e3
 have oA:ae W1 w.heap.size #[.int .u32 c.nextBox,.int .u32 c.nextMan,.slice p1 c.boxes.length c1,.slice p2 c.mans.length c2,.slice p3 c.names.length c3] 52:=by rw[hW1];exact ae.new _ _ _
 have Q6:W1.heap.size=w.heap.size+1:=by rw[hW1];simp
 have oB:ae (W1.alloc (.cells #[.slice none 0 0] 92)) (w.heap.size+1) #[.slice none 0 0] 92:=by rw[<-Q6];exact ae.new _ _ _
 have hA0:gP W1 (W1.alloc (.cells #[.slice none 0 0] 92)) (w.heap.size+1) []:=⟨.slice none 0 0,[],oB,rfl,MG _ _ _ _,fun x hx=>(by cases hx),(aa.refl _ _).alloc _,by omega⟩
 rw[hW1]at hA0
 have Oe:Hid (∀W,aa [] W1 W->W.cell? ⟨w.heap.size,2,none⟩=some (.slice p1 c.boxes.length c1)/\W.cell? ⟨w.heap.size,3,none⟩=some (.slice p2 c.mans.length c2)/\W.cell? ⟨w.heap.size,4,none⟩=some (.slice p3 c.names.length c3)):=Mb (fun W q=>by
  obtain⟨_,_,x2,x3,x4⟩:=(q.own oA (by simp)).k5
  exact⟨x2,x3,x4⟩)
 rw[hW1]at HB HM HN Oe k1
 have HA0:=Mb hA0
 obtain⟨x2,x3,x4⟩:=Oe.out _ ((aa.refl _ _).alloc (.cells #[.slice none 0 0] 92))
 have K1:=Mb k1
 have HC:Hid ((([]++c.boxes.map (·.told 1))++c.mans.map (·.told 2))++c.names.map (·.told 3)=N0 c):=Mb (by unfold N0;simp)
 have Yc:Hid (([]++c.boxes.map (·.told 1):List ag).length=c.boxes.length):=Mb (by simp)
 have HL2:Hid ((([]++c.boxes.map (·.told 1))++c.mans.map (·.told 2):List ag).length=c.boxes.length+c.mans.length):=Mb (by simp)
 clear oA oB hA0 hb hm hn hlen k1 Q6 hW1 W1
 go_enter Tryz.func110,Tryz.ntmps110
 go_wp2_with fail
 refine(HB.out _ _ HA0.out rfl).mono ?_;rintro e w2 ⟨rfl,TK⟩
 have Xy:=Mb TK
 obtain⟨u2,ou2,_,kk2⟩:=TK.val
 obtain⟨x2,x3,x4⟩:=Oe.out _ kk2
 clear TK ou2 kk2
 go_wp2_with fail
 refine(HM.out _ _ Xy.out Yc.out).mono ?_;rintro e w3 ⟨rfl,hA3⟩
 have HA3:=Mb hA3
 obtain⟨u3,ou3,_,TL⟩:=hA3.val
 obtain⟨x2,x3,x4⟩:=Oe.out _ TL
 clear hA3 ou3 TL
 go_wp2_with fail
 refine(HN.out _ _ HA3.out HL2.out).mono ?_;rintro e w4 ⟨rfl,hA4⟩
 rw[HC.out]at hA4
 obtain⟨u4,ou4,hin4,kk4⟩:=hA4.val
 have HI4:=Mb hin4
 have K4:=Mb (K1.out.trans kk4)
 have b4:=ou4.cell 0 (by simp)
 simp only[List.getElem_toArray,List.getElem_cons_zero]at b4
 clear hA4 hin4 kk4
 go_wp2_with fail
 go_ret
 exact⟨_,rfl,HI4.out,K4.out⟩
end Go.Proofs.YtdkimcnlhmhpgaaGreat

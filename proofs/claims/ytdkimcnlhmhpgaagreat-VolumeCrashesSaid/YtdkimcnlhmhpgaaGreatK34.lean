/- -/
import Derived.Test.YtdkimcnlhmhpgaaGreatK30
set_option maxHeartbeats 16000000
set_option maxRecDepth 100000
namespace Go.Proofs.YtdkimcnlhmhpgaaGreat
open Go.RowKit
variable {w wa w':World} {base size n g:Nat} {e:TypeId} {v u va vb vc:Value} {xs ys zs:List (Nf×Value)} {x:Nf×Value}
def fh (l:List UInt8):Option (List UInt8):=if 4<=l.length/\Nh (Qh (l.take (l.length-4))) 4=l.drop (l.length-4)then some (l.take (l.length-4))else none
def km (l:List UInt8) (w:World) (e:Ending) (w':World):Prop:=
 ((∃t,fh l=some t/\e=.returned (.tuple #[.string (bs t),.int .i64 0]))\/(fh l=none/\∃c:Int,(c==0)=false/\e=.returned (.tuple #[.string (bs []),.int .i64 c])))/\aa [] w w'
theorem vK (a:List UInt8):fh (eR a)=some a:=by
 have h:(eR a).length-4=a.length:=by unfold eR;rw[Mc,aq];omega
 unfold fh
 rw[h,if_pos]
 .unfold eR;simp
 .unfold eR;simp[aq]
theorem Dw {l t:List UInt8} (h:fh l=some t):l=eR t:=by
 unfold fh at h
 split at h
 .rename_i hh
  injection h with h
  subst h
  unfold eR
  rw[hh.2,List.take_append_drop]
 .cases h
theorem Km (a b:List UInt8) (w:World) (hb:b.length=4) (hl:a.length<=1000000):
  Calls Tryz.prog 245 #[.string (bs (a++b))] w (km (a++b) w):=by
 have hz:(bs (a++b)).size=a.length+4:=by rw[Nj,Mc,hb]
 have ha1:(a.length:Int)<=1000000:=by omega
 have hs:∀W,Calls Tryz.prog 103 #[.string (bs a)] W fun e w'=>e=.returned (.int .u32 (Qh a))/\W=w':=fun W=>by
  have:=Cd (bs a) W (by rw[Nj];unfold maxLen;omega)
  rwa[dP]at this
 have hc:=uj a
 have HS:=Mb hs
 have HU:=Mb (fun W=>eh (Qh a) W hc)
 have ho:fh (a++b)=if Nh (Qh a) 4=b then some a else none:=by
  have h4:(a++b).length-4=a.length:=by rw[Mc,hb];omega
  unfold fh
  rw[h4,List.take_left,List.drop_left]
  have h5:4<=(a++b).length:=by rw[Mc,hb];omega
  by_cases h6:Nh (Qh a) 4=b
  .rw[if_pos ⟨h5,h6⟩,if_pos h6]
  .rw[if_neg (fun h=>h6 h.2),if_neg h6]
 have E1:Hid ((bs (a++b)).extract 0 a.length=bs a):=Mb (by rw[aX];simp)
 have E2:Hid ((bs (a++b)).extract a.length (a.length+4)=bs b):=Mb (by rw[aX,List.drop_left,Nat.add_sub_cancel_left,<-hb,MC])
 have HO:=Mb ho
 generalize Qh a=c at*
 unfold km
 clear ho hs hc
 by_cases hq:Nh c 4=b
 .have HQ:Hid (bs (Nh c 4)=bs b):=Mb (by rw[hq])
  have HR:Hid (fh (a++b)=some a):=Mb (by rw[HO.out,if_pos hq])
  clear hq HO
  generalize hL:bs (a++b)=L at*
  clear hL
  go_enter Tryz.func245,Tryz.ntmps245
  go_wp2_with fail
  refine Ml (S:=(fun W=>True)) (by kernel_rfl) (by trivial) (fun hHeld=>?_)
  refine tk 0 10 ?_
  refine tk 1 11 ?_
  refine bD (i:=2) (d:=some 12) (v:=.string (bs a)) rfl rfl (by kernel_rfl) (by kernel_rfl) (by kernel_rfl) (fun _ _ _ h=>h) (Or.inl ⟨by rfl,?_⟩) (by assumption) ?_
  ·(intro w PQ;go_simp;rw[E1.out,if_pos (by omega)])
  try simp only[Act.put,List.setIfInBounds_toArray,List.set_cons_zero,List.set_cons_succ]
  refine tk 5 15 ?_
  refine tk 6 16 ?_
  refine bD (i:=7) (d:=some 17) (v:=.string (bs b)) rfl rfl (by kernel_rfl) (by kernel_rfl) (by kernel_rfl) (fun _ _ _ h=>h) (Or.inl ⟨by rfl,?_⟩) (by assumption) ?_
  ·(intro w PQ;go_simp;rw[E2.out,if_pos (by omega)])
  try simp only[Act.put,List.setIfInBounds_toArray,List.set_cons_zero,List.set_cons_succ]
  refine rd 3 (fun K hK=>?_)
  go_simp
  ((with_reducible refine(HS.out _).mono ?_));rintro e w2 ⟨rfl,rfl⟩
  go_wp2_with fail
  refine hK.out _ _ ?_ (fun hHeld=>nm ?_)
  .trivial
  clear hK K
  refine rd 4 (fun K hK=>?_)
  go_simp
  ((with_reducible refine(HU.out _).mono ?_));rintro e w3 ⟨rfl,k3⟩
  go_wp2_with fail
  refine hK.out _ _ ?_ (fun hHeld=>nm ?_)
  .trivial
  clear hK K
  refine bD (i:=8) (d:=some 18) (v:=.bool false) rfl rfl (by kernel_rfl) (by kernel_rfl) (by kernel_rfl) (fun _ _ _ h=>h) (Or.inl ⟨by rfl,?_⟩) (by assumption) ?_
  ·(intro w PQ;go_simp;exact congrArg ByteArray.toList HQ.out)
  try simp only[Act.put,List.setIfInBounds_toArray,List.set_cons_zero,List.set_cons_succ]
  refine MM (by kernel_rfl) ?_ _
  go_wp2_with fail
  rw[E1.out]
  go_ret2
  exact⟨Or.inl ⟨_,HR.out,rfl⟩,((aa.refl _ _).drew.trans k3)⟩
 .have HQ:Hid (¬(bs (Nh c 4)).toList=(bs b).toList):=Mb (fun h=>hq (by
   have h2:∀l:List UInt8,(bs l).toList=l:=fun l=>by simp[bs,ByteArray.toList_eq]
   rwa[h2,h2]at h))
  have HR:Hid (fh (a++b)=none):=Mb (by rw[HO.out,if_neg hq])
  clear hq HO
  generalize hL:bs (a++b)=L at*
  clear hL
  go_enter Tryz.func245,Tryz.ntmps245
  go_wp2_with fail
  refine Ml (S:=(fun W=>True)) (by kernel_rfl) (by trivial) (fun hHeld=>?_)
  refine tk 0 10 ?_
  refine tk 1 11 ?_
  refine bD (i:=2) (d:=some 12) (v:=.string (bs a)) rfl rfl (by kernel_rfl) (by kernel_rfl) (by kernel_rfl) (fun _ _ _ h=>h) (Or.inl ⟨by rfl,?_⟩) (by assumption) ?_
  ·(intro w PQ;go_simp;rw[E1.out,if_pos (by omega)])
  try simp only[Act.put,List.setIfInBounds_toArray,List.set_cons_zero,List.set_cons_succ]
  refine tk 5 15 ?_
  refine tk 6 16 ?_
  refine bD (i:=7) (d:=some 17) (v:=.string (bs b)) rfl rfl (by kernel_rfl) (by kernel_rfl) (by kernel_rfl) (fun _ _ _ h=>h) (Or.inl ⟨by rfl,?_⟩) (by assumption) ?_
  ·(intro w PQ;go_simp;rw[E2.out,if_pos (by omega)])
  try simp only[Act.put,List.setIfInBounds_toArray,List.set_cons_zero,List.set_cons_succ]
  refine rd 3 (fun K hK=>?_)
  go_simp
  ((with_reducible refine(HS.out _).mono ?_));rintro e w2 ⟨rfl,rfl⟩
  go_wp2_with fail
  refine hK.out _ _ ?_ (fun hHeld=>nm ?_)
  .trivial
  clear hK K
  refine rd 4 (fun K hK=>?_)
  go_simp
  ((with_reducible refine(HU.out _).mono ?_));rintro e w3 ⟨rfl,k3⟩
  go_wp2_with fail
  refine hK.out _ _ ?_ (fun hHeld=>nm ?_)
  .trivial
  clear hK K
  refine bD (i:=8) (d:=some 18) (v:=.bool true) rfl rfl (by kernel_rfl) (by kernel_rfl) (by kernel_rfl) (fun _ _ _ h=>h) (Or.inl ⟨by rfl,?_⟩) (by assumption) ?_
  ·(intro w PQ;go_simp;exact HQ.out)
  try simp only[Act.put,List.setIfInBounds_toArray,List.set_cons_zero,List.set_cons_succ]
  refine MM (by kernel_rfl) ?_ _
  go_wp2_with fail
  go_ret2
  exact⟨Or.inr ⟨HR.out,110,by decide,rfl⟩,((aa.refl _ _).drew.trans k3)⟩
theorem Lq (l:List UInt8) (w:World) (hl:l.length<=1000000):
  Calls Tryz.prog 245 #[.string (bs l)] w (km l w):=by
 by_cases h4:4<=l.length
 .have h:=Km (l.take (l.length-4)) (l.drop (l.length-4)) w (by rw[Mq];omega) (by rw[Mp];omega)
  rwa[List.take_append_drop]at h
 .have hz:(bs l).size=l.length:=Nj l
  have h1:(l.length:Int)<4:=by omega
  have HR:Hid (fh l=none):=Mb (by unfold fh;rw[if_neg (fun h=>h4 h.1)])
  generalize bs l=L at*
  unfold km
  go_enter Tryz.func245,Tryz.ntmps245
  go_wp2_with fail
  go_ret2
  exact⟨Or.inr ⟨HR.out,7,by decide,rfl⟩,aa.refl _ _⟩
theorem vz {xs:List Value} (h:w.ownsRow base e size v n xs) (hg:v.ownBlock=some g):∃cur,w.heap[g]? =some (.cells cur e (0,0)):=by
 rcases h.2 with⟨rfl,_⟩|⟨g',cap,cur,rfl,_,hh,_⟩
 .simp[Value.ownBlock]at hg
 .have e1:g'=g:=by simpa[Value.ownBlock]using hg
  subst e1
  exact⟨cur,hh⟩
def jG (u v:Value):Prop:=∀g,u.ownBlock=some g->v.ownBlock≠some g
theorem jG.symm (h:jG u v):jG v u:=fun g h1 h2=>h g h2 h1
theorem Bj {base':Nat} {e':TypeId} {s s' n':Nat} {xs ys:List Value} (h:w.ownsRow base e s u n xs) (h':w.ownsRow base' e' s' v n' ys) (Ot:e≠e'):jG u v:=fun g h1 h2=>by
 obtain⟨c1,q1⟩:=vz h h1
 obtain⟨c2,q2⟩:=vz h' h2
 rw[q1]at q2
 injection q2 with q2
 injection q2 with _ ht
 exact Ot ht
theorem pZ {xs:List Value} (h:w.ownsRow base e size v n xs) (hg:w.grownBy wa u.ownBlock) (ha:jG v u):wa.ownsRow base e size v n xs:=by
 have Ns:=Mn h
 obtain⟨h1,h2⟩:=h
 refine⟨h1,?_⟩
 rcases h2 with h2|⟨g,cap,cur,rfl,hb,hh,r⟩
 .exact Or.inl h2
 .exact Or.inr ⟨g,cap,cur,rfl,hb,(hg.block g (Ns g rfl).2 (fun he=>ha g rfl he.symm)).trans hh,r⟩
def dD (base:Nat) (w:World) (x:Nf×Value):Prop:=w.ownsRow base 128 2 x.2 x.1.runs.length (No x.1.runs)/\x.1.fits/\∀r∈x.1.runs,aU r
theorem dD.ok (h:dD base w x):bd w x:=⟨(af.bo h.1).jK,h.2.1,h.2.2⟩
theorem dD.kept0 (h:dD base w x) (k:aa [] w w'):dD base w' x:=⟨au h.1 k (by simp),h.2⟩
structure gK (base:Nat) (w:World) (va vb vc:Value) (xs ys zs:List (Nf×Value)):Prop where
 ra:w.ownsRow base 113 4 va xs.length (Nx xs)
 rb:w.ownsRow base 113 4 vb ys.length (Nx ys)
 rc:w.ownsRow base 113 4 vc zs.length (Nx zs)
 ia:∀x∈xs,dD base w x
 ib:∀x∈ys,dD base w x
 ic:∀x∈zs,dD base w x
 ab:jG va vb
 ac:jG va vc
 bc:jG vb vc
theorem gK.eB (h:gK base w va vb vc xs ys zs):gK base w vb vc va ys zs xs:=
 ⟨h.rb,h.rc,h.ra,h.ib,h.ic,h.ia,h.bc,h.ab.symm,h.ac.symm⟩
theorem gK.kept0 (h:gK base w va vb vc xs ys zs) (k:aa [] w w'):gK base w' va vb vc xs ys zs:=
 ⟨au h.ra k (by simp),au h.rb k (by simp),au h.rc k (by simp),fun x hx=>(h.ia x hx).kept0 k,fun x hx=>(h.ib x hx).kept0 k,fun x hx=>(h.ic x hx).kept0 k,h.ab,h.ac,h.bc⟩
theorem gK.set (h:gK base w va vb vc xs ys zs) {cs:Array Value} (o:ae w g cs 52) (j:Nat) (u:Value):gK base (w.setCell ⟨g,j,none⟩ u) va vb vc xs ys zs:=
 have Zf:∀x,dD base w x->dD base (w.setCell ⟨g,j,none⟩ u) x:=fun x hx=>⟨dR hx.1 (aB hx.1 o (by decide)) u,hx.2⟩
 ⟨dR h.ra (aB h.ra o (by decide)) u,dR h.rb (aB h.rb o (by decide)) u,dR h.rc (aB h.rc o (by decide)) u,fun x hx=>Zf x (h.ia x hx),fun x hx=>Zf x (h.ib x hx),fun x hx=>Zf x (h.ic x hx),h.ab,h.ac,h.bc⟩
theorem gK.add {va':Value} (h:gK base w va vb vc xs ys zs) (hx:dD base w x) (hg:w.grownBy wa va.ownBlock)
  (hr:wa.ownsRow base 113 4 va' (xs.length+1) (Nx xs++PZ x.1 x.2)) (hb:va'.ownBlock=va.ownBlock\/va'.ownBlock=some w.heap.size):gK base wa va' vb vc (xs++[x]) ys zs:=by
 have Zf:∀y,dD base w y->dD base wa y:=fun y hy=>⟨pZ hy.1 hg (Bj hy.1 h.ra (by decide)),hy.2⟩
 have Pq:∀{v:Value} {n:Nat} {ws:List Value},w.ownsRow base 113 4 v n ws->jG va v->jG va' v:=fun hv ha g h1 h2=>by
  rcases hb with hb|hb
  .exact ha g (by rw[<-hb];exact h1) h2
  .rw[hb]at h1
   injection h1 with h1
   have:=(Mn hv g h2).2
   omega
 refine⟨?_,pZ h.rb hg h.ab.symm,pZ h.rc hg h.ac.symm,?_,fun y hy=>Zf y (h.ib y hy),fun y hy=>Zf y (h.ic y hy),Pq h.rb h.ab,Pq h.rc h.ac,h.bc⟩
 .rw[fK,Mc]
  exact hr
 .intro y hy
  rcases Mj.1 hy with hy|hy
  .exact Zf y (h.ia y hy)
  .have:y=x:=by simpa using hy
   subst this
   exact Zf _ hx
theorem gK.nil (base:Nat) (w:World):gK base w (.slice none 0 0) (.slice none 0 0) (.slice none 0 0) [] [] []:=
 have h:jG (.slice none 0 0) (.slice none 0 0):=fun g hg=>by simp[Value.ownBlock]at hg
 ⟨MG _ _ _ _,MG _ _ _ _,MG _ _ _ _,fun x hx=>(by cases hx),fun x hx=>(by cases hx),fun x hx=>(by cases hx),h,h,h⟩
def gp (w1 w:World) (bx:Nat) (nb nm:Int) (A B C:List Nf):Prop:=
 ∃va vb vc xs ys zs,ae w bx #[.int .u32 nb,.int .u32 nm,va,vb,vc] 52/\gK w1.heap.size w va vb vc xs ys zs/\xs.map (·.1)=A/\ys.map (·.1)=B/\zs.map (·.1)=C/\aa [bx] w1 w
end Go.Proofs.YtdkimcnlhmhpgaaGreat

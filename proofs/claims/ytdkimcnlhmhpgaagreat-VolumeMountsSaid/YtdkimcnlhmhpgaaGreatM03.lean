/- -/
import Derived.Test.YtdkimcnlhmhpgaaGreatShelf2
import Derived.Test.YtdkimcnlhmhpgaaGreatShelf
import Derived.Test.YtdkimcnlhmhpgaaGreatM02
import Derived.Laws.AppendOwnNone
set_option maxHeartbeats 32000000
set_option maxRecDepth 100000
namespace Go.Proofs.YtdkimcnlhmhpgaaGreat
section
open Go.Proofs.Tryz Go.RowKit
variable {w:World} {base size n:Nat} {e:TypeId} {v:Value} {xs:List Value}
theorem NO:type_of% @List.append_nil:=@List.append_nil
theorem NF:type_of% @List.mem_of_mem_drop:=@List.mem_of_mem_drop
theorem Nn:type_of% @List.getElem?_eq_some_iff:=@List.getElem?_eq_some_iff
theorem Nm:type_of% @List.mem_singleton:=@List.mem_singleton
theorem Nh:type_of% @List.take_of_length_le:=@List.take_of_length_le
theorem Nf:type_of% @World.ownsRow_nil:=@World.ownsRow_nil
theorem Na:type_of% @List.mem_append:=@List.mem_append
theorem MU:type_of% @List.take_length:=@List.take_length
theorem MT:type_of% @wpList_append_own_at:=@wpList_append_own_at
theorem ML:type_of% @World.ownsRow.lt:=@World.ownsRow.lt
theorem MJ:type_of% @List.getElem_mem:=@List.getElem_mem
theorem MH:type_of% @World.ownsRow.alloc:=@World.ownsRow.alloc
theorem jh (w:World) (row:Option Nat):w.grownBy w row:=⟨rfl,rfl,rfl,MG _,fun _ _ _=>rfl⟩
theorem oL {P:Program} {ops:Array Oper} {rest:List Oper} {o:Oper} {a:Act} {Q:Exit->Act->World->Prop} (hgd:o.guard=none) (s x:Operand) (t:TypeId)
  (ho:o.op=.call {callee:=.builtin .append,args:=#[s,x],argTypes:=#[t,t]})
  (base base2:Nat) (e:TypeId) (i:TypeInfo) (z:Value) (size bytes:Nat) (ht:P.underlying t=some (.slice e)) (hi:P.info? e=some i) (hz:i.zero=some z)
  (QW:i.size=size) (XN:i.bytes=bytes) (YF:z.cells.size=size) (PW:0<size)
  (v:Value) (n:Nat) (xs:List Value) (hs:a.eval s=v) (Ot:w.ownsRow base e size v n xs)
  (u:Value) (m:Nat) (news:List Value) (hx:a.eval x=u) (P4:w.ownsRow base2 e size u m news) (h1:∀u∈news,u.oneCell'=true)
  (h63:n+m<=maxLen) (Qs:(n+m)*bytes<=140737488355328) (Rk:base<=w.heap.size)
  (h:∀v' w',w'.ownsRow base e size v' (n+m) (xs++news)->w.grownBy w' v.ownBlock->(v'.ownBlock=v.ownBlock\/v'.ownBlock=some w.heap.size)->wpList P ops Q rest (a.put o.dst v') w'):
  wpList P ops Q (o::rest) a w:=by
 have acS:=P4
 obtain⟨hl,⟨rfl,rfl⟩|⟨g,cap,cur,rfl,hb,hg,SR,PT,Sk,htake⟩⟩:=P4
 .have hn:news=[]:=Nc (by rw[hl,Nat.zero_mul])
  refine wpList_append_own_none hgd s x t ho base e i size ht hi v n xs hs Ot hx ?_
  exact h v w (by rw[hn,NO,Nat.add_zero];exact Ot) (jh _ _) (Or.inl rfl)
 .refine MT w hgd s x t ho base e i z size bytes ht hi hz QW XN YF PW v n xs hs Ot g m cap news hx hl (fun j u hj=>World.ownsRow.cells acS (g:=g) rfl j u hj) h1 h63 Qs Rk ?_
  intro v' w' h2 h3 _ h5
  exact h v' w' h2 h3 h5
theorem dG {w w':World} {base:Nat} {e:TypeId} {size:Nat} {v:Value} {n:Nat} {xs:List Value} (h:w.ownsRow base e size v n xs)
  (hk:∀g cs,base<=g->w.heap[g]? =some (.cells cs e (0,0))->w'.heap[g]? =w.heap[g]?):w'.ownsRow base e size v n xs:=by
 have⟨h1,h2⟩:=h
 refine⟨h1,?_⟩
 rcases h2 with h2|⟨g,cap,cur,rfl,hg,hh,r⟩
 .exact Or.inl h2
 .exact Or.inr ⟨g,cap,cur,rfl,hg,(hk g cur hg hh).trans hh,r⟩
theorem cF {S:List Nat} {w w':World} {base:Nat} {e:TypeId} {size:Nat} {v:Value} {n:Nat} {xs:List Value} (h:w.ownsRow base e size v n xs) (k:NP S w w')
  (hS:∀x∈S,base<=x->∀cs,w.heap[x]? ≠some (.cells cs e (0,0))):w'.ownsRow base e size v n xs:=
 dG h (fun g cs hb hg=>k.block g (NK hg) (fun hx=>hS g hx hb cs hg))
theorem bI {r:Nat} {rs:Array Value} {t:TypeId} {w':World} (h:w.ownsRow base e size v n xs) (k:NP [r] w w') (o:ae w r rs t) (Pb:e≠t):w'.ownsRow base e size v n xs:=
 cF h k (fun x hx _ cs hc=>by
  have hx:x=r:=_h
  subst hx
  have o':w.heap[x]? =some (.cells rs t (0,0)):=o
  rw[o']at hc
  injection hc with hc
  injection hc with _ ht
  exact Pb ht.symm)
theorem bJ (w:World) (base:Nat) (e:TypeId) (size:Nat) (hb:base<=w.heap.size):(w.alloc (.cells #[] e)).ownsRow base e size (.slice (some w) 0 0) 0 []:=
 World.ownsRow_lit w #[] 0 hb (Nb _) _b
theorem aF {base':Nat} (h:w.ownsRow base e size v n xs) (hb:base'<=base):w.ownsRow base' e size v n xs:=by
 have⟨h1,h2⟩:=h
 refine⟨h1,?_⟩
 rcases h2 with h2|⟨g,cap,cur,rfl,hg,r⟩
 .exact Or.inl h2
 .exact Or.inr ⟨g,cap,cur,rfl,Nk hb hg,r⟩
theorem cU (h:w.ownsRow base e size v n xs) (hn:0<n):
  ∃g c,v=.slice (some ⟨g,0,none⟩) n c/\base<=g/\g<w.heap.size/\n<=c/\c<=maxLen/\∀j u,xs[j]? =some u->w.cell? ⟨g,j,none⟩=some u:=by
 have h':=h
 obtain⟨hl,⟨rfl,rfl⟩|⟨g,cap,cur,rfl,hb,hg,SR,PT,Sk,htake⟩⟩:=h
 .omega
 .refine⟨g,cap,rfl,hb,NK hg,SR,PT,fun j u hj=>?_⟩
  have:=World.ownsRow.cells h' (g:=g) rfl j u hj
  rwa[Ni,Nat.zero_add]at this
end
section
open Go.Proofs.Tryz Go.RowKit Go.Sort Go.Shelf
def jC (x:Int×Int):List Value:=[.int .i64 x.1,.int .i64 x.2]
theorem rP (l:List (Int×Int)):flatK jC 2 l.toArray=(NW l).toArray:=by
 apply Array.ext
 .rw[size_flatK,List.size_toArray,List.size_toArray,dm]
 .intro t h1 h2
  have ht:t<l.length*2:=_P
  have h:=get_flatK jC 2 l.toArray t (by simpa using ht)
  rw[getElem!_pos _ t h1]at h
  rw[h]
  have hi:t/2<l.length:=_a
  rw[getElem!_pos l.toArray (t/2) _D]
  have⟨g1,g2⟩:=kI l (t/2) hi
  rcases Nat.mod_two_eq_zero_or_one t with hm|hm
  .have e:t/2*2=t:=_a
   rw[e]at g1
   rw[hm]
   have:=(Nn.1 g1).2
   simp only[List.getElem_toArray]
   rw[this];rfl
  .have e:t/2*2+1=t:=_a
   rw[e]at g2
   rw[hm]
   have:=(Nn.1 g2).2
   simp only[List.getElem_toArray]
   rw[this];rfl
theorem qp (x y:Int×Int):ltOf (fun x y:Int×Int=>Sl x.1 y.1) x y=decide (x.1<y.1):=by
 unfold ltOf Sl
 by_cases h1:x.1<y.1
 .simp[h1]
 .by_cases h2:y.1<x.1<;>simp[h1,h2]
theorem Eg:SWO (ltOf fun x y:Int×Int=>Sl x.1 y.1):={
 irrefl:=fun x=>by rw[qp];simp
 trans:=fun x y z h1 h2=>by rw[qp]at*;simp at*;omega
 ntrans:=fun x y z h1 h2=>by rw[qp]at*;simp at*;omega}
theorem M49 {A:Prop}(h:A:=by
 go_wp2_with (go_at_call 186;refine(UQ _).mono ?_;rintro e w' ⟨rfl,rfl⟩)
 go_ret
 exact⟨rfl,0,_,by rw[alloc_eq_grow,alloc_eq_grow,grow_grow];rfl⟩):A:=h
theorem GY (x y:Int×Int) (W:World):am! 185 #[.agg #[x.1,x.2],.agg #[y.1,y.2]] W fun e w'=>e=(Sl x.1 y.1:Int)/\∃q os',w'=grow (W.drewN q) os':=by
 have UQ:=fun W'=>Ea x.1 y.1 W'
 generalize Sl x.1 y.1=r at UQ ⊢
 go_enter func185,ntmps185
 exact M49
theorem GW (x y:Int×Int) (W:World):am! 238 #[.agg #[x.1,x.2],.agg #[y.1,y.2]] W fun e w'=>e=(Sl x.1 y.1:Int)/\∃q os',w'=grow (W.drewN q) os':=by
 have UQ:=fun W'=>Ea x.1 y.1 W'
 generalize Sl x.1 y.1=r at UQ ⊢
 go_enter func238,ntmps238
 exact M49
theorem El {w:World} {g cap base:Nat} {l:List (Int×Int)} (h:w.ownsRow base 128 2 (g,l.length,cap) l.length (NW l)) (m:Nat) (d':Array (Int×Int)) (os:Array Obj) (hd:d'.size=l.length):
  (sortWorldK jC 2 w g 0 m d' os).ownsRow base 128 2 (g,l.length,cap) l.length (NW d'.toList)/\NP [g] w (sortWorldK jC 2 w g 0 m d' os):=by
 obtain⟨hl,⟨e,_⟩|⟨g',cap',cur,e,hb,hg,SR,PT,Sk,htake⟩⟩:=h
 .simp at e
 .injection e with e e2 e3
  injection e with e
  injection e with e _ _
  subst e e3
  have NV:=NK hg
  have abf:(sortWorldK jC 2 w g 0 m d' os).heap[g]? =some (.cells (putCells id 0 (flatK jC 2 d') cur) 128 (0,0)):=by
   unfold sortWorldK
   rw[heap_grow_old _ _ (by show g<(putRowK jC 2 (Go.Sort.ahead w m) g 0 d').heap.size;simp[putRowK,putRow,mapBlock,Go.Sort.ahead];exact NV)]
   simp[putRowK,putRow,mapBlock,Go.Sort.ahead,Array.getElem?_modify,hg,onCells]
  have PW:(putCells id 0 (flatK jC 2 d') cur).size=cur.size:=by simp[putCells]
  refine⟨⟨by rw[dm,<-hd];simp,Or.inr ⟨g,cap,_,rfl,hb,abf,SR,PT,by rw[PW,Sk],?_⟩⟩,⟨rfl,rfl,rfl,?_,fun k hk hS=>?_⟩⟩
  .have hf:=rP d'.toList
   rw[Array.toArray_toList]at hf
   rw[hf]
   apply List.ext_getElem?
   intro i
   by_cases hi:i<l.length*2
   .rw[List.getElem?_take_of_lt hi]
    have hic:i<cur.size:=by rw[Sk];have:=Nat.mul_le_mul_right 2 SR;omega
    have hir:i<(NW d'.toList).length:=by rw[dm];simp[hd];exact hi
    rw[Array.getElem?_toList,MZ hir]
    unfold putCells
    rw[Array.getElem?_mapIdx,Array.getElem?_eq_getElem hic]
    simp only[Option.map_some,List.size_toArray,Nat.zero_add,Nat.sub_zero,id]
    rw[if_pos ⟨Nb _,hir⟩,getElem!_pos _ i (by simpa using hir)]
    simp
   .rw[List.getElem?_eq_none _w,List.getElem?_eq_none (by rw[dm];simp[hd];omega)]
  .unfold sortWorldK
   simp[putRowK,putRow,mapBlock,Go.Sort.ahead]
  .have Pb:g≠k:=by simpa using fun e=>hS (by simp[e])
   unfold sortWorldK
   rw[heap_grow_old _ _ (by show k<(putRowK jC 2 (Go.Sort.ahead w m) g 0 d').heap.size;simp[putRowK,putRow,mapBlock,Go.Sort.ahead];exact hk)]
   simp[putRowK,putRow,mapBlock,Go.Sort.ahead,Array.getElem?_modify,Pb]
def jl (l:List (Int×Int)):Prop:=List.Pairwise (fun a b=>a.1<=b.1) l
theorem Ci {d:Array (Int×Int)} (h:SortedIn (ltOf fun x y:Int×Int=>Sl x.1 y.1) 0 d.size d):jl d.toList:=by
 unfold jl
 rw[List.pairwise_iff_getElem]
 intro i j hi hj VM
 have hi':i<d.size:=_D
 have TT:j<d.size:=A!
 have:=h i j (Nb _) VM TT
 rw[qp,getElem!_pos d i hi',getElem!_pos d j TT]at this
 simp at this
 simpa using this
def hZ (base:Nat) (v:Value) (l:List (Int×Int)) (w:World) (e:Ending) (w':World):Prop:=
 e=.returned (.tuple #[])/\∃l':List (Int×Int),l'.Perm l/\jl l'/\w'.ownsRow base 128 2 v l.length (NW l')/\∀S,(∀g,v.ownBlock=some g->g∈S)->NP S w w'
theorem Ag (c:Nat) (p:Option Addr) (f:Nat) (w:World):am! 271 #[.slice p 0 c,(0:Int),(0:Int),.func (.func f) #[] #[]] w fun e w'=>e=.returned (.tuple #[])/\w=w':=by
 go_enter func271,ntmps271
 go_wp2_with fail
 refine wp_loop_rounds 1 ?_
 rw[rounds_succ]
 go_wp2_with fail
 go_end0
 exact⟨rfl,rfl⟩
theorem BS (c:Nat) (p:Option Addr) (lim:Int) (f:Nat) (w:World):am! 239 #[.slice p 0 c,(0:Int),(0:Int),lim,.func (.func f) #[] #[]] w fun e w'=>e=.returned (.tuple #[])/\w=w':=by
 go_enter func239,ntmps239
 go_wp2_with fail
 refine wp_loop_rounds 1 ?_
 rw[rounds_succ]
 go_wp2_with (go_at_call 271;refine(Ag _ _ _ _).mono ?_;rintro e w' ⟨rfl,rfl⟩)
 (try simp only[Exit.inBlock,Exit.then]);refine MN (results_none rfl _ _ _) rfl ?_
 exact⟨rfl,rfl⟩
theorem Ah (f base:Nat) (v:Value) (l:List (Int×Int)) (w:World) (h:w.ownsRow base 128 2 v l.length (NW l)) (hl:l.length<=1000000)
  (eg:∀args w,(callFunc f args).run prog w=.ok (.enter f args) w)
  (hf:∀(x y:Int×Int) (W:World),am! f #[.agg #[x.1,x.2],.agg #[y.1,y.2]] W fun e w'=>e=(Sl x.1 y.1:Int)/\∃q os',w'=grow (W.drewN q) os'):
  am! 184 #[v,.func (.func f) #[] #[]] w (hZ base v l w):=by
 by_cases h0:l.length=0
 .have WU:l=[]:=Nc h0
  subst WU
  have H:=tK h
  obtain⟨p,c,rfl⟩:=ah h
  clear h hf eg hl
  have hb:=fun W=>bits_Len 0 W _a _a
  go_enter func184,ntmps184
  go_wp2_with (first
   |(go_at_call 240;refine(hb _).mono ?_;rintro e w' ⟨rfl,rfl⟩)
   |(go_at_call 239;refine(BS _ _ _ _ _).mono ?_;rintro e w' ⟨rfl,rfl⟩))
  go_end0
  exact⟨rfl,[],List.Perm.refl _,List.Pairwise.nil,H.out,fun S _=>NP.refl _ _⟩
 .obtain⟨g,c,rfl,hb,NV,SR,PT,Ou⟩:=cU h _a
  have hd:l.toArray.size=l.length:=_b
  have hH:HoldsK jC 2 w g 0 l.toArray:=by
   intro j hj
   have ZO:j<(NW l).length:=by rw[rP]at hj;simpa using hj
   rw[rP,Nat.zero_add]
   refine⟨?_,World.ownsRow.frozenAt h j⟩
   rw[Ou j _ (MZ ZO),getElem!_pos _ j (by simpa using ZO)]
   simp
  have Qg:CmpLays prog f #[] jC 2 (fun x y=>Sl x.1 y.1) g 0 l.toArray.size w:=fun _ _ _ _ x y=>hf x y _
  have UQ:=AnyQ.slices_SortFunc sortRun 2 isAgg128 sizeOf128 jC (fun _=>rfl) (fun x v hv=>by simp[jC]at hv;rcases hv with rfl|rfl<;>rfl) (fun x y=>Sl x.1 y.1) Eg f #[] g 0 c l.toArray w eg Qg hH NV (by rw[hd];omega)
  rw[hd]at UQ
  refine UQ.mono fun e w' ⟨he,d',n,os,hp,hs,hw⟩=>?_
  have⟨hp1,_,hp3⟩:=hp
  have hds:d'.size=l.length:=by rw[hp1,hd]
  have⟨r1,r2⟩:=El h n d' os hds
  rw[<-hds]at hs
  have Qi:d'.toList.Perm l:=by
   have e1:(d'.extract 0 l.length).toList=d'.toList:=by rw[<-hds];simp
   have e2:(l.toArray.extract 0 l.length).toList=l:=_b
   rwa[e1,e2]at hp3
  subst hw
  exact⟨he,d'.toList,Qi,Ci hs,r1,fun S hS=>r2.mono (fun x hx=>by
   have hx:x=g:=_h
   subst hx;exact hS x (by simp[Value.ownBlock]))⟩
theorem I0 (base:Nat) (v:Value) (l:List (Int×Int)) (w:World) (h:w.ownsRow base 128 2 v l.length (NW l)) (hl:l.length<=1000000):
  am! 184 #[v,.func (.func 185) #[] #[]] w (hZ base v l w):=
 Ah 185 base v l w h hl (enters_of func185 _c rfl) GY
theorem IZ (base:Nat) (v:Value) (l:List (Int×Int)) (w:World) (h:w.ownsRow base 128 2 v l.length (NW l)) (hl:l.length<=1000000):
  am! 184 #[v,.func (.func 238) #[] #[]] w (hZ base v l w):=
 Ah 238 base v l w h hl (enters_of func238 _c rfl) GW
end
open Go.Proofs.Tryz Go.RowKit
variable {l i x y out:List (Int×Int)}
def dZ (l:List (Int×Int)):List (Int×Int):=l.filterMap fun a=>if(bE a).2=true then some (bE a).1 else none
theorem Bw (l:List (Int×Int)) (a:Int×Int):dZ (l++[a])=dZ l++(if(bE a).2=true then[(bE a).1]else[]):=by
 unfold dZ
 rw[List.filterMap_append]
 congr 1
 by_cases h:(bE a).2=true
 .simp[h]
 .simp[h]
theorem vx (l:List (Int×Int)):(dZ l).length<=l.length:=List.length_filterMap_le _ _
theorem IB {a:Int×Int} (h:(bE a).2=true):0<=(bE a).1.1/\1<=(bE a).1.2/\(bE a).1.1+(bE a).1.2<=8192:=by
 unfold bE at*
 by_cases h1:a.2<1\/8192<=a.1
 .rw[if_pos h1]at h;cases h
 .rw[if_neg h1]at h ⊢
  by_cases h2:a.1<0
  .rw[if_pos h2]at h ⊢
   have h:=of_decide_eq_true h
   simp only
   omega
  .rw[if_neg h2]at h ⊢
   have h:=of_decide_eq_true h
   simp only
   omega
theorem zU (a:Int×Int) (k:Nat) (hk:k<8192):((bE a).2=true/\(bE a).1.1<=k/\(k:Int)<(bE a).1.1+(bE a).1.2)↔(a.1<=k/\(k:Int)<a.1+a.2):=by
 unfold bE
 by_cases h1:a.2<1\/8192<=a.1
 .rw[if_pos h1];simp;omega
 .rw[if_neg h1]
  by_cases h2:a.1<0
  .rw[if_pos h2];simp;omega
  .rw[if_neg h2];simp;omega
theorem vw {r:Int×Int} (h:r∈dZ l):0<=r.1/\1<=r.2/\r.1+r.2<=8192:=by
 unfold dZ at h
 rw[List.mem_filterMap]at h
 have⟨a,_,ha⟩:=h
 by_cases hc:(bE a).2=true
 .rw[if_pos hc]at ha
  injection ha with ha
  subst ha
  exact IB hc
 .rw[if_neg hc]at ha;cases ha
theorem Gd (l:List (Int×Int)) (k:Nat) (hk:k<8192):bZ (dZ l) k↔OE l k=true:=by
 rw[dr]
 unfold bZ dZ
 constructor
 .rintro⟨r,hr,h1,h2⟩
  rw[List.mem_filterMap]at hr
  have⟨a,ha,hx⟩:=hr
  by_cases hc:(bE a).2=true
  .rw[if_pos hc]at hx
   injection hx with hx
   subst hx
   exact⟨a,ha,(zU a k hk).1 ⟨hc,h1,h2⟩⟩
  .rw[if_neg hc]at hx;cases hx
 .rintro⟨a,ha,h⟩
  have⟨h1,h2,h3⟩:=(zU a k hk).2 h
  exact⟨(bE a).1,List.mem_filterMap.2 ⟨a,ha,by rw[if_pos h1]⟩,h2,h3⟩
def nG (o:List (Int×Int)) (r:Int×Int):List (Int×Int):=
 match o.getLast? with
 |some q=>if r.1<=q.1+q.2 then o.dropLast++[(q.1,max q.2 (r.1+r.2-q.1))]else o++[r]
 |none=>[r]
theorem pD (r:Int×Int):nG [] r=[r]:=rfl
theorem rE {q r:Int×Int} (h:r.1<=q.1+q.2):nG (i++[q]) r=i++[(q.1,max q.2 (r.1+r.2-q.1))]:=by
 unfold nG
 rw[List.getLast?_append,List.dropLast_concat]
 show(if r.1<=q.1+q.2 then _ else _)=_
 rw[if_pos h]
 rfl
theorem rF {q r:Int×Int} (h:¬r.1<=q.1+q.2):nG (i++[q]) r=i++[q]++[r]:=by
 unfold nG
 rw[List.getLast?_append]
 show(if r.1<=q.1+q.2 then _ else _)=_
 rw[if_neg h]
def Pw (s:List (Int×Int)) (k:Nat):List (Int×Int):=(s.take k).foldl nG []
theorem lE (s:List (Int×Int)) (k:Nat) (h:k<s.length):Pw s (k+1)=nG (Pw s k) s[k]:=by
 unfold Pw;rw[MI h,List.foldl_append];rfl
structure IQ (s:List (Int×Int)) (k:Nat):Prop where
 pl:Pl 0 (Pw s k)
 is:∀j:Int,bZ (Pw s k) j↔bZ (s.take k) j
 low:∀x∈Pw s k,∃y∈s.take k,x.1=y.1
theorem xu (s:List (Int×Int)) (hs:jl s) (hr:∀r∈s,0<=r.1/\1<=r.2/\r.1+r.2<=8192) (k:Nat) (hk:k<=s.length):IQ s k:=by
 induction k with
 |zero=>exact⟨trivial,fun j=>Iff.rfl,fun x hx=>by cases hx⟩
 |succ k ih=>
  have⟨h1,h2,h3⟩:=ih _a
  have NV:k<s.length:=_a
  have⟨r1,r2,r3⟩:=hr s[k] (MJ _)
  have PF:s.take (k+1)=s.take k++[s[k]]:=MI NV
  have acH:∀x∈Pw s k,x.1<=s[k].1:=fun x hx=>by
   have⟨y,hy,e⟩:=h3 x hx
   rw[e]
   rw[List.mem_take_iff_getElem]at hy
   obtain⟨i,hi,rfl⟩:=hy
   exact(List.pairwise_iff_getElem.1 hs) i k _a NV _a
  have VZ:=lE s k NV
  rcases List.eq_nil_or_concat (Pw s k)with e|⟨i,q,e⟩
  .rw[e,pD]at VZ
   refine⟨by rw[VZ];exact⟨r1,r2,r3,trivial⟩,fun j=>?_,fun x hx=>?_⟩
   .rw[VZ,PF,cA,<-h2 j,e]
    exact⟨fun h=>Or.inr h,fun h=>h.elim (fun h=>absurd h (dU j)) id⟩
   .rw[VZ]at hx
    have hx:x=s[k]:=_h
    exact⟨s[k],by rw[PF];exact List.mem_append_right _ (Nm.2 rfl),by rw[hx]⟩
  .rw[List.concat_eq_append]at e
   rw[e]at h1 acH
   have⟨q1,q2,q3,q4,q5⟩:=h1.init
   have hq:=acH q _b
   by_cases hc:s[k].1<=q.1+q.2
   .rw[e,rE hc]at VZ
    refine⟨?_,fun j=>?_,fun x hx=>?_⟩
    .rw[VZ]
     exact q1.snoc q2 (by show 1<=max q.2 _;omega) (by show q.1+max q.2 _<=8192;omega) q5
    .rw[VZ,PF,cA,cA,<-h2 j,e,cA,eW,eW,eW,or_assoc]
     refine or_congr Iff.rfl ?_
     show(q.1<=j/\j<q.1+max q.2 (s[k].1+s[k].2-q.1))↔_
     omega
    .rw[VZ]at hx
     rcases Na.1 hx with hx|hx
     .have⟨y,hy,e2⟩:=h3 x (by rw[e];exact List.mem_append_left _ hx)
      exact⟨y,by rw[PF];exact List.mem_append_left _ hy,e2⟩
     .have⟨y,hy,e2⟩:=h3 q (by rw[e];simp)
      have hx:x=(q.1,max q.2 (s[k].1+s[k].2-q.1)):=_h
      exact⟨y,by rw[PF];exact List.mem_append_left _ hy,by rw[hx];exact e2⟩
   .rw[e,rF hc]at VZ
    refine⟨?_,fun j=>?_,fun x hx=>?_⟩
    .rw[VZ]
     refine h1.snoc r1 r2 r3 (fun x hx=>?_)
     rcases Na.1 hx with hx|hx
     .have:=q5 x hx;omega
     .have hx:x=q:=_h
      subst hx;omega
    .have h2j:=h2 j
     rw[e]at h2j
     rw[VZ,PF,cA,cA (a:=s.take k),<-h2j]
    .rw[VZ]at hx
     rcases Na.1 hx with hx|hx
     .have⟨y,hy,e2⟩:=h3 x (by rw[e];exact hx)
      exact⟨y,by rw[PF];exact List.mem_append_left _ hy,e2⟩
     .have hx:x=s[k]:=_h
      exact⟨s[k],by rw[PF];exact List.mem_append_right _ (Nm.2 rfl),by rw[hx]⟩
theorem yC {s:List (Int×Int)} (hp:s.Perm (dZ l)) (hs:jl s):Pw s s.length=OO l:=by
 have hr:∀r∈s,0<=r.1/\1<=r.2/\r.1+r.2<=8192:=fun r h=>vw (hp.mem_iff.1 h)
 have h:=xu s hs hr s.length (MG _)
 refine lL h.pl (fun m hm=>?_)
 rw[h.is,MU,<-Gd l m hm]
 unfold bZ
 exact⟨fun⟨r,h1,h2⟩=>⟨r,hp.mem_iff.1 h1,h2⟩,fun⟨r,h1,h2⟩=>⟨r,hp.mem_iff.2 h1,h2⟩⟩
theorem yD (s:List (Int×Int)) (k:Nat):(Pw s k).length<=k:=by
 induction k with
 |zero=>exact MG _
 |succ k ih=>
  by_cases h:k<s.length
  .rw[lE s k h]
   rcases List.eq_nil_or_concat (Pw s k)with e|⟨i,q,e⟩
   .rw[e,pD];simp
   .rw[List.concat_eq_append]at e
    rw[e]at ih ⊢
    by_cases hc:s[k].1<=q.1+q.2
    .rw[rE hc];simp at ih ⊢;omega
    .rw[rF hc];simp at ih ⊢;omega
  .have e:Pw s (k+1)=Pw s k:=by unfold Pw;rw[Nh _a,Nh _a]
   rw[e];omega
theorem iE (I:List (Int×Int)) (a n n':Int):(NW (I++[(a,n)])).set (I.length*2+1) n'=NW (I++[(a,n')]):=by
 rw[bP,bP,List.set_append_right _ _ (by rw[dm];omega),dm]
 have e:I.length*2+1-I.length*2=1:=_a
 rw[e]
 rfl
theorem mI (I:List (Int×Int)) (q:Int×Int):(NW (I++[q]))[I.length*2]? =q.1/\(NW (I++[q]))[I.length*2+1]? =q.2:=by
 have h:=kI (I++[q]) I.length _b
 simpa using h
theorem bK {w:World} {base:Nat} {e:TypeId} {size:Nat} {v:Value} {n:Nat} {xs:List Value} (h:w.ownsRow base e size v n xs) (k:Nat):(w.drewN k).ownsRow base e size v n xs:=h
def bh (p:List (Int×Int)) (w:World) (e:Ending) (w':World):Prop:=
 ∃v,e=.returned v/\w'.ownsRow w 128 2 v p.length (NW p)/\NP [] w w'
theorem bh.runs {p:List (Int×Int)} {w w':World} {e:Ending} (h:bh p w e w'):∃v,e=.returned v/\af w' v p w w'.heap.size/\NP [] w w':=by
 have⟨v,h1,h2,h3⟩:=h;exact⟨v,h1,af.bB h2,h3⟩
theorem adp {A:Prop}(h:A:=by
 have:=Ns (wr.alloc (.cells #[r.1,r.2] 128)) (.cells #[r.1,r.2] 128)
 rw[Nd]at this
 exact this):A:=h
theorem oK (v:Value) (l:List (Int×Int)) (lo hi:Nat) (w:World) (h:af w v l lo hi) (hl:l.length<=1000000) (Pj:∀a∈l,aQ a):
  am! 112 #[v] w (bh (OO l) w):=by
 have⟨i0,q0,q1,q2,q3⟩:=eV
 obtain⟨p,c,rfl⟩:=h.shape
 have⟨H,VI⟩:=_f h Pj
 have Tg:(l.length:Int)<=1000000:=_a
 unfold bh
 clear h Pj
 go_enter func112,ntmps112
 go_upto_block 0 with fail
 go_cut [3] (fun v3 wx=>wx.ownsRow w 128 2 v3 (dZ l).length (NW (dZ l))/\NP [] w wx)
 case first=>
  go_wp2_with fail
  go_loopw [3,14] (fun v3 i wr=>∃k:Nat,k<=l.length/\i=(k:Int)/\wr.ownsRow w 128 2 v3 (dZ (l.take k)).length (NW (dZ (l.take k)))/\NP [] w wr) (fun _ i _=>l.length-(intOf i).toNat)
  case atStart=>exact⟨0,_a,rfl,Nf _ _ _ _,NP.refl _ _⟩
  case round=>
   obtain⟨k,hk,rfl,NU,hK⟩:=hrel
   by_cases NV:k<l.length
   .obtain⟨b,off,rfl,c0,c1,hb,hlc,PT⟩:=(H.out.kept0 hK).at_ k NV
    have Yz:=VI.out l[k] (MJ NV)
    have hsn:dZ (l.take (k+1))=dZ (l.take k)++(if(bE l[k]).2=true then[(bE l[k]).1]else[]):=by rw[MI NV,Bw]
    have Qg:(dZ (l.take k)).length<=1000000:=by
     have:=vx (l.take k)
     have:=List.length_take_le k l
     omega
    have hx:=fun W=>Kq l[k] W Yz
    have⟨HX,HSN,Of⟩:=gg! hx hsn NV
    have i1:(k:Int)<l.length:=_a
    have r3:(dZ (l.take k)).length+1<=maxLen:=_m
    have r4:((dZ (l.take k)).length+1)*16<=140737488355328:=_a
    unfold sa at HX
    clear hx hsn Yz
    generalize hCL:dZ (l.take k)=CL at*
    have S9:=tK hCL
    clear hCL
    generalize hcc:bE l[k]=cc at*
    have HCC:=tK hcc
    clear hcc
    obtain⟨⟨cx,cn⟩,ok⟩:=cc
    simp only at HX HSN
    cases ok with
    |false=>
     go_wp2_with fail
     refine(HX.out _).mono ?_;rintro e w2 ⟨rfl,k2⟩
     have K2:NP [] w w2:=(hK.alloc _).trans k2
     have To:=ax (MH NU _) k2 (fun x hx=>by cases hx)
     go_wp2_with fail
     go_roundw
     case rel=>exact⟨k+1,Of.out,_j,by rw[HSN.out];simpa using MH To _,K2.alloc _⟩
     case measure=>(have hh:=Of.out;simp[intOf];omega)
    |true=>
     obtain⟨p3,c3,rfl⟩:=ah NU
     go_wp2_with fail
     refine(HX.out _).mono ?_;rintro e w2 ⟨rfl,k2⟩
     have K2:NP [] w w2:=(hK.alloc _).trans k2
     have To:=ax (MH NU (.cells #[.int .i64 l[k].1,.int .i64 l[k].2] 128)) k2 (fun x hx=>by cases hx)
     have QG:=K2.size
     clear NU k2 c0 c1
     go_wp2_with (at_builtin;go_must (refine MT _ rfl (.tmp 24) (.tmp 26) 56 rfl w 128 i0 (.agg #[(0:Int),(0:Int)]) 2 16 underlying56 q0 q1 q2 q3 rfl _d _ _ _ rfl (MH (MH To _) _) (aa (w2+1) 0) 1 1 [.int .i64 cx,.int .i64 cn] rfl rfl ?_ ?_ r3 r4 ?_ ?_))
     .have RG:((w2.alloc (.cells #[cx,cn] 128)).alloc (.cells #[cx,cn] 128)).heap[w2.heap.size+1]? =some (.cells #[cx,cn] 128 (0,0)):=by
       have:=Ns (w2.alloc (.cells #[cx,cn] 128)) (.cells #[cx,cn] 128)
       rw[Nd]at this
       exact this
      exact World.news_of_block RG
     .intro u hu;simp at hu;rcases hu with rfl|rfl<;>rfl
     .simp;omega
     intro v6 w6 o6 Po _ _
     have k6:NP [] w w6:=((K2.alloc _).alloc _).grown Po (fun g hg=>Or.inr (ML To g hg).1)
     have Vn:=tK o6
     clear Po To o6
     go_wp2_with fail
     go_roundw
     case rel=>exact⟨k+1,Of.out,_j,by rw[HSN.out];simpa[bP]using Vn.out,k6⟩
     case measure=>(have hh:=Of.out;simp[intOf];omega)
   .obtain rfl:k=l.length:=_a
    rw[MU]at NU
    go_wp2_with fail
    go_meet
    exact⟨NU,hK⟩
 case rest=>
  have⟨NU,hK⟩:=hcut
  have Qg:=vx l
  have R7:=I0 w _ (dZ l) wc NU _a
  unfold hZ at R7
  obtain⟨N,hN⟩:∃N,N=(dZ l).length:=⟨_,rfl⟩
  rw[<-hN]at NU R7 Qg
  have HN:=tK hN
  clear hN
  have VH:=tK R7
  obtain⟨p3,c3,rfl⟩:=ah NU
  clear R7 NU
  go_wp2_with fail
  refine VH.out.mono ?_;rintro e w3 ⟨rfl,s,Qi,hris,Tb,k3⟩
  have K3:NP [] w w3:=by
   rcases Tb.2 with⟨e1,_⟩|⟨g,cap,cur,e1,hb,_⟩
   .exact hK.call (k3 [] (fun g hg=>by rw[e1]at hg;simp[Value.ownBlock]at hg)) (fun x hx=>by cases hx)
   .refine hK.call (k3 [g] (fun g' hg=>?_)) (fun x hx=>Or.inr ?_)
    .rw[e1]at hg
     have:g=g':=y!
     simp[this]
    .have hx:x=g:=_h
     omega
  have PX:N=s.length:=by rw[HN.out];exact Qi.length_eq.symm
  clear HN
  subst PX
  have hmp:=yC Qi hris
  have hrs:∀r∈s,0<=r.1/\1<=r.2/\r.1+r.2<=8192:=fun r hr=>vw (Qi.mem_iff.1 hr)
  have hmo:=fun k hk=>xu s hris hrs k hk
  have hS:=af.bB Tb
  have⟨HMP,HS,HMO,HRS⟩:=gh! hmp hS hmo hrs
  clear hS hmo hrs hmp Qi hris Tb k3 VH hK
  have afx:s.length<=1000000:=_a
  have j1:(s.length:Int)<=1000000:=_a
  have hw3:=K3.size
  go_wp2_with fail
  go_loopw [4,33] (fun v4 i wr=>∃k:Nat,k<=s.length/\i=(k:Int)/\wr.ownsRow w3 128 2 v4 (Pw s k).length (NW (Pw s k))/\NP [] w3 wr) (fun _ i _=>s.length-(intOf i).toNat)
  case atStart=>exact⟨0,_a,rfl,Nf _ _ _ _,NP.refl _ _⟩
  case round=>
   obtain⟨k,hk,rfl,NU,hK⟩:=hrel
   by_cases NV:k<s.length
   .obtain⟨sb,soff,rfl,c0,c1,hb,hlc,PT⟩:=(HS.out.kept0 hK).at_ k NV
    have⟨r1,r2,r3⟩:=HRS.out s[k] (MJ _)
    have VZ:=lE s k NV
    have Xd:=yD s k
    have⟨Z7,Of⟩:=_f VZ NV
    have i1:(k:Int)<s.length:=_a
    have Rq:=(HMO.out k hk).pl
    have Rf:=tK Rq
    clear VZ Rq
    generalize hM:Pw s k=M at*
    have HM:=tK hM
    clear hM
    generalize s[k]=r at*
    have q3':M.length+1<=maxLen:=_m
    have q4':(M.length+1)*16<=140737488355328:=_a
    have hKa:=hK.alloc (.cells #[r.1,r.2] 128)
    have QG:=hK.size
    rcases List.eq_nil_or_concat M with e|⟨I,q,e⟩
    .subst e
     rw[pD]at Z7
     obtain⟨p4,c4,rfl⟩:=ah NU
     go_wp2_with fail
     go_quiet (fail)
     go_wp2_with (at_builtin;go_must (refine MT _ rfl (.tmp 83) (.tmp 85) 56 rfl w3 128 i0 (.agg #[(0:Int),(0:Int)]) 2 16 underlying56 q0 q1 q2 q3 rfl _d _ _ _ rfl (MH (bK (MH NU _) _) _) (aa (wr+1) 0) 1 1 [.int .i64 r.1,.int .i64 r.2] rfl rfl ?_ ?_ q3' q4' ?_ ?_))
     .have RG:(((wr.alloc (.cells #[r.1,r.2] 128)).drewN nq).alloc (.cells #[r.1,r.2] 128)).heap[wr.heap.size+1]? =some (.cells #[r.1,r.2] 128 (0,0)):=by
       exact adp
      exact World.news_of_block RG
     .intro u hu;simp at hu;rcases hu with rfl|rfl<;>rfl
     .simp;omega
     intro v6 w6 o6 Po _ _
     have k6:NP [] w3 w6:=((hKa.drewN _).alloc _).grown Po (fun g hg=>Or.inr (ML NU g hg).1)
     have Vn:=tK o6
     clear Po NU o6
     go_wp2_with fail
     go_roundw
     case rel=>exact⟨k+1,Of.out,_j,by rw[Z7.out];simpa[NW]using Vn.out,k6⟩
     case measure=>(have hh:=Of.out;simp[intOf];omega)
    .rw[List.concat_eq_append]at e
     subst e
     have abT:(I++[q]).length=I.length+1:=_b
     rw[abT]at NU q3' q4' Xd
     obtain⟨g,c4,rfl,TI,UK,hg3,hg4,U0⟩:=cU NU _a
     have⟨u1,u2⟩:=mI I q
     have e0:=U0 _ _ u1
     have e1:=U0 _ _ u2
     have⟨p1,p2,p3,p4,p5⟩:=Rf.out.init
     have i2:(I.length:Int)<=1000000:=_a
     clear U0 u1 u2 abT
     by_cases hc:r.1<=q.1+q.2
     .rw[rE hc]at Z7
      have z1:=World.ownsRow.frozenAt NU (I.length*2+1)
      rcases(by omega:q.2<=r.1+r.2-q.1\/r.1+r.2-q.1<q.2)with hm|hm
      .have ZA:max q.2 (r.1+r.2-q.1)=r.1+r.2-q.1:=_a
       rw[ZA]at Z7
       go_wp2_with fail
       go_quiet (fail)
       go_wp2_with fail
       go_region
       all_goals
        have Oo:=(World.ownsRow.stored NU (I.length*2+1) (r.1+r.2-q.1:Int)).1
        rw[show q=(q.1,q.2)from rfl,iE]at Oo
        have e9:(I++[(q.1,r.1+r.2-q.1)]).length=I.length+1:=_b
        have OY:=tK Oo
        have WD:=(hKa.drewN (nq+1)).setCell (p:=(aa g (I.length*2+1))) (Or.inr TI) (r.1+r.2-q.1:Int)
        have RK:=(World.ownsRow.stored (bK (MH NU (.cells #[r.1,r.2] 128)) (nq+1)) (I.length*2+1) (r.1+r.2-q.1:Int)).1
        rw[show q=(q.1,q.2)from rfl,iE]at RK
        have HR9:=tK RK
        clear Oo NU RK
        go_wp2_with fail
        go_roundw
        case rel=>exact⟨k+1,Of.out,_j,by rw[Z7.out,e9];exact HR9.out,WD⟩
        case measure=>(have hh:=Of.out;simp[intOf];omega)
      .have ZA:max q.2 (r.1+r.2-q.1)=q.2:=_a
       rw[ZA]at Z7
       go_wp2_with fail
       go_quiet (fail)
       go_wp2_with fail
       go_region
       all_goals
        have Oo:=(World.ownsRow.stored NU (I.length*2+1) (q.2:Int)).1
        rw[show q=(q.1,q.2)from rfl,iE]at Oo
        have e9:(I++[(q.1,q.2)]).length=I.length+1:=_b
        have OY:=tK Oo
        have WD:=(hKa.drewN (nq+1)).setCell (p:=(aa g (I.length*2+1))) (Or.inr TI) (q.2:Int)
        have RK:=(World.ownsRow.stored (bK (MH NU (.cells #[r.1,r.2] 128)) (nq+1)) (I.length*2+1) (q.2:Int)).1
        rw[show q=(q.1,q.2)from rfl,iE]at RK
        have HR9:=tK RK
        clear Oo NU RK
        go_wp2_with fail
        go_roundw
        case rel=>exact⟨k+1,Of.out,_j,by rw[Z7.out,e9];exact HR9.out,WD⟩
        case measure=>(have hh:=Of.out;simp[intOf];omega)
     .rw[rF hc]at Z7
      go_wp2_with fail
      go_quiet (fail)
      go_wp2_with (at_builtin;go_must (refine MT _ rfl (.tmp 83) (.tmp 85) 56 rfl w3 128 i0 (.agg #[(0:Int),(0:Int)]) 2 16 underlying56 q0 q1 q2 q3 rfl _d _ _ _ rfl (MH (bK (MH NU _) _) _) (aa (wr+1) 0) 1 1 [.int .i64 r.1,.int .i64 r.2] rfl rfl ?_ ?_ q3' q4' ?_ ?_))
      .have RG:(((wr.alloc (.cells #[r.1,r.2] 128)).drewN nq).alloc (.cells #[r.1,r.2] 128)).heap[wr.heap.size+1]? =some (.cells #[r.1,r.2] 128 (0,0)):=by
        exact adp
       exact World.news_of_block RG
      .intro u hu;simp at hu;rcases hu with rfl|rfl<;>rfl
      .simp;omega
      intro v6 w6 o6 Po _ _
      have k6:NP [] w3 w6:=((hKa.drewN _).alloc _).grown Po (fun g hg=>Or.inr (ML NU g hg).1)
      have o7:w6.ownsRow w3 128 2 v6 (I++[q]++[r]).length (NW (I++[q]++[r])):=by
       have e9:(I++[q]++[r]).length=I.length+1+1:=_b
       rw[bP (I++[q]) r,e9];exact o6
      have HO7:=tK o7
      clear Po NU o6 o7
      go_wp2_with fail
      go_roundw
      case rel=>exact⟨k+1,Of.out,_j,by rw[Z7.out];exact HO7.out,k6⟩
      case measure=>(have hh:=Of.out;simp[intOf];omega)
   .obtain rfl:k=s.length:=_a
    rw[HMP.out]at NU
    have HR:=tK NU
    clear NU
    go_wp2_with fail
    go_ret
    exact⟨_,rfl,aF HR.out hw3,K3.trans hK⟩
structure qe (x y out:List (Int×Int)) (i k:Nat):Prop where
 hi:i<=x.length
 hk:k<=y.length
 pl:Pl 0 out
 is:∃T:Int,(∀j,bZ out j↔bZ x j/\bZ y j/\j<T)/\(∀j,T<=j->bZ x j->bZ (x.drop i) j)/\(∀j,T<=j->bZ y j->bZ (y.drop k) j)
 gap:∀r∈out,(∀q∈x.drop i,r.1+r.2+1<=q.1)\/(∀q∈y.drop k,r.1+r.2+1<=q.1)
theorem DP (hx:Pl 0 x) (_:Pl 0 y):qe x y [] 0 0:=
 ⟨Nb _,Nb _,trivial,⟨0,fun j=>⟨fun h=>absurd h (dU j),fun⟨h1,_,h2⟩=>by have:=(hx.ge h1).1;omega⟩,fun j _ h=>h,fun j _ h=>h⟩,fun r hr=>by cases hr⟩
theorem qK {i:Nat} {q:Int×Int} (h:q∈l.drop (i+1)):q∈l.drop i:=by
 rw[<-List.drop_drop]at h
 exact NF h
theorem uo (hx:Pl 0 x) {i:Nat} (hi:i<x.length) {q:Int×Int} (h:q∈x.drop (i+1)):x[i].1+x[i].2+1<=q.1:=((hx.next i hi).mem h).1
theorem ug {i:Nat} (hi:i<x.length) (j:Int):bZ (x.drop i) j↔(x[i].1<=j/\j<x[i].1+x[i].2)\/bZ (x.drop (i+1)) j:=by
 rw[List.drop_eq_getElem_cons hi,de]
theorem kJ (hx:Pl 0 x) {i:Nat} (hi:i<x.length):0<=x[i].1/\1<=x[i].2/\x[i].1+x[i].2<=8192:=hx.mem (MJ hi)
theorem Gc {i k:Nat} (hx:Pl 0 x) (hy:Pl 0 y) (h:qe x y out i k) (hi:i<x.length) (hk:k<y.length) (lo hi':Int) (elo:lo=max x[i].1 y[k].1) (ehi:hi'=min (x[i].1+x[i].2) (y[k].1+y[k].2)) (i' k':Nat)
  (hik:(x[i].1+x[i].2=hi'/\i'=i+1/\k'=k)\/(x[i].1+x[i].2≠hi'/\i'=i/\k'=k+1)):qe x y (if lo<hi' then out++[(lo,hi'-lo)]else out) i' k':=by
 have⟨a1,a2,a3⟩:=kJ hx hi
 have⟨b1,b2,b3⟩:=kJ hy hk
 obtain⟨_,_,pl,⟨T,h1,h2,h3⟩,gap⟩:=h
 have dx:=fun j=>ug hi j
 have dy:=fun j=>ug hk j
 have gx:∀j,bZ (x.drop (i+1)) j->x[i].1+x[i].2+1<=j:=fun j hj=>((hx.next i hi).ge hj).1
 have gy:∀j,bZ (y.drop (k+1)) j->y[k].1+y[k].2+1<=j:=fun j hj=>((hy.next k hk).ge hj).1
 have hxm:∀j,x[i].1<=j->j<x[i].1+x[i].2->bZ x j:=fun j p q=>⟨x[i],MJ hi,p,q⟩
 have hym:∀j,y[k].1<=j->j<y[k].1+y[k].2->bZ y j:=fun j p q=>⟨y[k],MJ hk,p,q⟩
 have xi0:x[i]∈x.drop i:=by rw[List.drop_eq_getElem_cons hi];exact MY
 have yk0:y[k]∈y.drop k:=by rw[List.drop_eq_getElem_cons hk];exact MY
 have mx:∀q,q∈x.drop i'->q∈x.drop i:=by
  rcases hik with⟨_,rfl,_⟩|⟨_,rfl,_⟩
  .exact fun q hq=>qK hq
  .exact fun q hq=>hq
 have my:∀q,q∈y.drop k'->q∈y.drop k:=by
  rcases hik with⟨_,_,rfl⟩|⟨_,_,rfl⟩
  .exact fun q hq=>hq
  .exact fun q hq=>qK hq
 have ael:(∀q∈x.drop i',hi'+1<=q.1)\/(∀q∈y.drop k',hi'+1<=q.1):=by
  rcases hik with⟨e,rfl,_⟩|⟨e,_,rfl⟩
  .exact Or.inl (fun q hq=>by have:=uo hx hi hq;omega)
  .exact Or.inr (fun q hq=>by have:=uo hy hk hq;omega)
 have ex:∀j,max T hi'<=j->bZ x j->bZ (x.drop i') j:=by
  intro j hj P7
  have hd:=h2 j _a P7
  rcases hik with⟨e,rfl,_⟩|⟨e,rfl,_⟩
  .rcases(dx j).1 hd with⟨_,q⟩|q
   .omega
   .exact q
  .exact hd
 have ey:∀j,max T hi'<=j->bZ y j->bZ (y.drop k') j:=by
  intro j hj P7
  have hd:=h3 j _a P7
  rcases hik with⟨e,_,rfl⟩|⟨e,_,rfl⟩
  .exact hd
  .rcases(dy j).1 hd with⟨_,q⟩|q
   .omega
   .exact q
 have hii:i'<=x.length/\k'<=y.length:=by rcases hik with⟨_,rfl,rfl⟩|⟨_,rfl,rfl⟩<;>omega
 have back:∀j,bZ x j->bZ y j->T<=j->j<hi'->lo<=j:=by
  intro j p q r s
  have p2:=h2 j r p
  have q2:=h3 j r q
  have p3:x[i].1<=j:=by
   rcases(dx j).1 p2 with⟨p3,_⟩|p3
   .exact p3
   .have:=gx j p3;omega
  have q3:y[k].1<=j:=by
   rcases(dy j).1 q2 with⟨q3,_⟩|q3
   .exact q3
   .have:=gy j q3;omega
  omega
 by_cases NV:lo<hi'
 .rw[if_pos NV]
  refine⟨hii.1,hii.2,?_,⟨max T hi',fun j=>?_,ex,ey⟩,?_⟩
  .refine pl.snoc (by show(0:Int)<=lo;omega) (by show 1<=hi'-lo;omega) (by show lo+(hi'-lo)<=8192;omega) (fun r hr=>?_)
   show r.1+r.2+1<=lo
   rcases gap r hr with g|g
   .have:=g _ xi0;omega
   .have:=g _ yk0;omega
  .rw[cA,eW,h1 j]
   constructor
   .rintro(⟨p,q,r⟩|⟨p,q⟩)
    .exact⟨p,q,_a⟩
    .have p:lo<=j:=p
     have q:j<lo+(hi'-lo):=q
     exact⟨hxm j _a _a,hym j _a _a,_a⟩
   .rintro⟨p,q,r⟩
    by_cases hT:j<T
    .exact Or.inl ⟨p,q,hT⟩
    .refine Or.inr ⟨?_,?_⟩
     .show lo<=j;exact back j p q _a _a
     .show j<lo+(hi'-lo);omega
  .intro r hr
   rcases Na.1 hr with hr|hr
   .rcases gap r hr with g|g
    .exact Or.inl (fun q hq=>g q (mx q hq))
    .exact Or.inr (fun q hq=>g q (my q hq))
   .have hr:r=(lo,hi'-lo):=F!
    subst hr
    rcases ael with g|g
    .exact Or.inl (fun q hq=>by have:=g q hq;show lo+(hi'-lo)+1<=q.1;omega)
    .exact Or.inr (fun q hq=>by have:=g q hq;show lo+(hi'-lo)+1<=q.1;omega)
 .rw[if_neg NV]
  refine⟨hii.1,hii.2,pl,⟨max T hi',fun j=>?_,ex,ey⟩,?_⟩
  .rw[h1 j]
   constructor
   .rintro⟨p,q,r⟩;exact⟨p,q,_a⟩
   .rintro⟨p,q,r⟩
    by_cases hT:j<T
    .exact⟨p,q,hT⟩
    .have:=back j p q _a _a;omega
  .intro r hr
   rcases gap r hr with g|g
   .exact Or.inl (fun q hq=>g q (mx q hq))
   .exact Or.inr (fun q hq=>g q (my q hq))
theorem Iz {a b:List (Int×Int)} {i k:Nat} (h:qe (OO a) (OO b) out i k) (he:i=(OO a).length\/k=(OO b).length):out=uq a b:=by
 obtain⟨_,_,pl,⟨T,h1,h2,h3⟩,_⟩:=h
 refine lL pl (fun m hm=>?_)
 rw[h1]
 have ea:bZ (OO a) m↔OE a m=true:=by rw[<-dr];unfold OO;rw[jZ _ m hm]
 have eb:bZ (OO b) m↔OE b m=true:=by rw[<-dr];unfold OO;rw[jZ _ m hm]
 rw[No,<-ea,<-eb]
 constructor
 .rintro⟨p,q,_⟩;exact⟨p,q⟩
 .rintro⟨p,q⟩
  refine⟨p,q,?_⟩
  by_cases hT:(m:Int)<T
  .exact hT
  .exfalso
   rcases he with he|he
   .have:=h2 m _a p
    rw[he,List.drop_length]at this
    exact dU _ this
   .have:=h3 m _a q
    rw[he,List.drop_length]at this
    exact dU _ this

/- -/
import Derived.Test.YtdkimcnlhmhpgaaGreatF01
import Derived.Test.YtdkimcnlhmhpgaaGreatShelf2
import Derived.Test.YtdkimcnlhmhpgaaGreatShelf
import Derived.Laws.AppendOwnNone
set_option maxHeartbeats 32000000
set_option maxRecDepth 100000
namespace Go.Proofs.YtdkimcnlhmhpgaaGreat
section
section
open Go.Proofs.Tryz Go.RowKit
variable {w:World} {base size n:Nat} {e:TypeId} {v:Value} {xs:List Value}
theorem NO:type_of% @List.append_nil:=@List.append_nil
theorem NF:type_of% @List.mem_of_mem_drop:=@List.mem_of_mem_drop
theorem Nn:type_of% @List.getElem?_eq_some_iff:=@List.getElem?_eq_some_iff
theorem Nm:type_of% @List.mem_singleton:=@List.mem_singleton
theorem Nh:type_of% @List.take_of_length_le:=@List.take_of_length_le
theorem Nf:type_of% @World.ownsRow_nil:=@World.ownsRow_nil
theorem Na:type_of% @List.mem_append:=@List.mem_append
theorem MU:type_of% @List.take_length:=@List.take_length
theorem MT:type_of% @wpList_append_own_at:=@wpList_append_own_at
theorem ML:type_of% @World.ownsRow.lt:=@World.ownsRow.lt
theorem MJ:type_of% @List.getElem_mem:=@List.getElem_mem
theorem MH:type_of% @World.ownsRow.alloc:=@World.ownsRow.alloc
theorem jh (w:World) (row:Option Nat):w.grownBy w row:=⟨rfl,rfl,rfl,MG _,fun _ _ _=>rfl⟩
theorem oL {P:Program} {ops rest} {o:Oper} {a} {Q:Exit->Act->World->Prop} (hgd:o.guard=none) (s x:Operand) (t:TypeId) (ho:o.op=.call {callee:=.builtin .append,args:=#[s,x],argTypes:=#[t,t]}) (base base2) (e:TypeId) (i:TypeInfo) (z size bytes) (ht:P.underlying t=some (.slice e)) (hi:P.info? e=some i) (hz:i.zero=some z) (QW:i.size=size) (XN:i.bytes=bytes) (YF:z.cells.size=size) (PW:0<size) (v n xs) (hs:a.eval s=v) (Ot:w.ownsRow base e size v n xs) (u m news) (hx:a.eval x=u) (P4:w.ownsRow base2 e size u m news) (h1:∀u∈news,u.oneCell'=true) (h63:n+m<=maxLen) (Qs:(n+m)*bytes<=140737488355328) (Rk:base<=w.heap.size) (h:∀v' w',w'.ownsRow base e size v' (n+m) (xs++news)->w.grownBy w' v.ownBlock->(v'.ownBlock=v.ownBlock\/v'.ownBlock=some w.heap.size)->wpList P ops Q rest (a.put o.dst v') w'):
  wpList P ops Q (o::rest) a w:=by
 have acS:=P4
 obtain⟨hl,⟨rfl,rfl⟩|⟨g,cap,cur,rfl,hb,hg,SR,PT,Sk,htake⟩⟩:=P4
 .have hn:news=[]:=Nc (by rw[hl,Nat.zero_mul])
  refine wpList_append_own_none hgd s x t ho base e i size ht hi v n xs hs Ot hx ?_
  exact h v w (by rw[hn,NO,Nat.add_zero];exact Ot) (jh _ _) (Or.inl rfl)
 .refine MT w hgd s x t ho base e i z size bytes ht hi hz QW XN YF PW v n xs hs Ot g m cap news hx hl (fun j u hj=>World.ownsRow.cells acS (g:=g) rfl j u hj) h1 h63 Qs Rk ?_
  intro v' w' h2 h3 _ h5
  exact h v' w' h2 h3 h5
theorem dG {w w':World} {base:Nat} {e:TypeId} {size:Nat} {v:Value} {n:Nat} {xs:List Value} (h:w.ownsRow base e size v n xs)
  (hk:∀g cs,base<=g->w.heap[g]? =some (.cells cs e (0,0))->w'.heap[g]? =w.heap[g]?):w'.ownsRow base e size v n xs:=by
 obtain⟨h1,h2⟩:=h
 refine⟨h1,?_⟩
 rcases h2 with h2|⟨g,cap,cur,rfl,hg,hh,r⟩
 .grind
 .exact Or.inr ⟨g,cap,cur,rfl,hg,(hk g cur hg hh).trans hh,r⟩
theorem cF {S w w' base} {e:TypeId} {size v n xs} (h:w.ownsRow base e size v n xs) (k:NP S w w') (hS:∀x∈S,base<=x->∀cs,w.heap[x]? ≠some (.cells cs e (0,0))):w'.ownsRow base e size v n xs:=
 dG h (fun g cs hb hg=>k.block g (NK hg) (fun hx=>hS g hx hb cs hg))
theorem bI {r rs} {t:TypeId} {w'} (h:w.ownsRow base e size v n xs) (k:NP [r] w w') (o:ae w r rs t) (Pb:e≠t):w'.ownsRow base e size v n xs:=
 cF h k (fun x hx _ cs hc=>by
  have hx:x=r:=h?
  subst hx
  have o':w.heap[x]? =some (.cells rs t (0,0)):=o
  rw[o']at hc
  injection hc with hc
  injection hc with _ ht
  exact Pb ht.symm)
theorem bJ (w:World) (base:Nat) (e:TypeId) (size:Nat) (hb:base<=w.heap.size):(w.alloc (.cells #[] e)).ownsRow base e size (.slice (some w) 0 0) 0 []:=
 World.ownsRow_lit w #[] 0 hb (Nb _) b?
theorem aF {base'} (h:w.ownsRow base e size v n xs) (hb:base'<=base):w.ownsRow base' e size v n xs:=by
 have⟨h1,h2⟩:=h
 refine⟨h1,?_⟩
 rcases h2 with h2|⟨g,cap,cur,rfl,hg,r⟩
 .exact Or.inl h2
 .exact Or.inr ⟨g,cap,cur,rfl,Nk hb hg,r⟩
theorem cU (h:w.ownsRow base e size v n xs) (hn:0<n):
  ∃g c,v=.slice (some ⟨g,0,none⟩) n c/\base<=g/\g<w.heap.size/\n<=c/\c<=maxLen/\∀j u,xs[j]? =some u->w.cell? ⟨g,j,none⟩=some u:=by
 have h':=h
 obtain⟨hl,⟨rfl,rfl⟩|⟨g,cap,cur,rfl,hb,hg,SR,PT,Sk,htake⟩⟩:=h
 .omega
 .refine⟨g,cap,rfl,hb,NK hg,SR,PT,fun j u hj=>?_⟩
  have:=World.ownsRow.cells h' (g:=g) rfl j u hj
  rwa[Ni,Nat.zero_add]at this
end
section
open Go.Proofs.Tryz Go.RowKit Go.Sort Go.Shelf
def jC (x:Int×Int):List Value:=[.int .i64 x.1,.int .i64 x.2]
theorem rP (l):flatK jC 2 l.toArray=(NW l).toArray:=by
 apply Array.ext
 .rw[size_flatK,List.size_toArray,List.size_toArray,dm]
 .intro t h1 h2
  have ht:t<l.length*2:=P?
  have h:=get_flatK jC 2 l.toArray t (by simpa using ht)
  rw[getElem!_pos _ t h1]at h
  rw[h]
  have hi:t/2<l.length:=a?
  rw[getElem!_pos l.toArray (t/2) D?]
  have⟨g1,g2⟩:=kI l (t/2) hi
  rcases Nat.mod_two_eq_zero_or_one t with hm|hm
  .have e:t/2*2=t:=a?
   rw[e]at g1
   rw[hm]
   have:=(Nn.1 g1).2
   simp only[List.getElem_toArray]
   rw[this];rfl
  .have e:t/2*2+1=t:=a?
   rw[e]at g2
   rw[hm]
   have:=(Nn.1 g2).2
   simp only[List.getElem_toArray]
   rw[this];rfl
theorem qp (x y:Int×Int):ltOf (fun x y:Int×Int=>Sl x.1 y.1) x y=decide (x.1<y.1):=by
 unfold ltOf Sl
 by_cases h1:x.1<y.1
 .simp[h1]
 .by_cases h2:y.1<x.1<;>simp[h1,h2]
theorem Eg:SWO (ltOf fun x y:Int×Int=>Sl x.1 y.1):={
 irrefl:=fun x=>by rw[qp];simp
 trans:=fun x y z h1 h2=>by rw[qp]at*;simp at*;omega
 ntrans:=fun x y z h1 h2=>by rw[qp]at*;simp at*;omega}
theorem M49 {A:Prop}(h:A:=by
 go_wp2_with (go_at_call 186;refine(UQ _).mono ?_;rintro e w' ⟨rfl,rfl⟩)
 go_ret
 exact⟨rfl,0,_,by rw[alloc_eq_grow,alloc_eq_grow,grow_grow];rfl⟩):A:=h
theorem GY (x y:Int×Int) (W):am! 185 #[.agg #[x.1,x.2],.agg #[y.1,y.2]] W fun e w'=>e=(Sl x.1 y.1:Int)/\∃q os',w'=grow (W.drewN q) os':=by
 have UQ:=fun W'=>Ea x.1 y.1 W'
 generalize Sl x.1 y.1=r at UQ ⊢
 go_enter func185,ntmps185
 exact M49
theorem GW (x y:Int×Int) (W):am! 238 #[.agg #[x.1,x.2],.agg #[y.1,y.2]] W fun e w'=>e=(Sl x.1 y.1:Int)/\∃q os',w'=grow (W.drewN q) os':=by
 have UQ:=fun W'=>Ea x.1 y.1 W'
 generalize Sl x.1 y.1=r at UQ ⊢
 go_enter func238,ntmps238
 exact M49
theorem El {w} {g cap base:Nat} {l} (h:w.ownsRow base 128 2 (g,l.length,cap) l.length (NW l)) (m:Nat) (d' os) (hd:d'.size=l.length):
  (sortWorldK jC 2 w g 0 m d' os).ownsRow base 128 2 (g,l.length,cap) l.length (NW d'.toList)/\NP [g] w (sortWorldK jC 2 w g 0 m d' os):=by
 obtain⟨hl,⟨e,_⟩|⟨g',cap',cur,e,hb,hg,SR,PT,Sk,htake⟩⟩:=h
 .simp at e
 .injection e with e e2 e3
  injection e with e
  injection e with e _ _
  subst e e3
  have NV:=NK hg
  have abf:(sortWorldK jC 2 w g 0 m d' os).heap[g]? =some (.cells (putCells id 0 (flatK jC 2 d') cur) 128 (0,0)):=by
   unfold sortWorldK
   rw[heap_grow_old _ _ (by show g<(putRowK jC 2 (Go.Sort.ahead w m) g 0 d').heap.size;simp[putRowK,putRow,mapBlock,Go.Sort.ahead];exact NV)]
   simp[putRowK,putRow,mapBlock,Go.Sort.ahead,Array.getElem?_modify,hg,onCells]
  have PW:(putCells id 0 (flatK jC 2 d') cur).size=cur.size:=by simp[putCells]
  refine⟨⟨by rw[dm,<-hd];simp,Or.inr ⟨g,cap,_,rfl,hb,abf,SR,PT,by rw[PW,Sk],?_⟩⟩,⟨rfl,rfl,rfl,?_,fun k hk hS=>?_⟩⟩
  .have hf:=rP d'.toList
   rw[Array.toArray_toList]at hf
   rw[hf]
   apply List.ext_getElem?
   intro i
   by_cases hi:i<l.length*2
   .rw[List.getElem?_take_of_lt hi]
    have hic:i<cur.size:=by rw[Sk];have:=Nat.mul_le_mul_right 2 SR;omega
    have hir:i<(NW d'.toList).length:=by rw[dm];simp[hd];exact hi
    rw[Array.getElem?_toList,MZ hir]
    unfold putCells
    rw[Array.getElem?_mapIdx,Array.getElem?_eq_getElem hic]
    simp only[Option.map_some,List.size_toArray,Nat.zero_add,Nat.sub_zero,id]
    rw[if_pos ⟨Nb _,hir⟩,getElem!_pos _ i (by simpa using hir)]
    simp
   .rw[List.getElem?_eq_none w?,List.getElem?_eq_none (by rw[dm];simp[hd];omega)]
  .unfold sortWorldK
   simp[putRowK,putRow,mapBlock,Go.Sort.ahead]
  .have Pb:g≠k:=by simpa using fun e=>hS (by simp[e])
   unfold sortWorldK
   rw[heap_grow_old _ _ (by show k<(putRowK jC 2 (Go.Sort.ahead w m) g 0 d').heap.size;simp[putRowK,putRow,mapBlock,Go.Sort.ahead];exact hk)]
   simp[putRowK,putRow,mapBlock,Go.Sort.ahead,Array.getElem?_modify,Pb]
def jl (l:List (Int×Int)):Prop:=List.Pairwise (fun a b=>a.1<=b.1) l
theorem Ci {d} (h:SortedIn (ltOf fun x y:Int×Int=>Sl x.1 y.1) 0 d.size d):jl d.toList:=by
 unfold jl
 rw[List.pairwise_iff_getElem]
 intro i j hi hj VM
 have hi':i<d.size:=D?
 have TT:j<d.size:=A!
 have:=h i j (Nb _) VM TT
 rw[qp,getElem!_pos d i hi',getElem!_pos d j TT]at this
 simp at this
 simpa using this
def hZ (base:Nat) (v:Value) (l:List (Int×Int)) (w:World) (e:Ending) (w':World):Prop:=
 e=.returned (.tuple #[])/\∃l':List (Int×Int),l'.Perm l/\jl l'/\w'.ownsRow base 128 2 v l.length (NW l')/\∀S,(∀g,v.ownBlock=some g->g∈S)->NP S w w'
theorem Ag (c:Nat) (p) (f:Nat) (w):am! 271 #[.slice p 0 c,(0:Int),(0:Int),.func (.func f) #[] #[]] w fun e w'=>e=.returned (.tuple #[])/\w=w':=by
 go_enter func271,ntmps271
 go_wp2_with fail
 refine wp_loop_rounds 1 ?_
 rw[rounds_succ]
 go_wp2_with fail
 go_end0
 exact⟨rfl,rfl⟩
theorem BS (c:Nat) (p) (lim:Int) (f:Nat) (w):am! 239 #[.slice p 0 c,(0:Int),(0:Int),lim,.func (.func f) #[] #[]] w fun e w'=>e=.returned (.tuple #[])/\w=w':=by
 go_enter func239,ntmps239
 go_wp2_with fail
 refine wp_loop_rounds 1 ?_
 rw[rounds_succ]
 go_wp2_with (go_at_call 271;refine(Ag _ _ _ _).mono ?_;rintro e w' ⟨rfl,rfl⟩)
 (try simp only[Exit.inBlock,Exit.then]);refine MN (results_none rfl _ _ _) rfl ?_
 exact⟨rfl,rfl⟩
theorem Ah (f base:Nat) (v l w) (h:w.ownsRow base 128 2 v l.length (NW l)) (hl:l.length<=1000000) (eg:∀args w,(callFunc f args).run prog w=.ok (.enter f args) w) (hf:∀(x y:Int×Int) (W:World),am! f #[.agg #[x.1,x.2],.agg #[y.1,y.2]] W fun e w'=>e=(Sl x.1 y.1:Int)/\∃q os',w'=grow (W.drewN q) os'):
  am! 184 #[v,.func (.func f) #[] #[]] w (hZ base v l w):=by
 by_cases h0:l.length=0
 .have WU:l=[]:=Nc h0
  subst WU
  have H:=tK h
  obtain⟨p,c,rfl⟩:=ah h
  clear h hf eg hl
  have hb:=fun W=>bits_Len 0 W a? a?
  go_enter func184,ntmps184
  go_wp2_with (first
   |(go_at_call 240;refine(hb _).mono ?_;rintro e w' ⟨rfl,rfl⟩)
   |(go_at_call 239;refine(BS _ _ _ _ _).mono ?_;rintro e w' ⟨rfl,rfl⟩))
  go_end0
  exact⟨rfl,[],List.Perm.refl _,List.Pairwise.nil,H.out,fun S _=>NP.refl _ _⟩
 .obtain⟨g,c,rfl,hb,NV,SR,PT,Ou⟩:=cU h a?
  have hd:l.toArray.size=l.length:=b?
  have hH:HoldsK jC 2 w g 0 l.toArray:=by
   intro j hj
   have ZO:j<(NW l).length:=by rw[rP]at hj;simpa using hj
   rw[rP,Nat.zero_add]
   refine⟨?_,World.ownsRow.frozenAt h j⟩
   rw[Ou j _ (MZ ZO),getElem!_pos _ j (by simpa using ZO)]
   simp
  have Qg:CmpLays prog f #[] jC 2 (fun x y=>Sl x.1 y.1) g 0 l.toArray.size w:=fun _ _ _ _ x y=>hf x y _
  have UQ:=AnyQ.slices_SortFunc sortRun 2 isAgg128 sizeOf128 jC (fun _=>rfl) (fun x v hv=>by simp[jC]at hv;rcases hv with rfl|rfl<;>rfl) (fun x y=>Sl x.1 y.1) Eg f #[] g 0 c l.toArray w eg Qg hH NV (by rw[hd];omega)
  rw[hd]at UQ
  refine UQ.mono fun e w' ⟨he,d',n,os,hp,hs,hw⟩=>?_
  have⟨hp1,_,hp3⟩:=hp
  have hds:d'.size=l.length:=by rw[hp1,hd]
  have⟨r1,r2⟩:=El h n d' os hds
  rw[<-hds]at hs
  have Qi:d'.toList.Perm l:=by
   have e1:(d'.extract 0 l.length).toList=d'.toList:=by rw[<-hds];simp
   have e2:(l.toArray.extract 0 l.length).toList=l:=b?
   rwa[e1,e2]at hp3
  subst hw
  exact⟨he,d'.toList,Qi,Ci hs,r1,fun S hS=>r2.mono (fun x hx=>by
   have hx:x=g:=h?
   subst hx;exact hS x (by simp[Value.ownBlock]))⟩
theorem I0 (base v l w) (h:w.ownsRow base 128 2 v l.length (NW l)) (hl:l.length<=1000000):
  am! 184 #[v,.func (.func 185) #[] #[]] w (hZ base v l w):=
 Ah 185 base v l w h hl (enters_of func185 c? rfl) GY
theorem IZ (base v l w) (h:w.ownsRow base 128 2 v l.length (NW l)) (hl:l.length<=1000000):
  am! 184 #[v,.func (.func 238) #[] #[]] w (hZ base v l w):=
 Ah 238 base v l w h hl (enters_of func238 c? rfl) GW
end
open Go.Proofs.Tryz Go.RowKit
variable {l i x y out:List (Int×Int)}
def dZ (l:List (Int×Int)):List (Int×Int):=l.filterMap fun a=>if(bE a).2=true then some (bE a).1 else none
theorem Bw (l) (a:Int×Int):dZ (l++[a])=dZ l++(if(bE a).2=true then[(bE a).1]else[]):=by
 unfold dZ
 grind
theorem vx (l):(dZ l).length<=l.length:=List.length_filterMap_le _ _
theorem IB {a:Int×Int} (h:(bE a).2=true):0<=(bE a).1.1/\1<=(bE a).1.2/\(bE a).1.1+(bE a).1.2<=8192:=by
 unfold bE at*
 grind
theorem zU (a:Int×Int) (k:Nat) (hk:k<8192):((bE a).2=true/\(bE a).1.1<=k/\(k:Int)<(bE a).1.1+(bE a).1.2)↔(a.1<=k/\(k:Int)<a.1+a.2):=by
 unfold bE
 grind
theorem vw {r:Int×Int} (h:r∈dZ l):0<=r.1/\1<=r.2/\r.1+r.2<=8192:=by
 unfold dZ at h
 rw[List.mem_filterMap]at h
 have⟨a,_,ha⟩:=h
 by_cases hc:(bE a).2=true
 .rw[if_pos hc]at ha
  injection ha with ha
  subst ha
  exact IB hc
 .rw[if_neg hc]at ha;cases ha
theorem Gd (l) (k:Nat) (hk:k<8192):bZ (dZ l) k↔OE l k=true:=by
 rw[dr]
 unfold bZ dZ
 constructor
 .rintro⟨r,hr,h1,h2⟩
  rw[List.mem_filterMap]at hr
  have⟨a,ha,hx⟩:=hr
  by_cases hc:(bE a).2=true
  .rw[if_pos hc]at hx
   injection hx with hx
   subst hx
   exact⟨a,ha,(zU a k hk).1 ⟨hc,h1,h2⟩⟩
  .rw[if_neg hc]at hx;cases hx
 .rintro⟨a,ha,h⟩
  have⟨h1,h2,h3⟩:=(zU a k hk).2 h
  exact⟨(bE a).1,List.mem_filterMap.2 ⟨a,ha,by rw[if_pos h1]⟩,h2,h3⟩
def nG (o:List (Int×Int)) (r:Int×Int):List (Int×Int):=
 match o.getLast? with
 |some q=>if r.1<=q.1+q.2 then o.dropLast++[(q.1,max q.2 (r.1+r.2-q.1))]else o++[r]
 |none=>[r]
theorem pD (r:Int×Int):nG [] r=[r]:=rfl
theorem rE {i} {q r:Int×Int} (h:r.1<=q.1+q.2):nG (i++[q]) r=i++[(q.1,max q.2 (r.1+r.2-q.1))]:=by
 simp_all [nG]
theorem rF {i} {q r:Int×Int} (h:¬r.1<=q.1+q.2):nG (i++[q]) r=i++[q]++[r]:=by
 simp_all [nG]
def Pw (s:List (Int×Int)) (k:Nat):List (Int×Int):=(s.take k).foldl nG []
theorem lE (s k) (h:k<s.length):Pw s (k+1)=nG (Pw s k) s[k]:=by
 grind [Pw,MI]
structure IQ (s:List (Int×Int)) (k:Nat):Prop where
 pl:Pl 0 (Pw s k)
 is:∀j:Int,bZ (Pw s k) j↔bZ (s.take k) j
 low:∀x∈Pw s k,∃y∈s.take k,x.1=y.1
theorem xu (s) (hs:jl s) (hr:∀r∈s,0<=r.1/\1<=r.2/\r.1+r.2<=8192) (k) (hk:k<=s.length):IQ s k:=by
 induction k with
 |zero=>exact⟨trivial,fun j=>Iff.rfl,fun x hx=>by cases hx⟩
 |succ k ih=>
  obtain⟨h1,h2,h3⟩:=ih a?
  have hlt:k<s.length:=a?
  obtain⟨r1,r2,r3⟩:=hr s[k] (MJ _)
  have htk:s.take (k+1)=s.take k++[s[k]]:=MI hlt
  have hlow:∀x∈Pw s k,x.1<=s[k].1:=fun x hx=>by
   obtain⟨y,hy,e⟩:=h3 x hx
   rw[e]
   rw[List.mem_take_iff_getElem]at hy
   obtain⟨i,hi,rfl⟩:=hy
   exact(List.pairwise_iff_getElem.1 hs) i k a? hlt a?
  have hms:=lE s k hlt
  rcases List.eq_nil_or_concat (Pw s k)with e|⟨i,q,e⟩
  .rw[e,pD]at hms
   refine⟨by rw[hms];exact⟨r1,r2,r3,trivial⟩,fun j=>?_,fun x hx=>?_⟩
   .grind [cA,dU]
   grind
  .rw[List.concat_eq_append]at e
   rw[e]at h1 hlow
   obtain⟨q1,q2,q3,q4,q5⟩:=h1.init
   have hq:=hlow q b?
   by_cases hc:s[k].1<=q.1+q.2
   .rw[e,rE hc]at hms
    refine⟨?_,fun j=>?_,fun x hx=>?_⟩
    .rw[hms]
     exact q1.snoc q2 a? a? q5
    .rw[hms,htk,cA,cA,<-h2 j,e,cA,eW,eW,eW,or_assoc]
     grind
    .rw[hms]at hx
     rcases Na.1 hx with hx|hx
     .obtain⟨y,hy,e2⟩:=h3 x (by simp_all)
      grind
     .obtain⟨y,hy,e2⟩:=h3 q (by rw[e];simp)
      grind
   .rw[e,rF hc]at hms
    refine⟨?_,fun j=>?_,fun x hx=>?_⟩
    .rw[hms]
     refine h1.snoc r1 r2 r3 (fun x hx=>?_)
     grind
    .grind [cA]
    .rw[hms]at hx
     rcases Na.1 hx with hx|hx
     .obtain⟨y,hy,e2⟩:=h3 x (by grind)
      grind
     grind
theorem yC {l s} (hp:s.Perm (dZ l)) (hs:jl s):Pw s s.length=OO l:=by
 have hr:∀r∈s,0<=r.1/\1<=r.2/\r.1+r.2<=8192:=fun r h=>vw (hp.mem_iff.1 h)
 have h:=xu s hs hr s.length (MG _)
 refine lL h.pl (fun m hm=>?_)
 rw[h.is,MU,<-Gd l m hm]
 grind [bZ]
theorem yD (s k):(Pw s k).length<=k:=by
 induction k with
 |zero=>exact MG _
 |succ k ih=>
  by_cases h:k<s.length
  .rw[lE s k h]
   rcases List.eq_nil_or_concat (Pw s k)with e|⟨i,q,e⟩
   .rw[e,pD];simp
   grind [rE,rF]
  grind [Pw,Nh]
theorem iE (I) (a n n':Int):(NW (I++[(a,n)])).set (I.length*2+1) n'=NW (I++[(a,n')]):=by
 rw[bP,bP,List.set_append_right _ _ (by rw[dm];omega),dm]
 have e:I.length*2+1-I.length*2=1:=a?
 rw[e]
 rfl
theorem mI (I) (q:Int×Int):(NW (I++[q]))[I.length*2]? =q.1/\(NW (I++[q]))[I.length*2+1]? =q.2:=by
 have h:=kI (I++[q]) I.length b?
 simpa using h
theorem bK {w:World} {base:Nat} {e:TypeId} {size:Nat} {v:Value} {n:Nat} {xs:List Value} (h:w.ownsRow base e size v n xs) (k:Nat):(w.drewN k).ownsRow base e size v n xs:=h
def bh (p:List (Int×Int)) (w:World) (e:Ending) (w':World):Prop:=
 ∃v,e=.returned v/\w'.ownsRow w 128 2 v p.length (NW p)/\NP [] w w'
theorem bh.runs {p w w'} {e:Ending} (h:bh p w e w'):∃v,e=.returned v/\af w' v p w w'.heap.size/\NP [] w w':=by
 have⟨v,h1,h2,h3⟩:=h;exact⟨v,h1,af.bB h2,h3⟩
theorem adp {A:Prop}(h:A:=by
 have:=Ns (wr.alloc (.cells #[r.1,r.2] 128)) (.cells #[r.1,r.2] 128)
 rw[Nd]at this
 exact this):A:=h
theorem oK (v l lo hi w) (h:af w v l lo hi) (hl:l.length<=1000000) (Pj:∀a∈l,aQ a):
  am! 112 #[v] w (bh (OO l) w):=by
 have⟨i0,q0,q1,q2,q3⟩:=eV
 obtain⟨p,c,rfl⟩:=h.shape
 have⟨H,VI⟩:=f? h Pj
 have Tg:(l.length:Int)<=1000000:=a?
 unfold bh
 clear h Pj
 go_enter func112,ntmps112
 go_upto_block 0 with fail
 go_cut [3] (fun v3 wx=>wx.ownsRow w 128 2 v3 (dZ l).length (NW (dZ l))/\NP [] w wx)
 case first=>
  go_wp2_with fail
  go_loopw [3,14] (fun v3 i wr=>∃k:Nat,k<=l.length/\i=(k:Int)/\wr.ownsRow w 128 2 v3 (dZ (l.take k)).length (NW (dZ (l.take k)))/\NP [] w wr) (fun _ i _=>l.length-(intOf i).toNat)
  case atStart=>exact⟨0,a?,rfl,Nf _ _ _ _,NP.refl _ _⟩
  case round=>
   obtain⟨k,hk,rfl,NU,hK⟩:=hrel
   by_cases NV:k<l.length
   .obtain⟨b,off,rfl,c0,c1,hb,hlc,PT⟩:=(H.out.kept0 hK).at_ k NV
    have Yz:=VI.out l[k] (MJ NV)
    have hsn:dZ (l.take (k+1))=dZ (l.take k)++(if(bE l[k]).2=true then[(bE l[k]).1]else[]):=by rw[MI NV,Bw]
    have Qg:(dZ (l.take k)).length<=1000000:=by
     have:=vx (l.take k)
     have:=List.length_take_le k l
     omega
    have hx:=fun W=>Kq l[k] W Yz
    have⟨HX,HSN,Of⟩:=gg! hx hsn NV
    have i1:(k:Int)<l.length:=a?
    have r3:(dZ (l.take k)).length+1<=maxLen:=m?
    have r4:((dZ (l.take k)).length+1)*16<=140737488355328:=a?
    unfold sa at HX
    clear hx hsn Yz
    generalize hCL:dZ (l.take k)=CL at*
    have S9:=tK hCL
    clear hCL
    generalize hcc:bE l[k]=cc at*
    have HCC:=tK hcc
    clear hcc
    obtain⟨⟨cx,cn⟩,ok⟩:=cc
    simp only at HX HSN
    cases ok with
    |false=>
     go_wp2_with fail
     refine(HX.out _).mono ?_;rintro e w2 ⟨rfl,k2⟩
     have K2:NP [] w w2:=(hK.alloc _).trans k2
     have To:=ax (MH NU _) k2 (fun x hx=>by cases hx)
     go_wp2_with fail
     go_roundw
     case rel=>exact⟨k+1,Of.out,j?,by rw[HSN.out];simpa using MH To _,K2.alloc _⟩
     case measure=>(have hh:=Of.out;simp[intOf];omega)
    |true=>
     obtain⟨p3,c3,rfl⟩:=ah NU
     go_wp2_with fail
     refine(HX.out _).mono ?_;rintro e w2 ⟨rfl,k2⟩
     have K2:NP [] w w2:=(hK.alloc _).trans k2
     have To:=ax (MH NU (.cells #[.int .i64 l[k].1,.int .i64 l[k].2] 128)) k2 (fun x hx=>by cases hx)
     have QG:=K2.size
     clear NU k2 c0 c1
     go_wp2_with (at_builtin;go_must (refine MT _ rfl (.tmp 24) (.tmp 26) 56 rfl w 128 i0 (.agg #[(0:Int),(0:Int)]) 2 16 underlying56 q0 q1 q2 q3 rfl d? _ _ _ rfl (MH (MH To _) _) (aa (w2+1) 0) 1 1 [.int .i64 cx,.int .i64 cn] rfl rfl ?_ ?_ r3 r4 ?_ ?_))
     .have RG:((w2.alloc (.cells #[cx,cn] 128)).alloc (.cells #[cx,cn] 128)).heap[w2.heap.size+1]? =some (.cells #[cx,cn] 128 (0,0)):=by
       have:=Ns (w2.alloc (.cells #[cx,cn] 128)) (.cells #[cx,cn] 128)
       rw[Nd]at this
       exact this
      exact World.news_of_block RG
     .intro u hu;simp at hu;rcases hu with rfl|rfl<;>rfl
     .simp;omega
     intro v6 w6 o6 Po _ _
     have k6:NP [] w w6:=((K2.alloc _).alloc _).grown Po (fun g hg=>Or.inr (ML To g hg).1)
     have Vn:=tK o6
     clear Po To o6
     go_wp2_with fail
     go_roundw
     case rel=>exact⟨k+1,Of.out,j?,by rw[HSN.out];simpa[bP]using Vn.out,k6⟩
     case measure=>(have hh:=Of.out;simp[intOf];omega)
   .obtain rfl:k=l.length:=a?
    rw[MU]at NU
    go_wp2_with fail
    go_meet
    exact⟨NU,hK⟩
 case rest=>
  have⟨NU,hK⟩:=hcut
  have Qg:=vx l
  have R7:=I0 w _ (dZ l) wc NU a?
  unfold hZ at R7
  obtain⟨N,hN⟩:∃N,N=(dZ l).length:=⟨_,rfl⟩
  rw[<-hN]at NU R7 Qg
  have HN:=tK hN
  clear hN
  have VH:=tK R7
  obtain⟨p3,c3,rfl⟩:=ah NU
  clear R7 NU
  go_wp2_with fail
  refine VH.out.mono ?_;rintro e w3 ⟨rfl,s,Qi,hris,Tb,k3⟩
  have K3:NP [] w w3:=by
   rcases Tb.2 with⟨e1,_⟩|⟨g,cap,cur,e1,hb,_⟩
   .exact hK.call (k3 [] (fun g hg=>by rw[e1]at hg;simp[Value.ownBlock]at hg)) (fun x hx=>by cases hx)
   .refine hK.call (k3 [g] (fun g' hg=>?_)) (fun x hx=>Or.inr ?_)
    .rw[e1]at hg
     have:g=g':=y!
     simp[this]
    .have hx:x=g:=h?
     omega
  have PX:N=s.length:=by rw[HN.out];exact Qi.length_eq.symm
  clear HN
  subst PX
  have hmp:=yC Qi hris
  have hrs:∀r∈s,0<=r.1/\1<=r.2/\r.1+r.2<=8192:=fun r hr=>vw (Qi.mem_iff.1 hr)
  have hmo:=fun k hk=>xu s hris hrs k hk
  have hS:=af.bB Tb
  have⟨HMP,HS,HMO,HRS⟩:=gh! hmp hS hmo hrs
  clear hS hmo hrs hmp Qi hris Tb k3 VH hK
  have afx:s.length<=1000000:=a?
  have j1:(s.length:Int)<=1000000:=a?
  have hw3:=K3.size
  go_wp2_with fail
  go_loopw [4,33] (fun v4 i wr=>∃k:Nat,k<=s.length/\i=(k:Int)/\wr.ownsRow w3 128 2 v4 (Pw s k).length (NW (Pw s k))/\NP [] w3 wr) (fun _ i _=>s.length-(intOf i).toNat)
  case atStart=>exact⟨0,a?,rfl,Nf _ _ _ _,NP.refl _ _⟩
  case round=>
   obtain⟨k,hk,rfl,NU,hK⟩:=hrel
   by_cases NV:k<s.length
   .obtain⟨sb,soff,rfl,c0,c1,hb,hlc,PT⟩:=(HS.out.kept0 hK).at_ k NV
    have⟨r1,r2,r3⟩:=HRS.out s[k] (MJ _)
    have VZ:=lE s k NV
    have Xd:=yD s k
    have⟨Z7,Of⟩:=f? VZ NV
    have i1:(k:Int)<s.length:=a?
    have Rq:=(HMO.out k hk).pl
    have Rf:=tK Rq
    clear VZ Rq
    generalize hM:Pw s k=M at*
    have HM:=tK hM
    clear hM
    generalize s[k]=r at*
    have q3':M.length+1<=maxLen:=m?
    have q4':(M.length+1)*16<=140737488355328:=a?
    have hKa:=hK.alloc (.cells #[r.1,r.2] 128)
    have QG:=hK.size
    rcases List.eq_nil_or_concat M with e|⟨I,q,e⟩
    .subst e
     rw[pD]at Z7
     obtain⟨p4,c4,rfl⟩:=ah NU
     go_wp2_with fail
     go_quiet (fail)
     go_wp2_with (at_builtin;go_must (refine MT _ rfl (.tmp 83) (.tmp 85) 56 rfl w3 128 i0 (.agg #[(0:Int),(0:Int)]) 2 16 underlying56 q0 q1 q2 q3 rfl d? _ _ _ rfl (MH (bK (MH NU _) _) _) (aa (wr+1) 0) 1 1 [.int .i64 r.1,.int .i64 r.2] rfl rfl ?_ ?_ q3' q4' ?_ ?_))
     .have RG:(((wr.alloc (.cells #[r.1,r.2] 128)).drewN nq).alloc (.cells #[r.1,r.2] 128)).heap[wr.heap.size+1]? =some (.cells #[r.1,r.2] 128 (0,0)):=by
       exact adp
      exact World.news_of_block RG
     .intro u hu;simp at hu;rcases hu with rfl|rfl<;>rfl
     .simp;omega
     intro v6 w6 o6 Po _ _
     have k6:NP [] w3 w6:=((hKa.drewN _).alloc _).grown Po (fun g hg=>Or.inr (ML NU g hg).1)
     have Vn:=tK o6
     clear Po NU o6
     go_wp2_with fail
     go_roundw
     case rel=>exact⟨k+1,Of.out,j?,by rw[Z7.out];simpa[NW]using Vn.out,k6⟩
     case measure=>(have hh:=Of.out;simp[intOf];omega)
    .rw[List.concat_eq_append]at e
     subst e
     have abT:(I++[q]).length=I.length+1:=b?
     rw[abT]at NU q3' q4' Xd
     obtain⟨g,c4,rfl,TI,UK,hg3,hg4,U0⟩:=cU NU a?
     have⟨u1,u2⟩:=mI I q
     have e0:=U0 _ _ u1
     have e1:=U0 _ _ u2
     have⟨p1,p2,p3,p4,p5⟩:=Rf.out.init
     have i2:(I.length:Int)<=1000000:=a?
     clear U0 u1 u2 abT
     by_cases hc:r.1<=q.1+q.2
     .rw[rE hc]at Z7
      have z1:=World.ownsRow.frozenAt NU (I.length*2+1)
      rcases(by omega:q.2<=r.1+r.2-q.1\/r.1+r.2-q.1<q.2)with hm|hm
      .have ZA:max q.2 (r.1+r.2-q.1)=r.1+r.2-q.1:=a?
       rw[ZA]at Z7
       go_wp2_with fail
       go_quiet (fail)
       go_wp2_with fail
       go_region
       all_goals
        have Oo:=(World.ownsRow.stored NU (I.length*2+1) (r.1+r.2-q.1:Int)).1
        rw[show q=(q.1,q.2)from rfl,iE]at Oo
        have e9:(I++[(q.1,r.1+r.2-q.1)]).length=I.length+1:=b?
        have OY:=tK Oo
        have WD:=(hKa.drewN (nq+1)).setCell (p:=(aa g (I.length*2+1))) (Or.inr TI) (r.1+r.2-q.1:Int)
        have RK:=(World.ownsRow.stored (bK (MH NU (.cells #[r.1,r.2] 128)) (nq+1)) (I.length*2+1) (r.1+r.2-q.1:Int)).1
        rw[show q=(q.1,q.2)from rfl,iE]at RK
        have HR9:=tK RK
        clear Oo NU RK
        go_wp2_with fail
        go_roundw
        case rel=>exact⟨k+1,Of.out,j?,by rw[Z7.out,e9];exact HR9.out,WD⟩
        case measure=>(have hh:=Of.out;simp[intOf];omega)
      .have ZA:max q.2 (r.1+r.2-q.1)=q.2:=a?
       rw[ZA]at Z7
       go_wp2_with fail
       go_quiet (fail)
       go_wp2_with fail
       go_region
       all_goals
        have Oo:=(World.ownsRow.stored NU (I.length*2+1) (q.2:Int)).1
        rw[show q=(q.1,q.2)from rfl,iE]at Oo
        have e9:(I++[(q.1,q.2)]).length=I.length+1:=b?
        have OY:=tK Oo
        have WD:=(hKa.drewN (nq+1)).setCell (p:=(aa g (I.length*2+1))) (Or.inr TI) (q.2:Int)
        have RK:=(World.ownsRow.stored (bK (MH NU (.cells #[r.1,r.2] 128)) (nq+1)) (I.length*2+1) (q.2:Int)).1
        rw[show q=(q.1,q.2)from rfl,iE]at RK
        have HR9:=tK RK
        clear Oo NU RK
        go_wp2_with fail
        go_roundw
        case rel=>exact⟨k+1,Of.out,j?,by rw[Z7.out,e9];exact HR9.out,WD⟩
        case measure=>(have hh:=Of.out;simp[intOf];omega)
     .rw[rF hc]at Z7
      go_wp2_with fail
      go_quiet (fail)
      go_wp2_with (at_builtin;go_must (refine MT _ rfl (.tmp 83) (.tmp 85) 56 rfl w3 128 i0 (.agg #[(0:Int),(0:Int)]) 2 16 underlying56 q0 q1 q2 q3 rfl d? _ _ _ rfl (MH (bK (MH NU _) _) _) (aa (wr+1) 0) 1 1 [.int .i64 r.1,.int .i64 r.2] rfl rfl ?_ ?_ q3' q4' ?_ ?_))
      .have RG:(((wr.alloc (.cells #[r.1,r.2] 128)).drewN nq).alloc (.cells #[r.1,r.2] 128)).heap[wr.heap.size+1]? =some (.cells #[r.1,r.2] 128 (0,0)):=by
        exact adp
       exact World.news_of_block RG
      .intro u hu;simp at hu;rcases hu with rfl|rfl<;>rfl
      .simp;omega
      intro v6 w6 o6 Po _ _
      have k6:NP [] w3 w6:=((hKa.drewN _).alloc _).grown Po (fun g hg=>Or.inr (ML NU g hg).1)
      have o7:w6.ownsRow w3 128 2 v6 (I++[q]++[r]).length (NW (I++[q]++[r])):=by
       have e9:(I++[q]++[r]).length=I.length+1+1:=b?
       rw[bP (I++[q]) r,e9];exact o6
      have HO7:=tK o7
      clear Po NU o6 o7
      go_wp2_with fail
      go_roundw
      case rel=>exact⟨k+1,Of.out,j?,by rw[Z7.out];exact HO7.out,k6⟩
      case measure=>(have hh:=Of.out;simp[intOf];omega)
   .obtain rfl:k=s.length:=a?
    rw[HMP.out]at NU
    have HR:=tK NU
    clear NU
    go_wp2_with fail
    go_ret
    exact⟨_,rfl,aF HR.out hw3,K3.trans hK⟩
structure qe (x y out:List (Int×Int)) (i k:Nat):Prop where
 hi:i<=x.length
 hk:k<=y.length
 pl:Pl 0 out
 is:∃T:Int,(∀j,bZ out j↔bZ x j/\bZ y j/\j<T)/\(∀j,T<=j->bZ x j->bZ (x.drop i) j)/\(∀j,T<=j->bZ y j->bZ (y.drop k) j)
 gap:∀r∈out,(∀q∈x.drop i,r.1+r.2+1<=q.1)\/(∀q∈y.drop k,r.1+r.2+1<=q.1)
theorem DP (hx:Pl 0 x) (_:Pl 0 y):qe x y [] 0 0:=
 ⟨Nb _,Nb _,trivial,⟨0,fun j=>⟨fun h=>absurd h (dU j),fun⟨h1,_,h2⟩=>by have:=(hx.ge h1).1;omega⟩,fun j _ h=>h,fun j _ h=>h⟩,fun r hr=>by cases hr⟩
theorem qK {i} {q:Int×Int} (h:q∈l.drop (i+1)):q∈l.drop i:=by
 rw[<-List.drop_drop]at h
 exact NF h
theorem uo (hx:Pl 0 x) {i} (hi:i<x.length) {q:Int×Int} (h:q∈x.drop (i+1)):x[i].1+x[i].2+1<=q.1:=((hx.next i hi).mem h).1
theorem ug {i} (hi:i<x.length) (j):bZ (x.drop i) j↔(x[i].1<=j/\j<x[i].1+x[i].2)\/bZ (x.drop (i+1)) j:=by
 rw[List.drop_eq_getElem_cons hi,de]
theorem kJ (hx:Pl 0 x) {i} (hi:i<x.length):0<=x[i].1/\1<=x[i].2/\x[i].1+x[i].2<=8192:=hx.mem (MJ hi)
theorem Gc {x y out i k} (hx:Pl 0 x) (hy:Pl 0 y) (h:qe x y out i k) (hi:i<x.length) (hk:k<y.length) (lo hi') (elo:lo=max x[i].1 y[k].1) (ehi:hi'=min (x[i].1+x[i].2) (y[k].1+y[k].2)) (i' k') (hik:(x[i].1+x[i].2=hi'/\i'=i+1/\k'=k)\/(x[i].1+x[i].2≠hi'/\i'=i/\k'=k+1)):qe x y (if lo<hi' then out++[(lo,hi'-lo)]else out) i' k':=by
 obtain⟨a1,a2,a3⟩:=kJ hx hi
 obtain⟨b1,b2,b3⟩:=kJ hy hk
 obtain⟨_,_,pl,⟨T,h1,h2,h3⟩,gap⟩:=h
 have dx:=fun j=>ug hi j
 have dy:=fun j=>ug hk j
 have gx:∀j,bZ (x.drop (i+1)) j->x[i].1+x[i].2+1<=j:=fun j hj=>((hx.next i hi).ge hj).1
 have gy:∀j,bZ (y.drop (k+1)) j->y[k].1+y[k].2+1<=j:=fun j hj=>((hy.next k hk).ge hj).1
 have hxm:∀j,x[i].1<=j->j<x[i].1+x[i].2->bZ x j:=fun j p q=>⟨x[i],MJ hi,p,q⟩
 have hym:∀j,y[k].1<=j->j<y[k].1+y[k].2->bZ y j:=fun j p q=>⟨y[k],MJ hk,p,q⟩
 have xi0:x[i]∈x.drop i:=by rw[List.drop_eq_getElem_cons hi];exact MY
 have yk0:y[k]∈y.drop k:=by rw[List.drop_eq_getElem_cons hk];exact MY
 have mx:∀q,q∈x.drop i'->q∈x.drop i:=by
  rcases hik with⟨_,rfl,_⟩|⟨_,rfl,_⟩
  .exact fun q hq=>qK hq
  .exact fun q hq=>hq
 have my:∀q,q∈y.drop k'->q∈y.drop k:=by
  rcases hik with⟨_,_,rfl⟩|⟨_,_,rfl⟩
  .exact fun q hq=>hq
  .exact fun q hq=>qK hq
 have ngap:(∀q∈x.drop i',hi'+1<=q.1)\/(∀q∈y.drop k',hi'+1<=q.1):=by
  rcases hik with⟨e,rfl,_⟩|⟨e,_,rfl⟩
  .exact Or.inl (fun q hq=>by have:=uo hx hi hq;omega)
  .exact Or.inr (fun q hq=>by have:=uo hy hk hq;omega)
 have ex:∀j,max T hi'<=j->bZ x j->bZ (x.drop i') j:=by
  intro j hj hin
  have hd:=h2 j a? hin
  rcases hik with⟨e,rfl,_⟩|⟨e,rfl,_⟩
  .rcases(dx j).1 hd with⟨_,q⟩|q
   .omega
   .exact q
  .exact hd
 have ey:∀j,max T hi'<=j->bZ y j->bZ (y.drop k') j:=by
  intro j hj hin
  have hd:=h3 j a? hin
  rcases hik with⟨e,_,rfl⟩|⟨e,_,rfl⟩
  .exact hd
  .rcases(dy j).1 hd with⟨_,q⟩|q
   .omega
   .exact q
 have hii:i'<=x.length/\k'<=y.length:=by rcases hik with⟨_,rfl,rfl⟩|⟨_,rfl,rfl⟩<;>omega
 have back:∀j,bZ x j->bZ y j->T<=j->j<hi'->lo<=j:=by
  intro j p q r s
  have p2:=h2 j r p
  have q2:=h3 j r q
  have p3:x[i].1<=j:=by
   rcases(dx j).1 p2 with⟨p3,_⟩|p3
   .exact p3
   .have:=gx j p3;omega
  have q3:y[k].1<=j:=by
   rcases(dy j).1 q2 with⟨q3,_⟩|q3
   .exact q3
   .have:=gy j q3;omega
  omega
 by_cases hlt:lo<hi'
 .rw[if_pos hlt]
  refine⟨hii.1,hii.2,?_,⟨max T hi',fun j=>?_,ex,ey⟩,?_⟩
  .refine pl.snoc a? a? a? (fun r hr=>?_)
   grind
  .grind [cA,eW]
  grind
 .rw[if_neg hlt]
  refine⟨hii.1,hii.2,pl,⟨max T hi',fun j=>?_,ex,ey⟩,?_⟩
  .grind
  grind
theorem Iz {a b out:List (Int×Int)} {i k:Nat} (h:qe (OO a) (OO b) out i k) (he:i=(OO a).length\/k=(OO b).length):out=uq a b:=by
 obtain⟨_,_,pl,⟨T,h1,h2,h3⟩,_⟩:=h
 refine lL pl (fun m hm=>?_)
 rw[h1]
 have ea:bZ (OO a) m↔OE a m=true:=by rw[<-dr];unfold OO;rw[jZ _ m hm]
 have eb:bZ (OO b) m↔OE b m=true:=by rw[<-dr];unfold OO;rw[jZ _ m hm]
 rw[No,<-ea,<-eb]
 grind [dU]
end
section
open Go.Proofs.Tryz Go.RowKit
variable {w:World} {A:Prop} {a:Int} {l p:List (Int×Int)}
theorem Nx:type_of% @List.getD_eq_getElem?_getD:=@List.getD_eq_getElem?_getD
theorem Nq:type_of% @List.length_singleton:=@List.length_singleton
theorem Nl:type_of% @beq_eq_false_iff_ne:=@beq_eq_false_iff_ne
theorem lX {P:Program} {a} {Q:Exit->Act->World->Prop} {c rest:Code} (l) (J:Act->World->Prop) (μ:Act->World->Nat) (hf:findLabel c l=some (Code.skip.seq rest)) (pass:∀a w,J a w->rest.wp P (Exit.jump l (fun a' w'=>J a' w'/\μ a' w'<μ a w) Q) a w) (first:(∀a w,J a w->rest.wp P (Exit.jump l J Q) a w)->c.wp P (Exit.jump l J Q) a w):(Code.scope c).wp P Q a w:=
 wp_scope_jumps l J μ hf (first (fun a w h=>wp_mono (pass a w h) (fun e a' w' he=>by
  cases e with
  |goto l'=>exact⟨he.1,he.2.1⟩
  |_=>exact he))) (fun a w h=>wp_seq (wp_skip (pass a w h)))
theorem lH (x0 x1 x2 x3 x4 x5 x6 x7 x8 x9 x10 x11 x12 x13 x14 x15 x16 x17 x18 x19 x20 x21 x22 x23 x24 x25 x26 x27 x28 x29 x30 x31 x32 x33 x34 x35 x36 x37 x38 x39 x40 x41 x42 x43 x44 x45 x46 x47 x48 x49 x50 x51 x52 x53 x54 x55 x56 x57 x58 x59 x60 x61 x62 x63 x64 x65 x66 x67 x68 x69 x70 x71 x72 x73 x74 x75 x76 x77 x78 x79 x80 x81 x82 x83 x84 x85 x86 x87 x88):∃u:Nat->Value,({tmps:=#[x0,x1,x2,x3,x4,x5,x6,x7,x8,x9,x10,x11,x12,x13,x14,x15,x16,x17,x18,x19,x20,x21,x22,x23,x24,x25,x26,x27,x28,x29,x30,x31,x32,x33,x34,x35,x36,x37,x38,x39,x40,x41,x42,x43,x44,x45,x46,x47,x48,x49,x50,x51,x52,x53,x54,x55,x56,x57,x58,x59,x60,x61,x62,x63,x64,x65,x66,x67,x68,x69,x70,x71,x72,x73,x74,x75,x76,x77,x78,x79,x80,x81,x82,x83,x84,x85,x86,x87,x88],defers:=[]}:Act)={tmps:=#[x0,x1,x2,x3,x4,x5,x6,x7,x8,x9,(u 10),(u 11),(u 12),(u 13),(u 14),(u 15),(u 16),(u 17),(u 18),(u 19),(u 20),(u 21),(u 22),(u 23),(u 24),(u 25),(u 26),(u 27),(u 28),(u 29),(u 30),(u 31),(u 32),(u 33),(u 34),(u 35),(u 36),(u 37),(u 38),(u 39),(u 40),(u 41),(u 42),(u 43),(u 44),(u 45),(u 46),(u 47),(u 48),(u 49),(u 50),(u 51),(u 52),(u 53),(u 54),(u 55),(u 56),(u 57),(u 58),(u 59),(u 60),(u 61),(u 62),(u 63),(u 64),(u 65),(u 66),(u 67),(u 68),(u 69),(u 70),(u 71),(u 72),(u 73),(u 74),(u 75),(u 76),(u 77),(u 78),(u 79),(u 80),(u 81),(u 82),(u 83),(u 84),(u 85),(u 86),(u 87),(u 88)],defers:=[]}:=
 ⟨fun n=>[x0,x1,x2,x3,x4,x5,x6,x7,x8,x9,x10,x11,x12,x13,x14,x15,x16,x17,x18,x19,x20,x21,x22,x23,x24,x25,x26,x27,x28,x29,x30,x31,x32,x33,x34,x35,x36,x37,x38,x39,x40,x41,x42,x43,x44,x45,x46,x47,x48,x49,x50,x51,x52,x53,x54,x55,x56,x57,x58,x59,x60,x61,x62,x63,x64,x65,x66,x67,x68,x69,x70,x71,x72,x73,x74,x75,x76,x77,x78,x79,x80,x81,x82,x83,x84,x85,x86,x87,x88].getD n undef,rfl⟩
def Mz (w:World) (x y:List (Int×Int)) (pa:Option Addr) (al ac:Nat) (pb:Option Addr) (bl bc:Nat) (a':Act) (w':World):Prop:=
 ∃(W:World) (px:Option Addr) (cx:Nat) (py:Option Addr) (cy i k:Nat) (out:List (Int×Int)) (v7:Value),(∃u:Nat->Value,a'={tmps:=#[.slice pa al ac,.slice pb bl bc,undef,undef,.slice none 0 0,.slice px x.length cx,.slice py y.length cy,v7,.int .i64 i,.int .i64 k,(u 10),(u 11),(u 12),(u 13),(u 14),(u 15),(u 16),(u 17),(u 18),(u 19),(u 20),(u 21),(u 22),(u 23),(u 24),(u 25),(u 26),(u 27),(u 28),(u 29),(u 30),(u 31),(u 32),(u 33),(u 34),(u 35),(u 36),(u 37),(u 38),(u 39),(u 40),(u 41),(u 42),(u 43),(u 44),(u 45),(u 46),(u 47),(u 48),(u 49),(u 50),(u 51),(u 52),(u 53),(u 54),(u 55),(u 56),(u 57),(u 58),(u 59),(u 60),(u 61),(u 62),(u 63),(u 64),(u 65),(u 66),(u 67),(u 68),(u 69),(u 70),(u 71),(u 72),(u 73),(u 74),(u 75),(u 76),(u 77),(u 78),(u 79),(u 80),(u 81),(u 82),(u 83),(u 84),(u 85),(u 86),(u 87),(u 88)],defers:=[]})/\af W (.slice px x.length cx) x w.heap.size W.heap.size/\af W (.slice py y.length cy) y w.heap.size W.heap.size/\NP [] w W/\qe x y out i k/\w'.ownsRow W.heap.size 128 2 v7 out.length (NW out)/\NP [] W w'
def r9 (x y:List (Int×Int)) (a':Act) (_:World):Nat:=x.length+y.length-(intOf (a'.tmps.getD 8 undef)).toNat-(intOf (a'.tmps.getD 9 undef)).toNat
theorem ady (h:A:=by
 clear aah NU hI
 go_wp2_with fail
 simp only[Exit.jump]
 go_ret
 exact⟨_,rfl,by rw[<-acR.out];exact aF HR.out hWs,hKK⟩):A:=h
theorem M36 {A:Prop}(h:A:=by
 have HO7:=tK o7
 have a0:=(k6.cell (a:=(aa bx (ox+i*2))) aj! b?).trans WC.out.1
 have a1:=(k6.cell (a:=(aa bx (ox+i*2+1))) aj! b?).trans WC.out.2
 obtain⟨p8,c8,rfl⟩:=ah o7
 clear Po NU o6 o7
 go_wp2_with fail
 go_quiet (fail)
 go_wp2_with fail
 go_step3
 refine⟨rfl,⟨W,_,cx,_,cy,i,k+1,_,_,(lH ..),Zy.out,HYY.out,hKW,Ys.out,bK HO7.out _,k6.drewN _⟩,?_⟩
 have hh:=Of.out
 simp[r9,intOf];(try omega)):A:=h
theorem M35 {A:Prop}(h:A:=by
 have HO7:=tK o7
 have a0:=(k6.cell (a:=(aa bx (ox+i*2))) aj! b?).trans WC.out.1
 have a1:=(k6.cell (a:=(aa bx (ox+i*2+1))) aj! b?).trans WC.out.2
 obtain⟨p8,c8,rfl⟩:=ah o7
 clear Po NU o6 o7
 go_wp2_with fail
 go_quiet (fail)
 go_wp2_with fail
 go_step3
 refine⟨rfl,⟨W,_,cx,_,cy,i+1,k,_,_,(lH ..),Zy.out,HYY.out,hKW,Ys.out,bK HO7.out _,k6.drewN _⟩,?_⟩
 have hh:=Of.out
 simp[r9,intOf];(try omega)):A:=h
theorem G6 (va la loa hia vb lb lob Rr w) (ha:af w va la loa hia) (hb:af w vb lb lob Rr) (Yb:la.length<=1000000) (US:lb.length<=1000000) (Yz:∀a∈la,aQ a) (Rp:∀a∈lb,aQ a):
  am! 166 #[va,vb] w (bh (uq la lb) w):=by
 have hpa:=fun W h=>oK va la loa hia W h Yb Yz
 have ZC:=fun W h=>oK vb lb lob Rr W h US Rp
 have⟨HPA,YL⟩:=f? hpa ZC
 obtain⟨pa,ac,rfl⟩:=ha.shape
 obtain⟨pb,bc,rfl⟩:=hb.shape
 have⟨i0,q0,q1,q2,q3⟩:=eV
 have⟨HA,HB⟩:=f? ha hb
 have Ph:=fun out i k=>Iz (a:=la) (b:=lb) (out:=out) (i:=i) (k:=k)
 have Wn:Pl 0 (OO la):=dV _
 have hpy:Pl 0 (OO lb):=dV _
 have⟨Qd,XZ,HPY⟩:=gg! Ph Wn hpy
 have hlx:=Wn.gX
 have hly:=hpy.gX
 clear hpa ZC ha hb Ph Wn hpy Yb US Yz Rp
 unfold bh at HPA YL ⊢
 generalize OO la=x at*
 generalize OO lb=y at*
 generalize la.length=al at*
 generalize lb.length=bl at*
 go_enter func166,ntmps166
 go_wp2_with fail
 refine lX 0 (Mz w x y pa al ac pb bl bc) (r9 x y) rfl ?_ ?_
 .rintro a' w' ⟨W,px,cx,py,cy,i,k,out,v7,⟨u,rfl⟩,hX,hY,hKW,hI,NU,hK⟩
  have hKK:=hKW.trans hK
  have hWs:=hKW.size
  have hol:=hI.pl.gX
  rcases(by have:=hI.hi;have:=hI.hk;omega:i=x.length\/(i<x.length/\k=y.length)\/(i<x.length/\k<y.length))with hx|⟨hx,hy⟩|⟨hx,hy⟩
  .have aah:=Qd.out out i k hI (Or.inl hx)
   subst hx
   have⟨acR,HR⟩:=f? aah NU
   exact ady
  .have aah:=Qd.out out i k hI (Or.inr hy)
   subst hy
   have⟨acR,HR⟩:=f? aah NU
   have i1:¬((i:Int)=x.length):=a?
   have i2:((i:Int)==x.length)=false:=y?
   exact ady
  .obtain⟨bx,ox,rfl,wa0,wa1,hbx,_,_⟩:=hX.at_ i hx
   obtain⟨by_,oy,rfl,wb0,wb1,XN,_,_⟩:=hY.at_ k hy
   have i1:((i:Int)==x.length)=false:=y?
   have i2:((k:Int)==y.length)=false:=y?
   have i3:(i:Int)<x.length:=a?
   have i4:(k:Int)<y.length:=a?
   have⟨p1,p2,p3⟩:=kJ XZ.out hx
   have⟨p4,p5,p6⟩:=kJ HPY.out hy
   have Oo:=fun lo hi elo ehi i' k' hik=>Gc XZ.out HPY.out hI hx hy lo hi elo ehi i' k' hik
   have⟨OY,Zy,HYY⟩:=gg! Oo hX hY
   have Of:Hid (i<x.length/\k<y.length):=⟨hx,hy⟩
   have r3:out.length+1<=maxLen:=m?
   have r4:(out.length+1)*16<=140737488355328:=a?
   clear Oo hX hY hI
   generalize x[i].1=A0 at*
   generalize x[i].2=An at*
   generalize y[k].1=B0 at*
   generalize y[k].2=Bn at*
   clear hx hy
   have WC:Hid (W.cell? (aa bx (ox+i*2))=A0/\W.cell? (aa bx (ox+i*2+1))=An):=⟨wa0,wa1⟩
   have a0:=(hK.cell (a:=(aa bx (ox+i*2))) aj! b?).trans wa0
   have a1:=(hK.cell (a:=(aa bx (ox+i*2+1))) aj! b?).trans wa1
   have b0:=(hK.cell (a:=(aa by_ (oy+k*2))) (by exact XN) b?).trans wb0
   have b1:=(hK.cell (a:=(aa by_ (oy+k*2+1))) (by exact XN) b?).trans wb1
   clear wa0 wa1 wb0 wb1
   obtain⟨lo,hlo⟩:∃lo,lo=max A0 B0:=⟨_,rfl⟩
   obtain⟨hi,WL⟩:∃hi,hi=min (A0+An) (B0+Bn):=⟨_,rfl⟩
   have RH:=OY.out lo hi hlo WL
   have TK:=tK RH
   clear OY RH
   obtain⟨p7,c7,rfl⟩:=ah NU
   rcases(by omega:(A0<=B0/\lo=B0)\/(B0<A0/\lo=A0))with⟨h1,e1⟩|⟨h1,e1⟩
   all_goals rcases(by omega:(A0+An<=B0+Bn/\hi=A0+An)\/(B0+Bn<A0+An/\hi=B0+Bn))with⟨h2,e2⟩|⟨h2,e2⟩
   all_goals clear hlo WL
   all_goals subst lo
   all_goals subst hi
   .have P7:=TK.out (i+1) k (Or.inl ⟨rfl,rfl,rfl⟩)
    have Ty:max A0 B0=B0:=a?
    have QL:min (A0+An) (B0+Bn)=A0+An:=a?
    by_cases NV:B0<A0+An
    .rw[if_pos NV]at P7
     have Ys:=tK P7
     clear P7 TK
     go_wp2_with fail
     go_quiet (fail)
     go_wp2_with (at_builtin;go_must (refine MT _ rfl (.tmp 64) (.tmp 70) 56 rfl W 128 i0 (.agg #[(0:Int),(0:Int)]) 2 16 underlying56 q0 q1 q2 q3 rfl d? _ _ _ rfl (MH (bK NU _) _) w' 1 1 [.int .i64 (B0),.int .i64 (A0+An-B0)] rfl rfl ?_ ?_ r3 r4 ?_ ?_))
     .exact World.news_of_block (Ns (w'.drewN nq) (.cells #[(B0:Int),(A0+An-B0:Int)] 128))
     .intro u hu;simp at hu;rcases hu with rfl|rfl<;>rfl
     .have:=hK.size;simp;omega
     intro v6 w6 o6 Po _ _
     have k6:NP [] W w6:=((hK.drewN _).alloc _).grown Po (fun g hg=>Or.inr (ML NU g hg).1)
     have o7:w6.ownsRow W 128 2 v6 (out++[(B0,A0+An-B0)]).length (NW (out++[(B0,A0+An-B0)])):=by
      rw[bP,tN,Nq];exact o6
     exact M35
    .rw[if_neg NV]at P7
     have⟨Ys,Up⟩:=f? P7 NU
     clear P7 TK NU
     go_wp2_with fail
     go_quiet (fail)
     go_wp2_with fail
     go_quiet (fail)
     go_wp2_with fail
     go_step3
     refine⟨rfl,⟨W,_,cx,_,cy,i+1,k,_,_,(lH ..),Zy.out,HYY.out,hKW,Ys.out,bK Up.out _,hK.drewN _⟩,?_⟩
     have hh:=Of.out
     simp[r9,intOf];(try omega)
   .have P7:=TK.out i (k+1) (Or.inr ⟨a?,rfl,rfl⟩)
    have Ty:max A0 B0=B0:=a?
    have QL:min (A0+An) (B0+Bn)=B0+Bn:=a?
    have i5:(A0+An==B0+Bn)=false:=y?
    by_cases NV:B0<B0+Bn
    .rw[if_pos NV]at P7
     have Ys:=tK P7
     clear P7 TK
     go_wp2_with fail
     go_quiet (fail)
     go_wp2_with (at_builtin;go_must (refine MT _ rfl (.tmp 64) (.tmp 70) 56 rfl W 128 i0 (.agg #[(0:Int),(0:Int)]) 2 16 underlying56 q0 q1 q2 q3 rfl d? _ _ _ rfl (MH (bK NU _) _) w' 1 1 [.int .i64 (B0),.int .i64 (B0+Bn-B0)] rfl rfl ?_ ?_ r3 r4 ?_ ?_))
     .exact World.news_of_block (Ns (w'.drewN nq) (.cells #[(B0:Int),(B0+Bn-B0:Int)] 128))
     .intro u hu;simp at hu;rcases hu with rfl|rfl<;>rfl
     .have:=hK.size;simp;omega
     intro v6 w6 o6 Po _ _
     have k6:NP [] W w6:=((hK.drewN _).alloc _).grown Po (fun g hg=>Or.inr (ML NU g hg).1)
     have o7:w6.ownsRow W 128 2 v6 (out++[(B0,B0+Bn-B0)]).length (NW (out++[(B0,B0+Bn-B0)])):=by
      rw[bP,tN,Nq];exact o6
     exact M36
    .exfalso;omega
   .have P7:=TK.out (i+1) k (Or.inl ⟨rfl,rfl,rfl⟩)
    have Ty:max A0 B0=A0:=a?
    have QL:min (A0+An) (B0+Bn)=A0+An:=a?
    by_cases NV:A0<A0+An
    .rw[if_pos NV]at P7
     have Ys:=tK P7
     clear P7 TK
     go_wp2_with fail
     go_quiet (fail)
     go_wp2_with (at_builtin;go_must (refine MT _ rfl (.tmp 64) (.tmp 70) 56 rfl W 128 i0 (.agg #[(0:Int),(0:Int)]) 2 16 underlying56 q0 q1 q2 q3 rfl d? _ _ _ rfl (MH (bK NU _) _) w' 1 1 [.int .i64 (A0),.int .i64 (A0+An-A0)] rfl rfl ?_ ?_ r3 r4 ?_ ?_))
     .exact World.news_of_block (Ns (w'.drewN nq) (.cells #[(A0:Int),(A0+An-A0:Int)] 128))
     .intro u hu;simp at hu;rcases hu with rfl|rfl<;>rfl
     .have:=hK.size;simp;omega
     intro v6 w6 o6 Po _ _
     have k6:NP [] W w6:=((hK.drewN _).alloc _).grown Po (fun g hg=>Or.inr (ML NU g hg).1)
     have o7:w6.ownsRow W 128 2 v6 (out++[(A0,A0+An-A0)]).length (NW (out++[(A0,A0+An-A0)])):=by
      rw[bP,tN,Nq];exact o6
     exact M35
    .exfalso;omega
   .have P7:=TK.out i (k+1) (Or.inr ⟨a?,rfl,rfl⟩)
    have Ty:max A0 B0=A0:=a?
    have QL:min (A0+An) (B0+Bn)=B0+Bn:=a?
    have i5:(A0+An==B0+Bn)=false:=y?
    by_cases NV:A0<B0+Bn
    .rw[if_pos NV]at P7
     have Ys:=tK P7
     clear P7 TK
     go_wp2_with fail
     go_quiet (fail)
     go_wp2_with (at_builtin;go_must (refine MT _ rfl (.tmp 64) (.tmp 70) 56 rfl W 128 i0 (.agg #[(0:Int),(0:Int)]) 2 16 underlying56 q0 q1 q2 q3 rfl d? _ _ _ rfl (MH (bK NU _) _) w' 1 1 [.int .i64 (A0),.int .i64 (B0+Bn-A0)] rfl rfl ?_ ?_ r3 r4 ?_ ?_))
     .exact World.news_of_block (Ns (w'.drewN nq) (.cells #[(A0:Int),(B0+Bn-A0:Int)] 128))
     .intro u hu;simp at hu;rcases hu with rfl|rfl<;>rfl
     .have:=hK.size;simp;omega
     intro v6 w6 o6 Po _ _
     have k6:NP [] W w6:=((hK.drewN _).alloc _).grown Po (fun g hg=>Or.inr (ML NU g hg).1)
     have o7:w6.ownsRow W 128 2 v6 (out++[(A0,B0+Bn-A0)]).length (NW (out++[(A0,B0+Bn-A0)])):=by
      rw[bP,tN,Nq];exact o6
     exact M36
    .rw[if_neg NV]at P7
     have⟨Ys,Up⟩:=f? P7 NU
     clear P7 TK NU
     go_wp2_with fail
     go_quiet (fail)
     go_wp2_with fail
     go_quiet (fail)
     go_wp2_with fail
     go_step3
     refine⟨rfl,⟨W,_,cx,_,cy,i,k+1,_,_,(lH ..),Zy.out,HYY.out,hKW,Ys.out,bK Up.out _,hK.drewN _⟩,?_⟩
     have hh:=Of.out
     simp[r9,intOf];(try omega)
 .intro U7
  have Y3:=tK U7
  clear U7
  go_wp2_with fail
  refine(HPA.out _ HA.out).mono ?_;rintro e w1 ⟨v1,rfl,r1,k1⟩
  obtain⟨px,cx,rfl⟩:=ah r1
  have hX1:=af.bB r1
  have Ub:=tK hX1
  clear r1 hX1
  go_wp2_with fail
  refine(YL.out _ (HB.out.kept0 k1)).mono ?_;rintro e w2 ⟨v2,rfl,r2,k2⟩
  obtain⟨py,cy,rfl⟩:=ah r2
  have hY2:=(af.bB r2).weaken (lo':=w.heap.size) (hi':=w2.heap.size) k1.size (MG _) (MG _)
  have hX2:=(Ub.out.kept0 k2).weaken (lo':=w.heap.size) (hi':=w2.heap.size) (MG _) k2.size (MG _)
  have⟨HX2,HY2⟩:=f? hX2 hY2
  have hKW:=k1.trans k2
  clear r2 hY2 hX2 Ub
  go_wp2_with fail
  go_step3
  rename_i hcont
  refine hcont _ _ (Y3.out _ _ ⟨w2,px,cx,py,cy,0,0,[],(),lH ..,HX2.out,HY2.out,hKW,DP XZ.out HPY.out,Nf _ _ _ _,NP.refl _ _⟩)
theorem Pl.sum (h:Pl a l) (ha:a<=8193):0<=NZ l/\NZ l<=8193-a:=by
 induction l generalizing a with
 |nil=>simp[NZ];omega
 |cons r t ih=>
  have⟨h1,h2,h3,h4⟩:=h
  have:=ih h4 a?
  have e:NZ (r::t)=r.2+NZ t:=by simp[NZ]
  rw[e];omega
theorem Pl.take (h:Pl a l) (k):Pl a (l.take k):=by
 induction k generalizing l a with
 |zero=>trivial
 |succ k ih=>
  cases l with
  |nil=>trivial
  |cons r t=>have⟨h1,h2,h3,h4⟩:=h;exact⟨h1,h2,h3,ih h4⟩
theorem BU (v l lo hi w) (h:af w v l lo hi) (hl:l.length<=1000000) (Pj:∀a∈l,aQ a):
  am! 65 #[v] w fun e w'=>e=(OV l:Int)/\NP [] w w':=by
 have hp:=oK v l lo hi w h hl Pj
 have Qe:=uP l
 have Rq:Pl 0 (OO l):=dV _
 have hlen:=Rq.gX
 obtain⟨p,c,rfl⟩:=h.shape
 unfold bh at hp
 have⟨HP,aed,Rf⟩:=gg! hp Qe Rq
 clear hp Qe Rq h Pj
 generalize OO l=x at*
 generalize OV l=n at*
 go_enter func65,ntmps65
 go_wp2_with fail
 refine HP.out.mono ?_;rintro e w1 ⟨v1,rfl,r1,k1⟩
 obtain⟨px,cx,rfl⟩:=ah r1
 have HX:=tK (af.bB r1)
 clear r1
 go_wp2_with fail
 go_loopw [3,9] (fun s i wr=>∃k:Nat,k<=x.length/\i=(k:Int)/\s=(NZ (x.take k):Int)/\NP [] w1 wr) (fun _ i _=>x.length-(intOf i).toNat)
 case atStart=>exact⟨0,a?,rfl,rfl,NP.refl _ _⟩
 case round=>
  obtain⟨k,hk,rfl,rfl,hK⟩:=hrel
  by_cases NV:k<x.length
  .obtain⟨b,off,rfl,c0,c1,hb,hlc,PT⟩:=(HX.out.kept0 hK).at_ k NV
   have Oo:=gH x k NV
   have RH:=(Rf.out.take k).sum a?
   have QG:=(Rf.out.take (k+1)).sum a?
   rw[Oo]at QG
   have i1:(k:Int)<x.length:=a?
   have⟨OY,Of⟩:=f? Oo NV
   have⟨s1,s2⟩:=RH
   have⟨s3,s4⟩:=QG
   clear Oo
   generalize NZ (x.take k)=S at*
   go_wp2_with fail
   go_roundw
   case rel=>exact⟨k+1,Of.out,j?,by rw[OY.out],hK.alloc _⟩
   case measure=>(have hh:=Of.out;simp[intOf];omega)
  .obtain rfl:k=x.length:=a?
   have e:NZ (x.take x.length)=(n:Int):=by rw[MU];exact aed.out
   rw[e]
   clear e
   go_wp2_with fail
   go_ret
   exact⟨rfl,k1.trans hK⟩
def Py (p:List (Int×Int)):Nat->Int
 |0=>0
 |k+1=>(p.getD k (0,0)).1+(p.getD k (0,0)).2
def Qb (p:List (Int×Int)):Nat->List (Int×Int)
 |0=>[]
 |k+1=>Qb p k++[(Py p k,(p.getD k (0,0)).1-Py p k)]
theorem tg (p k):(Qb p k).length=k:=by
 induction k with
 |zero=>rfl
 |succ k ih=>rw[Qb,tN,ih];rfl
structure LW (p:List (Int×Int)) (k:Nat):Prop where
 lo:0<=Py p k/\Py p k<=8192
 next:∀h:k<p.length,Py p k<=p[k].1
 is:∀j,bZ (Qb p k) j↔0<=j/\j<Py p k/\¬bZ p j
 behind:∀j,Py p k<=j->bZ p j->bZ (p.drop k) j
 wf:∀r∈Qb p k,0<=r.1/\r.1<=8192/\0<=r.2/\r.2<=8192
theorem xK (hp:Pl 0 p) (k) (hk:k<=p.length):LW p k:=by
 induction k with
 |zero=>exact⟨⟨Int.le_refl _,by show(0:Int)<=8192;omega⟩,fun h=>(kJ hp h).1,fun j=>⟨fun h=>absurd h (dU j),fun⟨h1,h2,_⟩=>by have h2:j<0:=h2;omega⟩,fun j _ h=>h,fun r hr=>by cases hr⟩
 |succ k ih=>
  have NV:k<p.length:=a?
  obtain⟨⟨h1,h2⟩,h3,h4,h5,h6⟩:=ih a?
  have h3:=h3 NV
  have⟨p1,p2,p3⟩:=kJ hp NV
  have eg:p.getD k (0,0)=p[k]:=by rw[Nx,MZ NV];rfl
  have ea:Py p (k+1)=p[k].1+p[k].2:=by rw[Py,eg]
  have Vk:Qb p (k+1)=Qb p k++[(Py p k,p[k].1-Py p k)]:=by rw[Qb,eg]
  have dx:=fun j=>ug NV j
  have gx:=fun j (hj:bZ (p.drop (k+1)) j)=>((hp.next k NV).ge hj).1
  refine⟨by rw[ea];omega,fun h=>?_,fun j=>?_,fun j hj P7=>?_,fun r hr=>?_⟩
  .rw[ea]
   have:=uo hp NV (q:=p[k+1]) (by rw[List.drop_eq_getElem_cons h];exact MY)
   omega
  .rw[Vk,cA,eW,h4,ea]
   constructor
   .rintro(⟨a,b,c⟩|⟨a,b⟩)
    .exact⟨a,a?,c⟩
    .have a:Py p k<=j:=a
     have b:j<Py p k+(p[k].1-Py p k):=b
     refine⟨a?,a?,fun P7=>?_⟩
     rcases(dx j).1 (h5 j a P7)with⟨q,_⟩|q
     .omega
     .have:=gx j q;omega
   .rintro⟨a,b,c⟩
    by_cases hj:j<Py p k
    .exact Or.inl ⟨a,hj,c⟩
    .refine Or.inr ⟨by show Py p k<=j;omega,?_⟩
     show j<Py p k+(p[k].1-Py p k)
     by_cases hq:p[k].1<=j
     .exact absurd ⟨p[k],MJ NV,hq,b⟩ c
     .omega
  .rw[ea]at hj
   rcases(dx j).1 (h5 j a? P7)with⟨_,q⟩|q
   .omega
   .exact q
  .rw[Vk]at hr
   rcases Na.1 hr with hr|hr
   .exact h6 r hr
   .have hr:r=(Py p k,p[k].1-Py p k):=F!
    subst hr
    exact⟨h1,h2,by show 0<=p[k].1-Py p k;omega,by show p[k].1-Py p k<=8192;omega⟩
def Rl (p:List (Int×Int)):List (Int×Int):=Qb p p.length++[(Py p p.length,8192-Py p p.length)]
theorem FZ (hp:Pl 0 p) (m) (hm:m<8192):OE (Rl p) m= !OE p m:=by
 obtain⟨⟨h1,h2⟩,_,h4,h5,_⟩:=xK hp p.length (MG _)
 rw[Bool.eq_iff_iff,Bool.not_eq_true',<-Bool.not_eq_true,dr,dr]
 unfold Rl
 rw[cA,eW,h4]
 constructor
 .rintro(⟨_,_,c⟩|⟨a,b⟩)
  .exact c
  .intro P7
   have:=h5 m a P7
   rw[List.drop_length]at this
   exact dU _ this
 .intro c
  by_cases hj:(m:Int)<Py p p.length
  .exact Or.inl ⟨a?,hj,c⟩
  .refine Or.inr ⟨by show Py p p.length<=m;omega,?_⟩
   show(m:Int)<Py p p.length+(8192-Py p p.length)
   omega
theorem Ir (hp:Pl 0 p):∀r∈Rl p,aQ r:=by
 obtain⟨⟨h1,h2⟩,_,_,_,h6⟩:=xK hp p.length (MG _)
 intro r hr
 unfold Rl at hr
 rcases Na.1 hr with hr|hr
 .have⟨a,b,c,d⟩:=h6 r hr
  exact⟨a?,a?,a?,a?⟩
 .have hr:r=(Py p p.length,8192-Py p p.length):=F!
  subst hr
  exact⟨by show _<=Py p p.length;omega,by show Py p p.length<=_;omega,by show _<=8192-Py p p.length;omega,by show 8192-Py p p.length<=_;omega⟩
theorem AW (la lb):uq la (Rl (OO lb))=Pr la lb:=
 yV (fun m hm=>by rw[FZ (p:=OO lb) (dV _) m hm];unfold OO;rw[jZ _ m hm])
theorem BT (va la loa hia vb lb lob Rr w) (ha:af w va la loa hia) (hb:af w vb lb lob Rr) (Yb:la.length<=1000000) (US:lb.length<=1000000) (Yz:∀a∈la,aQ a) (Rp:∀a∈lb,aQ a):
  am! 96 #[va,vb] w (bh (Pr la lb) w):=by
 have hp:=oK vb lb lob Rr w hb US Rp
 have Rq:Pl 0 (OO lb):=dV _
 have hlen:=Rq.gX
 have⟨i0,q0,q1,q2,q3⟩:=eV
 have aa2:=fun W vg log hig (h1:af W va la loa hia) (h2:af W vg (Rl (OO lb)) log hig)=>G6 va la loa hia vg (Rl (OO lb)) log hig W h1 h2 Yb (by unfold Rl;rw[tN,tg];simp;omega) Yz (Ir Rq)
 rw[AW]at aa2
 obtain⟨pa,ca,rfl⟩:=ha.shape
 obtain⟨pb,cb,rfl⟩:=hb.shape
 unfold bh at*
 have⟨HP,Rf,aen,HA⟩:=gh! hp Rq aa2 ha
 clear hp Rq aa2 ha hb Yz Rp Yb US
 generalize OO lb=x at*
 generalize la.length=al at*
 generalize lb.length=bl at*
 generalize Pr la lb=M at*
 go_enter func96,ntmps96
 go_wp2_with fail
 refine HP.out.mono ?_;rintro e w1 ⟨v1,rfl,r1,k1⟩
 obtain⟨px,cx,rfl⟩:=ah r1
 have HX:=tK (af.bB r1)
 have RH:=k1.size
 clear r1
 go_wp2_with fail
 go_loopw [5,6,12] (fun g a i wr=>∃k:Nat,k<=x.length/\i=(k:Int)/\a=(Py x k:Int)/\wr.ownsRow w1 128 2 g k (NW (Qb x k))/\NP [] w1 wr) (fun _ _ i _=>x.length-(intOf i).toNat)
 case atStart=>exact⟨0,a?,rfl,rfl,Nf _ _ _ _,NP.refl _ _⟩
 case round=>
  obtain⟨k,hk,rfl,rfl,NU,hK⟩:=hrel
  obtain⟨⟨g1,g2⟩,g3,_⟩:=xK Rf.out k hk
  obtain⟨p5,c5,rfl⟩:=ah NU
  have hKs:=hK.size
  by_cases NV:k<x.length
  .obtain⟨b,off,rfl,c0,c1,hb,hlc,PT⟩:=(HX.out.kept0 hK).at_ k NV
   have g3:=g3 NV
   have⟨y1,y2,y3⟩:=kJ Rf.out NV
   have eg:x.getD k (0,0)=x[k]:=by rw[Nx,MZ NV];rfl
   have ea:Py x (k+1)=x[k].1+x[k].2:=by rw[Py,eg]
   have Vk:NW (Qb x (k+1))=NW (Qb x k)++[.int .i64 (Py x k),.int .i64 (x[k].1-Py x k)]:=by rw[Qb,eg,bP]
   have i1:(k:Int)<x.length:=a?
   have⟨HEA,HEG,Of⟩:=gg! ea Vk NV
   have r3:k+1<=maxLen:=m?
   have r4:(k+1)*16<=140737488355328:=a?
   clear eg ea Vk
   generalize Py x k=a at*
   generalize x[k].1=X0 at*
   generalize x[k].2=Xn at*
   go_wp2_with (at_builtin;go_must (refine MT _ rfl (.tmp 16) (.tmp 23) 56 rfl w1 128 i0 (.agg #[(0:Int),(0:Int)]) 2 16 underlying56 q0 q1 q2 q3 rfl d? _ _ _ rfl (MH (MH NU _) _) (aa (wr+1) 0) 1 1 [.int .i64 a,.int .i64 (X0-a)] rfl rfl ?_ ?_ r3 r4 ?_ ?_))
   .have RG:((wr.alloc (.cells #[X0,Xn] 128)).alloc (.cells #[a,(X0-a:Int)] 128)).heap[wr.heap.size+1]? =some (.cells #[a,(X0-a:Int)] 128 (0,0)):=by
     have:=Ns (wr.alloc (.cells #[X0,Xn] 128)) (.cells #[a,(X0-a:Int)] 128)
     rw[Nd]at this
     exact this
    exact World.news_of_block RG
   .intro u hu;simp at hu;rcases hu with rfl|rfl<;>rfl
   .simp;omega
   intro v6 w6 o6 Po _ _
   have k6:NP [] w1 w6:=((hK.alloc _).alloc _).grown Po (fun g hg=>Or.inr (ML NU g hg).1)
   have z0:w6.cell? wr=X0:=by
    have Pb:(Value.slice p5 k c5).ownBlock≠some wr:=fun e=>by
     have:=(ML NU _ e).2;omega
    have Q3:=Po.block wr e? (fun e=>Pb e.symm)
    rw[World.cell?_of_block Q3]
    exact(ae.alloc (ae.new wr #[X0,Xn] 128) _).cell 0 b?
   have z1:w6.cell? (aa wr 1)=Xn:=by
    have Pb:(Value.slice p5 k c5).ownBlock≠some wr:=fun e=>by
     have:=(ML NU _ e).2;omega
    have Q3:=Po.block wr e? (fun e=>Pb e.symm)
    rw[World.cell?_of_block Q3]
    exact(ae.alloc (ae.new wr #[X0,Xn] 128) _).cell 1 b?
   rw[<-HEG.out]at o6
   have Vn:=tK o6
   clear Po NU o6
   go_wp2_with fail
   go_roundw
   case rel=>exact⟨k+1,Of.out,j?,by rw[HEA.out],Vn.out,k6⟩
   case measure=>(have hh:=Of.out;simp[intOf];omega)
  .obtain rfl:k=x.length:=a?
   have r3:x.length+1<=maxLen:=m?
   have r4:(x.length+1)*16<=140737488355328:=a?
   have Vk:NW (Rl x)=NW (Qb x x.length)++[.int .i64 (Py x x.length),.int .i64 (8192-Py x x.length)]:=by unfold Rl;rw[bP]
   have ab5:(Rl x).length=x.length+1:=by unfold Rl;rw[tN,tg];rfl
   have⟨HEG,HEL⟩:=f? Vk ab5
   clear Vk ab5
   generalize Py x x.length=a at*
   go_wp2_with (at_builtin;go_must (refine MT _ rfl (.tmp 32) (.tmp 37) 56 rfl w1 128 i0 (.agg #[(0:Int),(0:Int)]) 2 16 underlying56 q0 q1 q2 q3 rfl d? _ _ _ rfl (MH NU _) wr 1 1 [.int .i64 a,.int .i64 (8192-a)] rfl rfl ?_ ?_ r3 r4 ?_ ?_))
   .exact World.news_of_block (Ns wr _)
   .intro u hu;simp at hu;rcases hu with rfl|rfl<;>rfl
   .simp;omega
   intro v6 w6 o6 Po _ _
   have k6:NP [] w1 w6:=(hK.alloc _).grown Po (fun g hg=>Or.inr (ML NU g hg).1)
   rw[<-HEG.out,<-HEL.out]at o6
   have hG:=af.bB o6
   have hA6:=HA.out.kept0 (k1.trans k6)
   have hc:=aen.out w6 v6 _ _ hA6 hG
   obtain⟨p6,c6,rfl⟩:=ah o6
   have HC:=tK hc
   have hs6:=(k1.trans k6).size
   clear Po NU o6 hG hc
   go_wp2_with fail
   refine HC.out.mono ?_;rintro e w7 ⟨v7,rfl,o7,k7⟩
   go_wp2_with fail
   go_ret
   exact⟨_,rfl,aF o7 hs6,(k1.trans k6).trans k7⟩
def Tw (a:Int×Int):Int:=if a.2<1\/8192<=a.1 then 0 else if 0<=a.1/\8192-a.1<a.2 then 8192 else min (max (a.1+a.2) 0) 8192
theorem J4 (a:Int×Int) (m:Nat) (hm:m<8192):(max a.1 0<=m/\(m:Int)<Tw a)↔(a.1<=m/\(m:Int)<a.1+a.2):=by
 unfold Tw
 by_cases h1:a.2<1\/8192<=a.1
 .rw[if_pos h1];omega
 .rw[if_neg h1]
  by_cases h2:0<=a.1/\8192-a.1<a.2
  .rw[if_pos h2];omega
  .rw[if_neg h2];omega
theorem J5 (a:Int×Int):0<=Tw a/\Tw a<=8192:=by
 unfold Tw
 split
 .omega
 .split<;>omega
theorem M64 (h:A:=by
 go_enter func260,ntmps260
 go_wp2_with fail
 all_goals first|(exfalso;omega)|(go_ret;exact⟨rfl,rfl⟩)):A:=h
theorem M62 (h:A:=by
 go_enter func260,ntmps260
 go_wp2_with fail
 go_ret
 exact⟨rfl,rfl⟩):A:=h
theorem L7 (a:Int×Int) (w) (hw:aQ a):am! 260 #[.agg #[a.1,a.2]] w fun e w'=>e=(Tw a:Int)/\w.alloc (.cells #[a.1,a.2] 128)=w':=by
 have⟨x,n⟩:=a
 have⟨w1,w2,w3,w4⟩:=hw
 simp only at w1 w2 w3 w4 ⊢
 unfold Tw
 simp only
 rcases(by omega:n<1\/(1<=n/\8192<=x)\/(1<=n/\x<8192/\0<=x/\8192-x<n)\/(1<=n/\x<8192/\0<=x/\n<=8192-x)\/(1<=n/\x<8192/\x<0))with h1|⟨h1,h2⟩|⟨h1,h2,h3,h4⟩|⟨h1,h2,h3,h4⟩|⟨h1,h2,h3⟩
 .rw[if_pos (Or.inl h1)]
  exact M62
 .rw[if_pos (Or.inr h2)]
  exact M62
 .rw[if_neg a?,if_pos ⟨h3,h4⟩]
  exact M62
 .rw[if_neg a?,if_neg a?]
  have Ty:max (x+n) 0=x+n:=a?
  have QL:min (x+n) 8192=x+n:=a?
  rw[Ty,QL]
  exact M62
 .rw[if_neg a?,if_neg a?]
  obtain⟨m,hm⟩:∃m,m=min (max (x+n) 0) 8192:=⟨_,rfl⟩
  rw[<-hm]
  rcases(by omega:x+n<0\/(0<=x+n/\x+n<=8192)\/8192<x+n)with g1|⟨g1,g2⟩|g1
  .obtain rfl:m=0:=a?
   clear hm
   have Ty:max (x+n) 0=0:=a?
   exact M64
  .obtain rfl:m=x+n:=a?
   clear hm
   have Ty:max (x+n) 0=x+n:=a?
   have QL:min (x+n) 8192=x+n:=a?
   exact M64
  .obtain rfl:m=8192:=a?
   clear hm
   have Ty:max (x+n) 0=x+n:=a?
   have QL:min (x+n) 8192=8192:=a?
   exact M64
theorem nP:∃i,prog.info? 4=some i/\i.zero=false/\i.size=1/\i.bytes=1:=by
 have hi:(prog.info? 4).map (fun i=>(i.zero,i.size,i.bytes))=some (some (.bool false),1,1):=c?
 exact Yh
theorem re (w):(Instr.makeSlice 39 (8192:Int) (8192:Int)).run prog w=.ok (.slice (some w) 8192 8192) (w.alloc (.cells (Array.replicate 8192 false) 4)):=by
 have⟨i0,h1,h2,h3,h4⟩:=nP
 exact lu (P:=prog) 39 4 i0 false underlying39 h1 h2 h3 rfl 8192 Z! a? w
def fw (w:World) (g:Nat) (f:Nat->Bool):Prop:=Rw w g 4 8192 (fun k=>.bool (f k))
theorem fw.congr {g} {f f':Nat->Bool} (h:fw w g f) (e:∀m,m<8192->f m=f' m):fw w g f':=Rw.congr h (fun i hi=>by rw[e i hi])
theorem Dr (l:List (Int×Int)) (k:Nat) (h:k<l.length) (m:Nat):OE (l.take (k+1)) m=(OE (l.take k) m||(decide (l[k].1<=m)&&decide ((m:Int)<l[k].1+l[k].2))):=by
 rw[MI h,qQ]
 congr 1
 simp[OE]
theorem D5 (v l lo hi w) (h:af w v l lo hi) (hl:l.length<=1000000) (Pj:∀a∈l,aQ a):
  am! 209 #[v] w fun e w'=>e=.returned (.slice (some w) 8192 8192)/\fw w' w (OE l)/\NP [] w w':=by
 have RO:=re
 have h0:fw (w.alloc (.cells (Array.replicate 8192 false) 4)) w (OE (l.take 0)):=Rw.made w 4 8192 false
 obtain⟨p,c,rfl⟩:=h.shape
 have⟨H,VI,H0⟩:=gg! h Pj h0
 have Tg:(l.length:Int)<=1000000:=a?
 clear h Pj h0
 go_enter func209,ntmps209
 go_wp2_with fail
 go_loopw [4] (fun i wr=>∃k:Nat,k<=l.length/\i=(k:Int)/\fw wr w (OE (l.take k))/\NP [] w wr) (fun i _=>l.length-(intOf i).toNat)
 case atStart=>exact⟨0,a?,rfl,H0.out,(NP.refl _ _).alloc _⟩
 case round=>
  obtain⟨k,hk,rfl,NU,hK⟩:=hrel
  by_cases NV:k<l.length
  .obtain⟨b,off,rfl,c0,c1,hb,hlc,PT⟩:=(H.out.kept0 hK).at_ k NV
   have VG:b<w.heap.size:=by
    have⟨b',off',e',_,_,UR,_⟩:=H.out.at_ k NV
    injection e' with e'
    injection e' with e1 _ _
    omega
   have hz:=fun W=>L7 l[k] W (VI.out _ (MJ NV))
   have acU:=Dr l k NV
   have Ph:=J4 l[k]
   have aev:=J5 l[k]
   have i1:(k:Int)<l.length:=a?
   have C0:=tK ((hK.cell (a:=(aa b (off+k*2))) al! b?).symm.trans c0)
   have C1:=tK ((hK.cell (a:=(aa b (off+k*2+1))) al! b?).symm.trans c1)
   have⟨adY,Qd,Of⟩:=gg! acU Ph NV
   obtain⟨S,hS⟩:∃S,max l[k].1 0=S:=⟨_,rfl⟩
   have Q6:0<=S:=a?
   have⟨HSS,Pm,HZ⟩:=gg! hS NU hz
   have⟨e1,e2⟩:=aev
   clear acU Ph NU hz
   generalize OE (l.take k)=F at*
   generalize Tw l[k]=E at*
   generalize l[k].1=X0 at*
   generalize l[k].2=Xn at*
   obtain⟨Sn,rfl⟩:=MM Q6
   clear Q6 c0 c1
   have c0:=(hK.cell (a:=(aa b (off+k*2))) al! b?).trans C0.out
   have c1:=(hK.cell (a:=(aa b (off+k*2+1))) al! b?).trans C1.out
   go_wp2_with fail
   all_goals
    obtain⟨wo,rfl⟩:∃wo:World,wo=wr:=⟨_,rfl⟩
    go_loopw [5] (fun i wr=>∃j:Nat,(j=Sn\/(j:Int)<=E)/\Sn<=j/\i=(j:Int)/\fw wr w (fun m=>F m||(decide (Sn<=m)&&decide (m<j)))/\NP [] w wr) (fun i _=>8192-(intOf i).toNat)
    case atStart=>
     refine⟨Sn,Or.inl rfl,MG _,?_,Pm.out.congr (fun m _=>?_),hK⟩
     .first|rfl|(have:=HSS.out;congr 1;omega)
     .have:(decide (Sn<=m)&&decide (m<Sn))=false:=b?
      rw[this,Bool.or_false]
    case round=>
     obtain⟨j,hj1,ZO,rfl,NU,QJ⟩:=hrel
     have c0:=(QJ.cell (a:=(aa b (off+k*2))) al! b?).trans C0.out
     have c1:=(QJ.cell (a:=(aa b (off+k*2+1))) al! b?).trans C1.out
     by_cases hjE:(j:Int)<E
     .have hj8:j<8192:=a?
      have j8:(j:Int)<8192:=a?
      have d0:=Rw.cell NU j hj8
      have z0:=Rw.free NU j
      have Vg:=Rw.set NU j hj8 true (fun m=>.bool (F m||(decide (Sn<=m)&&decide (m<j+1)))) (by
       have e5:(decide (Sn<=j)&&decide (j<j+1))=true:=e?
       rw[e5,Bool.or_true]) (fun m _ hm=>by
       have e5:decide (m<j+1)=decide (m<j):=by rw[decide_eq_decide];omega
       rw[e5])
      have WD:=(QJ.setCell (p:=(aa w j)) (Or.inr (MG _)) true).alloc (.cells #[X0,Xn] 128)
      have Zr:=tK Vg
      have UN:=Rw.lt NU
      clear Vg NU
      generalize (F j||(decide (Sn<=j)&&decide (j<j)))=bb at*
      go_wp2_with fail
      refine(HZ.out _).mono ?_;rintro e w5 ⟨rfl,rfl⟩
      go_wp2_with fail
      go_roundw
      case rel=>exact⟨j+1,a?,a?,j?,Rw.alloc Zr.out _,WD⟩
      case measure=>simp[intOf];omega
     .have Oy:fw (wr.alloc (.cells #[X0,Xn] 128)) w (OE (l.take (k+1))):=fw.congr (Rw.alloc NU _) (fun m hm=>by
       rw[adY.out m]
       congr 1
       have h3:=Qd.out m hm
       have h4:=HSS.out
       rw[h4]at h3
       rw[Bool.eq_iff_iff]
       simp only[No,decide_eq_true_eq]
       rw[<-h3]
       omega)
      have Rv:=tK Oy
      have WD:=QJ.alloc (.cells #[X0,Xn] 128)
      clear Oy NU
      go_wp2_with fail
      refine(HZ.out _).mono ?_;rintro e w5 ⟨rfl,rfl⟩
      go_wp2_with fail
      go_roundw
      case rel=>exact⟨k+1,Of.out,j?,Rv.out,WD⟩
      case measure=>(have hh:=Of.out;simp[intOf];omega)
  .obtain rfl:k=l.length:=a?
   rw[MU]at NU
   have Pm:=tK NU
   clear NU
   go_wp2_with fail
   go_ret
   exact⟨rfl,Pm.out,hK⟩
theorem Km (g) (f:Nat->Bool) (w) (h:fw w g f):
  am! 213 #[.slice (some g) 8192 8192] w (bh (eh f) w):=by
 have⟨i0,q0,q1,q2,q3⟩:=eV
 have H:=tK h
 have UN:=Rw.lt h
 have Pf:=fun k hk=>zf f k hk
 have QH:=tK Pf
 unfold bh
 clear h Pf
 go_enter func213,ntmps213
 go_wp2_with fail
 go_loopw [3,4] (fun v i wr=>∃k:Nat,k<=8192/\i=(k:Int)/\wr.ownsRow w 128 2 v (Pa f k).length (NW (Pa f k))/\NP [] w wr) (fun _ i _=>8192-(intOf i).toNat)
 case atStart=>exact⟨0,a?,rfl,Nf _ _ _ _,NP.refl _ _⟩
 case round=>
  obtain⟨k,hk,rfl,NU,hK⟩:=hrel
  by_cases NV:k<8192
  .have ck:=(hK.cell (a:=(aa g k)) (by exact UN) b?).trans (Rw.cell H.out k NV)
   have Oe:Pa f (k+1)=if f k=true then(if k≠0/\f (k-1)=true then Bz (Pa f k)else Pa f k++[((k:Int),1)])else Pa f k:=rfl
   have hlen:=(QH.out k hk).pl.gX
   have i1:(k:Int)<8192:=a?
   have Of:=tK NV
   have hKs:=hK.size
   have r3:(Pa f k).length+1<=maxLen:=m?
   have r4:((Pa f k).length+1)*16<=140737488355328:=a?
   cases hf:f k
   .rw[hf]at ck Oe
    rw[if_neg b?]at Oe
    have⟨HR,Up⟩:=f? Oe NU
    clear Oe hf NU
    generalize Pa f k=M at*
    go_wp2_with fail
    go_roundw
    case rel=>exact⟨k+1,Of.out,j?,by rw[HR.out];exact Up.out,hK⟩
    case measure=>(have hh:=Of.out;simp[intOf];omega)
   .rw[hf]at ck Oe
    rw[if_pos rfl]at Oe
    by_cases Sz:k≠0/\f (k-1)=true
    .rw[if_pos Sz]at Oe
     have⟨I,q,e,hq⟩:=uE (QH.out k hk) Sz.1 Sz.2
     rw[e,vB]at Oe
     rw[e]at NU hlen
     have Xd:(I++[q]).length=I.length+1:=b?
     rw[Xd]at NU hlen
     obtain⟨n,rfl⟩:∃n,k=n+1:=⟨k-1,a?⟩
     have cn:=(hK.cell (a:=(aa g n)) (by exact UN) b?).trans (Rw.cell H.out n a?)
     rw[show f n=true from Sz.2]at cn
     obtain⟨gb,c4,rfl,TI,UK,hg3,hg4,U0⟩:=cU NU a?
     have⟨u1,u2⟩:=mI I q
     have e1:=U0 _ _ u2
     have z1:=World.ownsRow.frozenAt NU (I.length*2+1)
     have Rq:=(QH.out (n+1) hk).pl
     rw[e]at Rq
     have⟨_,p2,p3,p4,_⟩:=Rq.init
     have Oo:=(World.ownsRow.stored NU (I.length*2+1) (q.2+1:Int)).1
     rw[show q=(q.1,q.2)from rfl,iE]at Oo
     have e9:(I++[(q.1,q.2+1)]).length=I.length+1:=b?
     have WD:=hK.setCell (p:=(aa gb (I.length*2+1))) (Or.inr TI) (q.2+1:Int)
     have⟨HR,OY,HE9⟩:=gg! Oe Oo e9
     have i2:(I.length:Int)<=8192:=a?
     have i3:((n:Int)+1)<8192:=a?
     clear Oe Oo e9 Sz U0 u1 u2 NU hf e Rq hq
     go_wp2_with fail
     go_roundw
     case rel=>exact⟨n+1+1,Of.out,j?,by rw[HR.out,HE9.out];exact OY.out,WD⟩
     case measure=>(have hh:=Of.out;simp[intOf];omega)
    .rw[if_neg Sz]at Oe
     have HR:=tK Oe
     have hcn:k=0\/(k≠0/\f (k-1)=false):=by
      by_cases h0:k=0
      .exact Or.inl h0
      .refine Or.inr ⟨h0,?_⟩
       cases hx:f (k-1)
       .rfl
       .exact absurd ⟨h0,hx⟩ Sz
     have Ym:∀(w6:World) v6,w6.ownsRow w 128 2 v6 ((Pa f k).length+1) (NW (Pa f k)++[.int .i64 k,.int .i64 1])->w6.ownsRow w 128 2 v6 (Pa f (k+1)).length (NW (Pa f (k+1))):=fun w6 v6 h=>by
      rw[HR.out,bP,tN,Nq];exact h
     have Z3:=tK Ym
     obtain⟨p4,c4,rfl⟩:=ah NU
     clear Oe Sz Ym hf HR
     generalize Pa f k=M at*
     rcases hcn with rfl|⟨h0,hcn⟩
     .go_wp2_with (at_builtin;go_must (refine MT _ rfl (.tmp 35) (.tmp 38) 56 rfl w 128 i0 (.agg #[(0:Int),(0:Int)]) 2 16 underlying56 q0 q1 q2 q3 rfl d? _ _ _ rfl (MH NU _) wr 1 1 [.int .i64 0,.int .i64 1] rfl rfl ?_ ?_ r3 r4 ?_ ?_))
      .exact World.news_of_block (Ns wr _)
      .intro u hu;simp at hu;rcases hu with rfl|rfl<;>rfl
      .simp;omega
      intro v6 w6 o6 Po _ _
      have k6:NP [] w w6:=(hK.alloc _).grown Po (fun g hg=>Or.inr (ML NU g hg).1)
      have Vn:=tK o6
      clear Po NU o6
      go_wp2_with fail
      go_roundw
      case rel=>exact⟨0+1,Of.out,j?,Z3.out _ _ Vn.out,k6⟩
      case measure=>(have hh:=Of.out;simp[intOf])
     .obtain⟨n,rfl⟩:∃n,k=n+1:=⟨k-1,a?⟩
      have cn:=(hK.cell (a:=(aa g n)) (by exact UN) b?).trans (Rw.cell H.out n a?)
      rw[show f n=false from hcn]at cn
      have i3:((n:Int)+1)<8192:=a?
      clear hcn
      go_wp2_with (at_builtin;go_must (refine MT _ rfl (.tmp 35) (.tmp 38) 56 rfl w 128 i0 (.agg #[(0:Int),(0:Int)]) 2 16 underlying56 q0 q1 q2 q3 rfl d? _ _ _ rfl (MH NU _) wr 1 1 [.int .i64 ((n:Int)+1),.int .i64 1] rfl rfl ?_ ?_ r3 r4 ?_ ?_))
      .exact World.news_of_block (Ns wr _)
      .intro u hu;simp at hu;rcases hu with rfl|rfl<;>rfl
      .simp;omega
      intro v6 w6 o6 Po _ _
      have k6:NP [] w w6:=(hK.alloc _).grown Po (fun g hg=>Or.inr (ML NU g hg).1)
      have Vn:=tK o6
      clear Po NU o6
      go_wp2_with fail
      go_roundw
      case rel=>exact⟨n+1+1,Of.out,j?,Z3.out _ _ Vn.out,k6⟩
      case measure=>(have hh:=Of.out;simp[intOf];omega)
  .obtain rfl:k=8192:=a?
   have HR:=tK NU
   clear NU
   go_wp2_with fail
   go_ret
   exact⟨_,rfl,HR.out,hK⟩
end
end Go.Proofs.YtdkimcnlhmhpgaaGreat

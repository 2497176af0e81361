/- -/
import Derived.Test.YtdkimcnlhmhpgaaGreatProg
import Derived.WalkSpells
import Derived.WalkLawsBesides
import Derived.Lib.Hide
import Derived.ProofKit
import Derived.OpenShut
import Derived.Deep.LoopGhost
import Derived.Deep.SlicePairs
import Derived.Deep.AppendLies
set_option maxHeartbeats 16000000
set_option maxRecDepth 100000
set_option linter.unusedVariables false
namespace Go.Proofs.YtdkimcnlhmhpgaaGreat
open Go.RowKit
variable {w a w':World} {b base size n lo hi i:Nat} {cs:Array Value} {t e:TypeId} {p:Addr} {S T:List Nat} {v:Value} {xs:List Value} {l:List (Int×Int)} {f s:Int}
theorem M0:type_of% @heap_alloc_new:=@heap_alloc_new
theorem MY:type_of% @lt_of_block:=@lt_of_block
theorem MV:type_of% @List.mem_map:=@List.mem_map
theorem MP:type_of% @List.mem_cons_of_mem:=@List.mem_cons_of_mem
theorem ML:type_of% @Int.toNat_natCast:=@Int.toNat_natCast
theorem MK:type_of% @World.size_alloc:=@World.size_alloc
theorem MJ:type_of% @Bool.and_eq_true:=@Bool.and_eq_true
theorem MA:type_of% @Nat.le_trans:=@Nat.le_trans
theorem Mz:type_of% @List.length_cons:=@List.length_cons
theorem My:type_of% @Go.WideShapes.add_plain:=@Go.WideShapes.add_plain
theorem Mw:type_of% @List.getElem?_eq_getElem:=@List.getElem?_eq_getElem
theorem Mu:type_of% @Nat.zero_le:=@Nat.zero_le
theorem Mt:type_of% @List.eq_nil_of_length_eq_zero:=@List.eq_nil_of_length_eq_zero
theorem Ms:type_of% @List.map_append:=@List.map_append
theorem Mr:type_of% @Int.eq_ofNat_of_zero_le:=@Int.eq_ofNat_of_zero_le
theorem Mp:type_of% @List.length_take:=@List.length_take
theorem Mo:type_of% @Nat.lt_of_lt_of_le:=@Nat.lt_of_lt_of_le
theorem Mg:type_of% @List.mem_cons_self:=@List.mem_cons_self
theorem Mf:type_of% @List.take_succ_eq_append_getElem:=@List.take_succ_eq_append_getElem
theorem Md:type_of% @Nat.le_refl:=@Nat.le_refl
theorem Mc:type_of% @List.length_append:=@List.length_append
theorem Mb:type_of% @Lib.hid:=@Lib.hid
@[go_sem] theorem Ey (P:Program) (w:World) (a:Addr) (m:Mode) (k:FloatKind) (b c:Nat):(store a (.complex k b c) m).run P w=stored P w a (.complex k b c) m:=run_store P w a _ m rfl
def ae (w:World) (b:Nat) (cs:Array Value) (t:TypeId):Prop:=w.heap[b]? =some (.cells cs t (0,0))
theorem ae.lt (h:ae w b cs t):b<w.heap.size:=MY h
theorem ae.cell (h:ae w b cs t) (j:Nat) (hj:j<cs.size):w.cell? ⟨b,j,none⟩=some cs[j]:=by
 have h':w.heap[b]? =some (.cells cs t (0,0)):=h
 simp[World.cell?,h',hj]
theorem ae.free (h:ae w b cs t) (j:Nat):w.frozen? ⟨b,j,none⟩=false:=by
 have h':w.heap[b]? =some (.cells cs t (0,0)):=h
 simp[World.frozen?,h']
theorem ae.set (h:ae w b cs t) (j:Nat) (u:Value):ae (w.setCell ⟨b,j,none⟩ u) b (cs.setIfInBounds j u) t:=
 heap_setCell_same w b j cs t u h
theorem ae.other (h:ae w b cs t) (hp:b≠p.block) (u:Value):ae (w.setCell p u) b cs t:=
 (Below.heap_setCell w p u b hp).trans h
theorem ae.drew (h:ae w b cs t):ae w.drew b cs t:=h
theorem ae.alloc (h:ae w b cs t) (o:Obj):ae (w.alloc o) b cs t:=
 (Below.heap_alloc w o b h.lt).trans h
theorem ae.new (w:World) (cs:Array Value) (t:TypeId):ae (w.alloc (.cells cs t)) w.heap.size cs t:=M0 w _
theorem cQ (w:World) (A B:Array Value) (s t:TypeId):ae ((w.alloc (.cells A s)).alloc (.cells B t)) w.heap.size A s/\ae ((w.alloc (.cells A s)).alloc (.cells B t)) (w.heap.size+1) B t:=by
 refine⟨(ae.new _ _ _).alloc _,?_⟩
 have:=ae.new (w.alloc (.cells A s)) B t
 simpa only[MK]using this
theorem j9 (w:World) (A B C:Array Value) (s t u:TypeId):ae (((w.alloc (.cells A s)).alloc (.cells B t)).alloc (.cells C u)) w.heap.size A s/\ae (((w.alloc (.cells A s)).alloc (.cells B t)).alloc (.cells C u)) (w.heap.size+1) B t/\ae (((w.alloc (.cells A s)).alloc (.cells B t)).alloc (.cells C u)) (w.heap.size+2) C u:=by
 obtain⟨a,b⟩:=cQ w A B s t
 refine⟨a.alloc _,b.alloc _,?_⟩
 have:=ae.new ((w.alloc (.cells A s)).alloc (.cells B t)) C u
 simpa only[MK]using this
structure aa (S:List Nat) (w w':World):Prop where
 os:w'.os=w.os
 tape:w'.tape=w.tape
 output:w'.output=w.output
 size:w.heap.size<=w'.heap.size
 block:∀k,k<w.heap.size->k∉S->w'.heap[k]? =w.heap[k]?
theorem aa.refl (S:List Nat) (w:World):aa S w w:=⟨rfl,rfl,rfl,Md _,fun _ _ _=>rfl⟩
theorem aa.trans {b c:World} (h:aa S a b) (k:aa S b c):aa S a c:=
 ⟨k.os.trans h.os,k.tape.trans h.tape,k.output.trans h.output,MA h.size k.size,fun i hi hS=>(k.block i (Mo hi h.size) hS).trans (h.block i hi hS)⟩
theorem aa.mono {b:World} (h:aa S a b) (hST:∀x∈S,x∈T):aa T a b:=
 ⟨h.os,h.tape,h.output,h.size,fun k hk hT=>h.block k hk (fun hS=>hT (hST k hS))⟩
theorem aa.drew (h:aa S a w):aa S a w.drew:=⟨h.os,h.tape,h.output,h.size,h.block⟩
theorem aa.drewN (h:aa S a w) (n:Nat):aa S a (w.drewN n):=⟨h.os,h.tape,h.output,h.size,h.block⟩
theorem aa.alloc (h:aa S a w) (o:Obj):aa S a (w.alloc o):=
 h.trans ⟨rfl,rfl,rfl,by simp,fun k hk _=>Below.heap_alloc _ _ _ hk⟩
theorem aa.setCell (h:aa S a w) (hp:p.block∈S\/a.heap.size<=p.block) (u:Value):aa S a (w.setCell p u):=
 ⟨h.os,h.tape,h.output,by simpa[World.setCell]using h.size,fun k hk hS=>(Below.heap_setCell w p u k (fun e=>by
  rcases hp with hp|hp
  .exact hS (e▸hp)
  .omega)).trans (h.block k hk hS)⟩
theorem aa.call (h:aa S a w) (k:aa T w w') (hT:∀x∈T,x∈S\/a.heap.size<=x):aa S a w':=
 ⟨k.os.trans h.os,k.tape.trans h.tape,k.output.trans h.output,MA h.size k.size,fun i hi hS=>(k.block i (Mo hi h.size) (fun hiT=>by
  rcases hT i hiT with h1|h1
  .exact hS h1
  .omega)).trans (h.block i hi hS)⟩
theorem aa.xK (h:Below w.heap.size w w'):aa [] w w':=⟨h.os,h.tape,h.output,h.size,fun k hk _=>h.block k hk⟩
theorem aa.below (h:aa [] w w'):Below w.heap.size w w':=⟨h.os,h.tape,h.output,h.size,fun k hk=>h.block k hk (by simp)⟩
theorem aa.own (h:aa S w w') (o:ae w b cs t) (hb:b∉S):ae w' b cs t:=
 (h.block b o.lt hb).trans o
theorem aa.cell (h:aa S w w') {a:Addr} (ha:a.block<w.heap.size) (hb:a.block∉S):w'.cell? a=w.cell? a:=
 World.cell?_of_block (w:=w) (h.block a.block ha hb)
theorem aa.grown {row:Option Nat} (h:aa S a w) (hg:w.grownBy w' row) (hr:∀k,row=some k->k∈S\/a.heap.size<=k):aa S a w':=
 ⟨hg.os.trans h.os,hg.tape.trans h.tape,hg.output.trans h.output,MA h.size hg.size,fun k hk hS=>(hg.block k (Mo hk h.size) (fun e=>by
  rcases hr k e.symm with h1|h1
  .exact hS h1
  .omega)).trans (h.block k hk hS)⟩
def bs (l:List UInt8):ByteArray:=⟨l.toArray⟩
theorem dP (l:List UInt8):(bs l).data.toList=l:=rfl
theorem Nj (l:List UInt8):(bs l).size=l.length:=by show l.toArray.size=_;simp
theorem oU (s:ByteArray):bs s.data.toList=s:=by apply ByteArray.ext;rfl
theorem aT (a b:List UInt8):bs a++bs b=bs (a++b):=by
 apply ByteArray.ext;simp[bs,ByteArray.data_append]
theorem aX (l:List UInt8) (a b:Nat):(bs l).extract a b=bs ((l.drop a).take (b-a)):=by
 apply ByteArray.ext
 apply Array.toList_inj.1
 simp[bs]
theorem dh (l:List UInt8):(bs l).toList=l:=by rw[ByteArray.toList_eq];rfl
theorem Kp (a b:List UInt8):(bs a==bs b)=(a==b):=by rw[beq_toListBytes,dh,dh]
theorem Ko:bs []={data:=#[]}:=rfl
theorem au (h:w.ownsRow base e size v n xs) (k:aa S w w') (hS:∀x∈S,x<base):w'.ownsRow base e size v n xs:=by
 obtain⟨h1,h2⟩:=h
 refine⟨h1,?_⟩
 rcases h2 with h2|⟨g,cap,cur,hv,hg,hh,r⟩
 .exact Or.inl h2
 .exact Or.inr ⟨g,cap,cur,hv,hg,(k.block g (MY hh) (fun hx=>by have:=hS g hx;omega)).trans hh,r⟩
theorem ai (h:w.ownsRow base e size v n xs):∃p cap,v=.slice p n cap:=by
 obtain⟨_,⟨rfl,rfl⟩|⟨g,cap,cur,rfl,_⟩⟩:=h
 .exact⟨_,_,rfl⟩
 .exact⟨_,_,rfl⟩
def af (w:World) (v:Value) (l:List (Int×Int)) (lo hi:Nat):Prop:=
 (l=[]/\∃a c,v=.slice a 0 c)\/
 ∃b off c,v=.slice (some ⟨b,off,none⟩) l.length c/\(∀i (h:i<l.length),w.cell? ⟨b,off+i*2,none⟩=some (.int .i64 l[i].1)/\w.cell? ⟨b,off+i*2+1,none⟩=some (.int .i64 l[i].2))/\lo<=b/\b<hi/\hi<=w.heap.size/\l≠[]/\l.length<=c/\c<=maxLen
theorem af.kept (h:af w v l lo hi) (k:aa S w w') (hS:∀x∈S,x<lo\/hi<=x):af w' v l lo hi:=by
 rcases h with h|⟨b,off,c,h1,h2,h3,h4,h5,h6,h7,h8⟩
 .exact Or.inl h
 .refine Or.inr ⟨b,off,c,h1,fun i hi=>?_,h3,h4,MA h5 k.size,h6,h7,h8⟩
  have hb:b∉S:=fun hb=>by have:=hS b hb;omega
  rw[k.cell (by show b<_;omega) hb,k.cell (by show b<_;omega) hb]
  exact h2 i hi
theorem af.kept0 (h:af w v l lo hi) (k:aa [] w w'):af w' v l lo hi:=h.kept k (fun x hx=>by cases hx)
theorem M38 {A:Prop}(h:A:=by
 rcases h with⟨rfl,a,c,rfl⟩|⟨b,off,c,rfl,_⟩
 .exact⟨a,c,rfl⟩
 .exact⟨_,c,rfl⟩):A:=h
theorem af.shape (h:af w v l lo hi):∃p c,v=.slice p l.length c:=by
 exact M38
theorem af.at_ {p:Option Addr} {c:Nat} (h:af w (.slice p n c) l lo hi) (i:Nat) (hi':i<l.length):
  ∃b off,p=some ⟨b,off,none⟩/\w.cell? ⟨b,off+i*2,none⟩=some (.int .i64 l[i].1)/\w.cell? ⟨b,off+i*2+1,none⟩=some (.int .i64 l[i].2)/\b<w.heap.size/\l.length<=c/\c<=maxLen:=by
 rcases h with⟨rfl,_⟩|⟨b,off,c',e,h2,h3,h4,h5,_,h6,h7⟩
 .simp at hi'
 .simp at e
  obtain⟨e1,rfl,rfl⟩:=e
  exact⟨b,off,e1,(h2 i hi').1,(h2 i hi').2,by omega,h6,h7⟩
def jx (f s:Int) (a:Int×Int):Bool:= !(decide (a.1<f)||decide (a.2<1)||decide (s<a.1)||decide (s-a.1<a.2))
def apart (a b:Int×Int):Bool:= !(decide (a.1<b.1+b.2)&&decide (b.1<a.1+a.2))
def fT (f s:Int) (l:List (Int×Int)):Nat->Bool
 |0=>true
 |i+1=>fT f s l i&&(match l[i]? with|some a=>jx f s a&&(l.take i).all (apart a)|none=>true)
def lies (f s:Int) (l:List (Int×Int)):Bool:=fT f s l l.length
def Nw (l:List (Int×Int)):Int:=(l.map (·.2)).sum
theorem iy (f s:Int) (l:List (Int×Int)) (i:Nat) (h:i<l.length):fT f s l (i+1)=(fT f s l i&&(jx f s l[i]&&(l.take i).all (apart l[i]))):=by
 rw[fT,Mw h]
theorem zq (f s:Int) (l:List (Int×Int)) (i j:Nat) (Vu:i<=j) (h:fT f s l i=false):fT f s l j=false:=by
 induction j with
 |zero=>
   obtain rfl:i=0:=by omega
   exact h
 |succ j ih=>
  by_cases he:i=j+1
  .subst he;exact h
  .rw[fT,ih (by omega),Bool.false_and]
theorem Ay (f s:Int) (l:List (Int×Int)) (i:Nat) (h:i<l.length) (OF:(jx f s l[i]&&(l.take i).all (apart l[i]))=false):lies f s l=false:=
 zq f s l (i+1) l.length (by omega) (by rw[iy f s l i h,OF,Bool.and_false])
theorem pC (a:Int×Int) (l:List (Int×Int)) (m:Nat) (h:m<l.length):(l.take (m+1)).all (apart a)=((l.take m).all (apart a)&&apart a l[m]):=by
 rw[Mf h,List.all_append];simp
theorem rZ (a:Int×Int) (l:List (Int×Int)) (m k:Nat) (h:m<l.length) (UC:m<k) (OF:apart a l[m]=false):(l.take k).all (apart a)=false:=by
 rw[List.all_eq_false]
 refine⟨l[m],?_,by simp[OF]⟩
 rw[List.mem_take_iff_getElem]
 exact⟨m,by omega,rfl⟩
theorem eM {a:Int×Int}:jx f s a=true↔f<=a.1/\1<=a.2/\a.1<=s/\a.2<=s-a.1:=by
 unfold jx;simp;omega
theorem qP {a b:Int×Int}:apart a b=true↔a.1+a.2<=b.1\/b.1+b.2<=a.1:=by
 unfold apart;simp;omega
theorem ie (hi:i<=l.length) (h:fT f s l i=true):∀k (hk:k<i),jx f s (l[k]'(by omega))=true:=by
 induction i with
 |zero=>intro k hk;omega
 |succ i ih=>
  intro k hk
  rw[iy f s l i (by omega),MJ,MJ]at h
  by_cases e:k=i
  .subst e;exact h.2.1
  .exact ih (by omega) h.1 k (by omega)
theorem iM (l:List (Int×Int)) (i:Nat) (h:i<l.length):Nw (l.take (i+1))=Nw (l.take i)+l[i].2:=by
 unfold Nw;rw[Mf h,Ms,List.sum_append];simp
theorem vi (hi:i<=l.length) (h:fT f s l i=true) (h0:0<=f) (hs:s<=8192):0<=Nw (l.take i)/\Nw (l.take i)<=8192*i:=by
 induction i with
 |zero=>simp[Nw]
 |succ i ih=>
  have h1:=eM.1 (ie hi h i (by omega))
  rw[iy f s l i (by omega),MJ]at h
  have h2:=ih (by omega) h.1
  rw[iM l i (by omega)]
  omega
end Go.Proofs.YtdkimcnlhmhpgaaGreat
namespace Go.Proofs.YtdkimcnlhmhpgaaGreat
open Go.ChangeShapes Go.WideShapes Go.ChangeAt Go.RowKit Go.Deep
def aU (a:Int×Int):Prop:= -9223372036854775808<=a.1/\a.1<=9223372036854775807/\ -9223372036854775808<=a.2/\a.2<=9223372036854775807
section
variable {H:Type} {enc:TypeId×Value->H} {w:World} {base:Nat} {held:Bool} {r:Reach} {b0:Nat}
end
end Go.Proofs.YtdkimcnlhmhpgaaGreat
namespace Go.Proofs.YtdkimcnlhmhpgaaGreat
open Go.RowKit
variable {r:Int×Int} {l p:List (Int×Int)} {k a:Int} {b lo hi n:Nat} {f g:Nat->Bool} {P:Program} {w:World} {v x0 x1 x2 x3:Value} {t ty:TypeId} {tmps cs:Array Value}
def Pl:Int->List (Int×Int)->Prop
 |_,[]=>True
 |a,r::t=>a<=r.1/\1<=r.2/\r.1+r.2<=8192/\Pl (r.1+r.2+1) t
def bU (l:List (Int×Int)) (k:Int):Prop:=∃r∈l,r.1<=k/\k<r.1+r.2
theorem ep (k:Int):¬bU [] k:=fun⟨r,hr,_⟩=>by cases hr
theorem dg :bU (r::l) k↔(r.1<=k/\k<r.1+r.2)\/bU l k:=by
 unfold bU
 constructor
 .rintro⟨x,hx,h⟩
  rcases List.mem_cons.1 hx with rfl|hx
  .exact Or.inl h
  .exact Or.inr ⟨x,hx,h⟩
 .rintro(h|⟨x,hx,h⟩)
  .exact⟨r,Mg,h⟩
  .exact⟨x,MP _ hx,h⟩
theorem bY {a b:List (Int×Int)} :bU (a++b) k↔bU a k\/bU b k:=by
 induction a with
 |nil=>simp[ep]
 |cons r a ih=>rw[List.cons_append,dg,dg,ih,or_assoc]
theorem ft :bU [r] k↔r.1<=k/\k<r.1+r.2:=by
 rw[dg];simp[ep]
theorem Pl.mono {b:Int} (h:Pl a l) (hb:b<=a):Pl b l:=by
 cases l with
 |nil=>trivial
 |cons r t=>exact⟨by have:=h.1;omega,h.2⟩
theorem Pl.ge (h:Pl a l) (hk:bU l k):a<=k/\k<8192:=by
 induction l generalizing a with
 |nil=>exact absurd hk (ep k)
 |cons r t ih=>
  obtain⟨h1,h2,h3,h4⟩:=h
  rcases dg.1 hk with hk|hk
  .omega
  .have:=ih h4 hk;omega
theorem Pl.head {t:List (Int×Int)} (h:Pl a (r::t)):bU (r::t) r.1:=dg.2 (Or.inl ⟨Int.le_refl _,by have:=h.2.1;omega⟩)
theorem Pl.uniq {b:Int} {m:List (Int×Int)} (h:Pl a l) (k:Pl b m) (e:∀i,bU l i↔bU m i):l=m:=by
 induction l generalizing a b m with
 |nil=>
  cases m with
  |nil=>rfl
  |cons s u=>exact absurd ((e _).2 k.head) (ep _)
 |cons r t ih=>
  cases m with
  |nil=>exact absurd ((e _).1 h.head) (ep _)
  |cons s u=>
   have g1:=((k.mono (Int.le_refl _)).1)
   have h1:s.1<=r.1:=by
    have:=(e _).1 h.head
    rcases dg.1 this with hh|hh
    .exact hh.1
    .have:=(Pl.ge k.2.2.2 hh).1;have:=k.2.1;omega
   have h2:r.1<=s.1:=by
    have:=(e _).2 k.head
    rcases dg.1 this with hh|hh
    .exact hh.1
    .have:=(Pl.ge h.2.2.2 hh).1;have:=h.2.1;omega
   have e1:r.1=s.1:=by omega
   have e2:r.2=s.2:=by
    rcases Int.lt_trichotomy r.2 s.2 with Ns|heq|hgt
    .exfalso
     have h3:bU (s::u) (r.1+r.2):=dg.2 (Or.inl ⟨by have:=h.2.1;omega,by omega⟩)
     rcases dg.1 ((e _).2 h3)with hh|hh
     .omega
     .have:=(Pl.ge h.2.2.2 hh).1;omega
    .exact heq
    .exfalso
     have h3:bU (r::t) (s.1+s.2):=dg.2 (Or.inl ⟨by have:=k.2.1;omega,by omega⟩)
     rcases dg.1 ((e _).1 h3)with hh|hh
     .omega
     .have:=(Pl.ge k.2.2.2 hh).1;omega
   have er:r=s:=Prod.ext e1 e2
   subst er
   rw[ih h.2.2.2 k.2.2.2 (fun i=>⟨fun hi=>by
    have g:=(Pl.ge h.2.2.2 hi).1
    rcases dg.1 ((e i).1 (dg.2 (Or.inr hi)))with hh|hh
    .omega
    .exact hh,fun hi=>by
    have g:=(Pl.ge k.2.2.2 hi).1
    rcases dg.1 ((e i).2 (dg.2 (Or.inr hi)))with hh|hh
    .omega
    .exact hh⟩)]
theorem Pl.snoc (h:Pl a l) (ha:a<=r.1) (h1:1<=r.2) (h2:r.1+r.2<=8192) (hl:∀x∈l,x.1+x.2+1<=r.1):Pl a (l++[r]):=by
 induction l generalizing a with
 |nil=>exact⟨ha,h1,h2,trivial⟩
 |cons x t ih=>
  obtain⟨g1,g2,g3,g4⟩:=h
  exact⟨g1,g2,g3,ih g4 (by have:=hl x Mg;omega) (fun y hy=>hl y (MP _ hy))⟩
theorem Pl.init (h:Pl a (l++[r])):Pl a l/\a<=r.1/\1<=r.2/\r.1+r.2<=8192/\∀x∈l,x.1+x.2+1<=r.1:=by
 induction l generalizing a with
 |nil=>obtain⟨h1,h2,h3,_⟩:=h;exact⟨trivial,h1,h2,h3,fun x hx=>by cases hx⟩
 |cons x t ih=>
  obtain⟨g1,g2,g3,g4⟩:=h
  obtain⟨k1,k2,k3,k4,k5⟩:=ih g4
  exact⟨⟨g1,g2,g3,k1⟩,by omega,k3,k4,fun y hy=>by
   rcases List.mem_cons.1 hy with rfl|hy
   .omega
   .exact k5 y hy⟩
theorem Pl.mem (h:Pl a l) {x:Int×Int} (hx:x∈l):a<=x.1/\1<=x.2/\x.1+x.2<=8192:=by
 induction l generalizing a with
 |nil=>cases hx
 |cons r t ih=>
  obtain⟨h1,h2,h3,h4⟩:=h
  rcases List.mem_cons.1 hx with rfl|hx
  .exact⟨h1,h2,h3⟩
  .have:=ih h4 hx;exact⟨by omega,this.2⟩
theorem Pl.drop (h:Pl a l) (i:Nat):Pl a (l.drop i):=by
 induction i generalizing l a with
 |zero=>exact h
 |succ i ih=>
  cases l with
  |nil=>trivial
  |cons r t=>obtain⟨h1,h2,h3,h4⟩:=h;exact(ih h4).mono (by omega)
theorem Pl.next (h:Pl a l) (i:Nat) (hi:i<l.length):Pl (l[i].1+l[i].2+1) (l.drop (i+1)):=by
 have:=h.drop i
 rw[List.drop_eq_getElem_cons hi]at this
 exact this.2.2.2
theorem Pl.len (h:Pl a l):2*(l.length:Int)+min a 8194<=8194:=by
 induction l generalizing a with
 |nil=>simp;omega
 |cons r t ih=>
  obtain⟨h1,h2,h3,h4⟩:=h
  have:=ih h4
  rw[Mz];omega
theorem Pl.gV (h:Pl 0 l):l.length<=4097:=by have:=h.len;omega
def aC (l:List (Int×Int)) (k:Nat):Bool:=l.any fun r=>decide (r.1<=k)&&decide ((k:Int)<r.1+r.2)
theorem bF {k:Nat}:aC l k=true↔bU l k:=by
 unfold aC bU
 rw[List.any_eq_true]
 simp
def Gw (l:List (Int×Int)):List (Int×Int):=l.dropLast++(match l.getLast? with|some r=>[(r.1,r.2+1)]|none=>[])
theorem El (l:List (Int×Int)) (r:Int×Int):Gw (l++[r])=l++[(r.1,r.2+1)]:=by
 unfold Gw
 rw[List.getLast?_append,List.dropLast_concat]
 rfl
theorem Ie (h:l≠[]):∃(i:List (Int×Int)) (r:Int×Int),l=i++[r]:=⟨l.dropLast,l.getLast h,(List.dropLast_concat_getLast h).symm⟩
def dH (f:Nat->Bool):Nat->List (Int×Int)
 |0=>[]
 |k+1=>if f k=true then(if k≠0/\f (k-1)=true then Gw (dH f k)else dH f k++[((k:Int),1)])else dH f k
def cA (f:Nat->Bool):Nat->Nat
 |0=>0
 |k+1=>cA f k+if f k=true then 1 else 0
structure yA (f:Nat->Bool) (k:Nat):Prop where
 pl:Pl 0 (dH f k)
 is:∀j:Int,bU (dH f k) j↔∃m:Nat,j=m/\m<k/\f m=true
 sum:Nw (dH f k)=cA f k
theorem kp (a b:List (Int×Int)):Nw (a++b)=Nw a+Nw b:=by unfold Nw;rw[Ms,List.sum_append]
theorem C9 {k:Nat} (h:yA f k) (hk:k≠0) (hf:f (k-1)=true):∃(i:List (Int×Int)) (r:Int×Int),dH f k=i++[r]/\r.1+r.2=(k:Int):=by
 have Ph:bU (dH f k) ((k-1:Nat):Int):=(h.is _).2 ⟨k-1,rfl,by omega,hf⟩
 have Ot:dH f k≠[]:=fun e=>by rw[e]at Ph;exact ep _ Ph
 obtain⟨i,r,e⟩:=Ie Ot
 refine⟨i,r,e,?_⟩
 have hp:=h.pl
 rw[e]at hp Ph
 obtain⟨q1,q2,q3,q4,q5⟩:=hp.init
 have PN:r.1+r.2-1<k:=by
  have:bU (dH f k) (r.1+r.2-1):=by rw[e];exact bY.2 (Or.inr (ft.2 (by omega)))
  obtain⟨m,hm,Tg,_⟩:=(h.is _).1 this
  omega
 rcases bY.1 Ph with⟨x,hx,h1,h2⟩|hh
 .have:=q5 x hx;omega
 .have:=ft.1 hh;omega
theorem Ih (f:Nat->Bool) (k:Nat) (hk:k<=8192):yA f k:=by
 induction k with
 |zero=>exact⟨trivial,fun j=>⟨fun h=>absurd h (ep j),fun⟨m,_,h,_⟩=>by omega⟩,rfl⟩
 |succ k ih=>
  have ih:=ih (by omega)
  by_cases hf:f k=true
  .by_cases WY:k≠0/\f (k-1)=true
   .obtain⟨i,r,e,hr⟩:=C9 ih WY.1 WY.2
    have e1:dH f (k+1)=i++[(r.1,r.2+1)]:=by rw[dH,if_pos hf,if_pos WY,e,El]
    have hp:=ih.pl
    rw[e]at hp
    obtain⟨q1,q2,q3,q4,q5⟩:=hp.init
    refine⟨?_,fun j=>?_,?_⟩
    .rw[e1];exact q1.snoc q2 (by show 1<=r.2+1;omega) (by show r.1+(r.2+1)<=8192;omega) q5
    .rw[e1,bY,ft]
     have h1:=ih.is j
     rw[e,bY,ft]at h1
     constructor
     .rintro(h|⟨h2,h3⟩)
      .obtain⟨m,g1,g2,g3⟩:=h1.1 (Or.inl h)
       exact⟨m,g1,by omega,g3⟩
      .by_cases hj:j<r.1+r.2
       .obtain⟨m,g1,g2,g3⟩:=h1.1 (Or.inr ⟨h2,hj⟩)
        exact⟨m,g1,by omega,g3⟩
       .have h3:j<r.1+(r.2+1):=h3
        exact⟨k,by omega,by omega,hf⟩
     .rintro⟨m,g1,g2,g3⟩
      by_cases hm:m=k
      .refine Or.inr ⟨?_,?_⟩
       .show r.1<=j;omega
       .show j<r.1+(r.2+1);omega
      .rcases h1.2 ⟨m,g1,by omega,g3⟩with h|⟨h2,h3⟩
       .exact Or.inl h
       .exact Or.inr ⟨h2,by show j<r.1+(r.2+1);omega⟩
    .have:=ih.sum
     rw[e,kp]at this
     rw[e1,kp,cA,if_pos hf]
     have e2:Nw [(r.1,r.2+1)]=Nw [r]+1:=by simp[Nw]
     rw[e2];omega
   .have e1:dH f (k+1)=dH f k++[((k:Int),1)]:=by rw[dH,if_pos hf,if_neg WY]
    refine⟨?_,fun j=>?_,?_⟩
    .rw[e1]
     refine ih.pl.snoc (by show(0:Int)<=k;omega) (by show(1:Int)<=1;omega) (by show(k:Int)+1<=8192;omega) (fun x hx=>?_)
     have Vz:=ih.pl.mem hx
     obtain⟨m,g1,g2,g3⟩:=(ih.is (x.1+x.2-1)).1 ⟨x,hx,by omega,by omega⟩
     show x.1+x.2+1<=(k:Int)
     by_cases hm:m=k-1
     .subst hm
      exact absurd ⟨by omega,g3⟩ WY
     .omega
    .rw[e1,bY,ft,ih.is j]
     constructor
     .rintro(⟨m,g1,g2,g3⟩|⟨h2,h3⟩)
      .exact⟨m,g1,by omega,g3⟩
      .have h2:(k:Int)<=j:=h2
       have h3:j<(k:Int)+1:=h3
       exact⟨k,by omega,by omega,hf⟩
     .rintro⟨m,g1,g2,g3⟩
      by_cases hm:m=k
      .refine Or.inr ⟨?_,?_⟩
       .show(k:Int)<=j;omega
       .show j<(k:Int)+1;omega
      .exact Or.inl ⟨m,g1,by omega,g3⟩
    .rw[e1,kp,ih.sum,cA,if_pos hf]
     simp[Nw]
  .have e1:dH f (k+1)=dH f k:=by rw[dH,if_neg hf]
   refine⟨by rw[e1];exact ih.pl,fun j=>?_,by rw[e1,ih.sum,cA,if_neg hf];omega⟩
   rw[e1,ih.is j]
   constructor
   .rintro⟨m,g1,g2,g3⟩;exact⟨m,g1,by omega,g3⟩
   .rintro⟨m,g1,g2,g3⟩
    refine⟨m,g1,?_,g3⟩
    by_cases hm:m=k
    .subst hm;exact absurd g3 hf
    .omega
def eU (f:Nat->Bool):List (Int×Int):=dH f 8192
theorem sW (f:Nat->Bool):yA f 8192:=Ih f 8192 (Md _)
theorem et (f:Nat->Bool):Pl 0 (eU f):=(sW f).pl
theorem sY (f:Nat->Bool) (j:Int):bU (eU f) j↔∃m:Nat,j=m/\m<8192/\f m=true:=(sW f).is j
theorem qL (f:Nat->Bool):Nw (eU f)=cA f 8192:=(sW f).sum
theorem lU (h:Pl 0 p) (e:∀m:Nat,m<8192->(bU p m↔f m=true)):p=eU f:=by
 refine Pl.uniq h (et f) (fun i=>?_)
 rw[sY]
 constructor
 .intro hi
  have:=h.ge hi
  obtain⟨m,rfl⟩:=Mr this.1
  exact⟨m,rfl,by omega,(e m (by omega)).1 hi⟩
 .rintro⟨m,rfl,h1,h2⟩
  exact(e m h1).2 h2
theorem kh (f:Nat->Bool) (m:Nat) (hm:m<8192):aC (eU f) m=f m:=by
 rw[Bool.eq_iff_iff,bF,sY]
 constructor
 .rintro⟨k,h1,_,h2⟩
  obtain rfl:m=k:=by omega
  exact h2
 .intro h;exact⟨m,rfl,hm,h⟩
theorem uk (k:Nat) (h:∀m,m<k->f m=g m):cA f k=cA g k:=by
 induction k with
 |zero=>rfl
 |succ k ih=>rw[cA,cA,ih (fun m hm=>h m (by omega)),h k (by omega)]
theorem yT (k:Nat) (h:∀m,m<k->f m=g m):dH f k=dH g k:=by
 induction k with
 |zero=>rfl
 |succ k ih=>
  rw[dH,dH,ih (fun m hm=>h m (by omega)),h k (by omega)]
  by_cases hk:k=0
  .subst hk;simp
  .rw[h (k-1) (by omega)]
theorem Ab (h:∀m,m<8192->f m=g m):eU f=eU g:=yT 8192 h
def NY (l:List (Int×Int)):List (Int×Int):=eU (aC l)
def uW (a b:List (Int×Int)):List (Int×Int):=eU (fun k=>aC a k&&aC b k)
def Oz (a b:List (Int×Int)):List (Int×Int):=eU (fun k=>aC a k&& !aC b k)
def Oc (l:List (Int×Int)):Nat:=cA (aC l) 8192
theorem qi (l:List (Int×Int)):Nw (NY l)=Oc l:=qL _
theorem tI (h:Pl 0 p):NY p=p:=(lU h (fun m _=>bF.symm)).symm
theorem fp (a b:List (Int×Int)) (k:Nat):aC (a++b) k=(aC a k||aC b k):=by unfold aC;rw[List.any_append]
section
variable {w w':World} {g n:Nat} {t:TypeId} {f:Nat->Value}
end
theorem xo (t e:TypeId) (i:TypeInfo) (z:Value) (ht:P.underlying t=some (.slice e)) (hi:P.info? e=some i) (hz:i.zero=some z) (PR:i.size=1) (hzc:z.cells=#[z])
  (n:Nat) (hb:i.bytes*n<=281474976710656) (hn:n<=9223372036854775807) (w:World):
  (Instr.makeSlice t (.int .i64 n) (.int .i64 n)).run P w=.ok (.slice (some ⟨w.heap.size,0,none⟩) n n) (w.alloc (.cells (Array.replicate n z) e)):=by
 have UW:(i.bytes:Int)*(n:Int)<=281474976710656:=by
  have h:((i.bytes*n:Nat):Int)<=281474976710656:=by omega
  rwa[Int.natCast_mul]at h
 have h:=run_make (P:=P) w t e i z ht hi hz .i64 .i64 n n (by omega) (by omega) UW (by omega)
 rw[h,PR,hzc]
 simp only[ML,Nat.mul_one]
 congr 3
 apply Array.toList_inj.1
 rw[toList_madeCells_one]
 simp
theorem af.weaken {lo' hi':Nat} (h:af w v l lo hi) (h1:lo'<=lo) (h2:hi<=hi') (h3:hi'<=w.heap.size):af w v l lo' hi':=by
 rcases h with h|⟨b,off,c,e1,e2,e3,e4,e5,e6,e7,e8⟩
 .exact Or.inl h
 .exact Or.inr ⟨b,off,c,e1,e2,by omega,by omega,h3,e6,e7,e8⟩
def No (l:List (Int×Int)):List Value:=(l.map fun r=>[Value.int .i64 r.1,Value.int .i64 r.2]).flatten
theorem dv (l:List (Int×Int)):(No l).length=l.length*2:=by
 induction l with
 |nil=>rfl
 |cons a l ih=>simp only[No,List.map_cons,List.flatten_cons,Mc,Mz,List.length_nil]at*;omega
theorem M43 {A:Prop}(h:A:=by
 rw[e]
 have:=ih i (by simpa using h)
 have e1:(i+1)*2=i*2+1+1:=by omega
 have e2:(i+1)*2+1=i*2+1+1+1:=by omega
 rw[e1,List.getElem?_cons_succ,List.getElem?_cons_succ,List.getElem?_cons_succ,List.getElem?_cons_succ]
 simpa using this):A:=h
theorem kI (l:List (Int×Int)) (i:Nat) (h:i<l.length):(No l)[i*2]? =some (.int .i64 l[i].1)/\(No l)[i*2+1]? =some (.int .i64 l[i].2):=by
 induction l generalizing i with
 |nil=>simp at h
 |cons a l ih=>
  cases i with
  |zero=>exact⟨rfl,rfl⟩
  |succ i=>
   have e:No (a::l)=Value.int .i64 a.1::Value.int .i64 a.2::No l:=rfl
   exact M43
theorem cD (l:List (Int×Int)) (r:Int×Int):No (l++[r])=No l++[.int .i64 r.1,.int .i64 r.2]:=by simp[No]
theorem kH (l:List (Int×Int)):∀u∈No l,u.oneCell'=true:=by
 intro u hu
 simp only[No,List.mem_flatten,MV]at hu
 obtain⟨_,⟨r,_,rfl⟩,hu⟩:=hu
 simp at hu
 rcases hu with rfl|rfl<;>rfl
theorem af.bo {base:Nat} (h:w.ownsRow base 128 2 v n (No l)):af w v l base w.heap.size:=by
 obtain⟨hlen,h⟩:=h
 rw[dv]at hlen
 have hn:l.length=n:=by omega
 rcases h with⟨rfl,rfl⟩|⟨g,cap,cur,rfl,hb,hg,hnc,Pb,SK,htake⟩
 .exact Or.inl ⟨Mt hn,_,_,rfl⟩
 .by_cases h0:n=0
  .subst h0
   exact Or.inl ⟨Mt hn,_,_,rfl⟩
  .refine Or.inr ⟨g,0,cap,by rw[hn],fun i hi=>?_,hb,MY hg,Md _,fun h=>by rw[h]at hn;simp at hn;omega,by omega,Pb⟩
   obtain⟨g1,g2⟩:=kI l i hi
   have key:∀j u,(No l)[j]? =some u->w.cell? ⟨g,0+j,none⟩=some u:=fun j u hj=>by
    rw[Nat.zero_add,cell_of_row w g j cur 128 (0,0) hg]
    rw[<-htake]at hj
    have hjn:j<n*2:=by
     rcases Nat.lt_or_ge j (n*2)with h|h
     .exact h
     .rw[List.getElem?_eq_none (by rw[Mp];omega)]at hj;cases hj
    rw[List.getElem?_take_of_lt hjn]at hj
    simpa using hj
   exact⟨key _ _ g1,key _ _ g2⟩
theorem VQ {A:Prop}(h:A:=by
 obtain⟨i0,hi0,hz0,PS,P8⟩:=info_parts hi
 exact⟨i0,hi0,hz0,PS,P8⟩):A:=h
theorem gT:∃i,Tryz.prog.info? 128=some i/\i.zero=some (.agg #[.int .i64 0,.int .i64 0])/\i.size=2/\i.bytes=16:=by
 have hi:(Tryz.prog.info? 128).map (fun i=>(i.zero,i.size,i.bytes))=some (some (.agg #[.int .i64 0,.int .i64 0]),2,16):=by kernel_rfl
 exact VQ
theorem af.cells {off c:Nat} (h:af w (.slice (some ⟨b,off,none⟩) n c) l lo hi):∀j u,(No l)[j]? =some u->w.cell? ⟨b,off+j,none⟩=some u:=by
 intro j u hj
 have hjl:j<(No l).length:=by
  rcases Nat.lt_or_ge j (No l).length with h|h
  .exact h
  .rw[List.getElem?_eq_none h]at hj;cases hj
 rw[dv]at hjl
 have hi':j/2<l.length:=by omega
 obtain⟨b',off',e,c0,c1,_⟩:=h.at_ (j/2) hi'
 injection e with e
 injection e with e1 e2 _
 subst e1 e2
 obtain⟨g1,g2⟩:=kI l (j/2) hi'
 rcases Nat.mod_two_eq_zero_or_one j with h|h
 .have ej:j/2*2=j:=by omega
  rw[ej]at c0 g1
  rw[c0,<-g1,hj]
 .have ej:j/2*2+1=j:=by omega
  rw[Nat.add_assoc,ej]at c1
  rw[ej]at g2
  rw[c1,<-g2,hj]
theorem M27 {A:Prop}(h:A:=by
 obtain⟨rfl,rfl⟩:=e
 have hh:af w (.slice (some ⟨b,off,none⟩) l.length c) l lo hi:=Or.inr ⟨b,off,c,rfl,h2⟩
 intro j u hj
 rw[My]
 exact hh.cells j u hj):A:=h
theorem Dr (v:Value) (l:List (Int×Int)) (lo hi:Nat) (w:World) (h:af w v l lo hi) (hl:l.length<=1000000):
  Calls Tryz.prog 69 #[v] w fun e w'=>(∃v',e=.returned v'/\af w' v' l w.heap.size w'.heap.size)/\aa [] w w':=by
 obtain⟨i0,hi0,hz0,PS,P8⟩:=gT
 have q22:∀(w:World) (a:Option Addr) (n c n' c':Nat),(binOp .eql 56 (.slice a n c) (.slice none n' c')).run Tryz.prog w=.ok (.bool a.isNone) w:=fun w a n c n' c'=>Lib.run_eql_slice_nil w _ _ a n c n' c' Tryz.underlying56
 obtain⟨p,c,rfl⟩:=h.shape
 cases p with
 |none=>
  have UI:l=[]:=by
   rcases h with⟨h,_⟩|⟨b,off,c',e,_⟩
   .exact h
   .simp at e
  subst UI
  go_enter Tryz.func69,Tryz.ntmps69
  go_wp2_with fail
  go_ret
  exact⟨⟨_,rfl,Or.inl ⟨rfl,_,_,rfl⟩⟩,aa.refl _ _⟩
 |some ad=>
  have NW:∀j u,(No l)[j]? =some u->w.cell? (ad.add j)=some u:=by
   rcases h with⟨rfl,_⟩|⟨b,off,c',e,h2⟩
   .intro j u hj;simp[No]at hj
   .simp at e
    exact M27
  have A:=Mb NW
  clear NW h
  have Vq:=dv l
  have QU:=kH l
  have Xw:=Mb Vq
  have HR2:=Mb QU
  clear Vq QU
  go_enter Tryz.func69,Tryz.ntmps69
  go_wp2_with (at_builtin;refine wpList_append_own _ rfl _ _ 56 rfl w.heap.size 128 i0 _ 2 16 Tryz.underlying56 hi0 hz0 PS P8 rfl (by decide) _ _ _ rfl (World.ownsRow_made w #[] 0 (Md _) (Mu _) (by simp)) ad l.length c (No l) rfl ?qc1 ?qc2 ?qc3 ?qc4 ?qc5 ?qc6 ?_)
  case qc1=>exact Xw.out
  case qc2=>intro j u hj;exact Lib.cell?_alloc_some _ (A.out j u hj)
  case qc3=>exact HR2.out
  case qc4=>unfold maxLen;omega
  case qc5=>omega
  case qc6=>simp
  intro v' w1 N3 Om QE
  have Qi:=af.bo (l:=l) (by simpa using N3)
  have OY:aa [] w w1:=((aa.refl _ _).alloc _).grown Om (fun k hk=>Or.inr (by simp[Value.ownBlock]at hk;omega))
  clear N3 Om QE
  go_wp2_with fail
  go_ret
  exact⟨⟨_,rfl,Qi⟩,OY⟩
theorem ae.c2 (h:ae w b #[x0,x1] t):w.cell? ⟨b,0,none⟩=some x0/\w.cell? ⟨b,1,none⟩=some x1:=
 ⟨h.cell 0 (by simp),h.cell 1 (by simp)⟩
theorem ae.c4 (h:ae w b #[x0,x1,x2,x3] t):w.cell? ⟨b,0,none⟩=some x0/\w.cell? ⟨b,1,none⟩=some x1/\w.cell? ⟨b,2,none⟩=some x2/\w.cell? ⟨b,3,none⟩=some x3:=
 ⟨h.cell 0 (by simp),h.cell 1 (by simp),h.cell 2 (by simp),h.cell 3 (by simp)⟩
theorem ae.z4 (h:ae w b #[x0,x1,x2,x3] t):w.frozen? ⟨b,0,none⟩=false/\w.frozen? ⟨b,1,none⟩=false/\w.frozen? ⟨b,2,none⟩=false/\w.frozen? ⟨b,3,none⟩=false:=
 ⟨h.free 0,h.free 1,h.free 2,h.free 3⟩
theorem jP (w:World) (A B C D:Array Value) (s t u v:TypeId):ae ((((w.alloc (.cells A s)).alloc (.cells B t)).alloc (.cells C u)).alloc (.cells D v)) w.heap.size A s/\ae ((((w.alloc (.cells A s)).alloc (.cells B t)).alloc (.cells C u)).alloc (.cells D v)) (w.heap.size+1) B t/\ae ((((w.alloc (.cells A s)).alloc (.cells B t)).alloc (.cells C u)).alloc (.cells D v)) (w.heap.size+1+1) C u/\ae ((((w.alloc (.cells A s)).alloc (.cells B t)).alloc (.cells C u)).alloc (.cells D v)) (w.heap.size+1+1+1) D v:=by
 obtain⟨a,b,c⟩:=j9 w A B C s t u
 refine⟨a.alloc _,b.alloc _,c.alloc _,?_⟩
 have:=ae.new (((w.alloc (.cells A s)).alloc (.cells B t)).alloc (.cells C u)) D v
 simpa only[MK]using this
theorem ak {fn:Func} {p u:Tmp} (h:fn.results=#[.cell p ty,.tmp u]) {g:Nat} {d:TypeDesc} {x:Value}
  (hp:tmps.getD p undef=.pointer (some ⟨g,0,none⟩)) (hx:tmps.getD u undef=x) (o:ae w g cs t) (hu:P.underlying ty=some d) (hd:(match d with|.struct _|.array _ _=>true|_=>false)=true) (hi:(P.info? ty).map (·.size)=some cs.size):
  (results fn tmps).run P w=.ok (.tuple #[.agg cs,x]) w:=by
 rw[results_cell_tmp h,hp,hx]
 simp[asAddr,run_loadVar_row w g t ty cs (0,0) d o hu hd hi]
theorem nf {fn:Func} {p:Tmp} (h:fn.results=#[.cell p ty]) {g:Nat} {d:TypeDesc}
  (hp:tmps.getD p undef=.pointer (some ⟨g,0,none⟩)) (o:ae w g cs t) (hu:P.underlying ty=some d) (hd:(match d with|.struct _|.array _ _=>true|_=>false)=true) (hi:(P.info? ty).map (·.size)=some cs.size):
  (results fn tmps).run P w=.ok (.agg cs) w:=results_cell_row h tmps w g t cs (0,0) d hp o hu hd hi
theorem ae.dU (h:ae w b #[x0,x1,x2,x3] t) (y0 y1 y2 y3:Value):
  ae ((((w.setCell ⟨b,0,none⟩ y0).setCell ⟨b,1,none⟩ y1).setCell ⟨b,2,none⟩ y2).setCell ⟨b,3,none⟩ y3) b #[y0,y1,y2,y3] t:=by
 have:=(((h.set 0 y0).set 1 y1).set 2 y2).set 3 y3
 simpa using this
end Go.Proofs.YtdkimcnlhmhpgaaGreat
namespace Go.Proofs.YtdkimcnlhmhpgaaGreat
open Go.RowKit
theorem MQ:type_of% @decide_eq_true:=@decide_eq_true
theorem Mx:type_of% @bodyPost_ret:=@bodyPost_ret
def bC (a:Int×Int):(Int×Int)×Bool:=
 if a.2<1\/8192<=a.1 then((0,0),false)
 else if a.1<0 then((0,min (a.2+a.1) 8192),decide (0<min (a.2+a.1) 8192))
 else((a.1,min a.2 (8192-a.1)),decide (0<min a.2 (8192-a.1)))
def tb (a:Int×Int) (w:World) (e:Ending) (w':World):Prop:=
 e=.returned (.tuple #[.agg #[.int .i64 (bC a).1.1,.int .i64 (bC a).1.2],.bool (bC a).2])/\aa [] w w'
theorem M44 {A:Prop}(h:A:=by
 rw[e]
 go_enter Tryz.func183,Tryz.ntmps183
 go_wp2_with fail
 refine Mx (v:=.tuple #[.agg #[.int .i64 0,.int .i64 0],.bool false]) ?_ ?_ ?_
 .exact ak Tryz.results183 rfl rfl (cQ w _ _ _ _).2 Tryz.underlying128 rfl (by kernel_rfl)
 .rfl
 .exact⟨rfl,hk⟩):A:=h
theorem KE (a:Int×Int) (w:World) (hw:aU a):Calls Tryz.prog 183 #[.agg #[.int .i64 a.1,.int .i64 a.2]] w (tb a w):=by
 obtain⟨x,n⟩:=a
 obtain⟨w1,w2,w3,w4⟩:=hw
 simp only at w1 w2 w3 w4 ⊢
 unfold tb
 have hk:aa [] w ((w.alloc (.cells #[.int .i64 x,.int .i64 n] 128)).alloc (.cells #[.int .i64 0,.int .i64 0] 128)):=((aa.refl _ _).alloc _).alloc _
 rcases(by omega:n<1\/(1<=n/\8192<=x)\/(1<=n/\x<8192/\x<0)\/(1<=n/\x<8192/\0<=x))with h1|⟨h1,h2⟩|⟨h1,h2,h3⟩|⟨h1,h2,h3⟩
 .have e:bC (x,n)=((0,0),false):=by unfold bC;rw[if_pos (Or.inl h1)]
  exact M44
 .have e:bC (x,n)=((0,0),false):=by unfold bC;rw[if_pos (Or.inr h2)]
  exact M44
 .have e:bC (x,n)=((0,min (n+x) 8192),decide (0<min (n+x) 8192)):=by unfold bC;rw[if_neg (by simp only;omega),if_pos h3]
  rw[e]
  obtain⟨m,hm⟩:∃m,min (n+x) 8192=m:=⟨_,rfl⟩
  rw[hm]
  clear e hk
  go_enter Tryz.func183,Tryz.ntmps183
  go_wp2_with fail
  .go_region
   go_wp2_with fail
   obtain rfl:m=8192:=by omega
   rw[show decide (0<(8192:Int))=true from MQ (by omega)]
   refine Mx (v:=.tuple #[.agg #[.int .i64 0,.int .i64 (8192)],.bool true]) ?_ ?_ ?_
   .exact ak Tryz.results183 rfl rfl (ae.drew (cQ w _ _ _ _).2) Tryz.underlying128 rfl (by kernel_rfl)
   .rfl
   .exact⟨rfl,(((aa.refl _ _).alloc _).alloc _).drew⟩
  .go_region
   go_wp2_with fail
   obtain rfl:m=n+x:=by omega
   refine Mx (v:=.tuple #[.agg #[.int .i64 0,.int .i64 (n+x)],.bool (decide (0<(n+x:Int)))]) ?_ ?_ ?_
   .exact ak Tryz.results183 rfl rfl (ae.drew (cQ w _ _ _ _).2) Tryz.underlying128 rfl (by kernel_rfl)
   .rfl
   .exact⟨rfl,(((aa.refl _ _).alloc _).alloc _).drew⟩
 .have e:bC (x,n)=((x,min n (8192-x)),decide (0<min n (8192-x))):=by unfold bC;rw[if_neg (by simp only;omega),if_neg (by simp only;omega)]
  rw[e]
  obtain⟨m,hm⟩:∃m,min n (8192-x)=m:=⟨_,rfl⟩
  rw[hm]
  clear e hk
  go_enter Tryz.func183,Tryz.ntmps183
  go_wp2_with fail
  .go_region
   go_wp2_with fail
   obtain rfl:m=8192-x:=by omega
   rw[show decide (0<(8192-x:Int))=true from MQ (by omega)]
   refine Mx (v:=.tuple #[.agg #[.int .i64 x,.int .i64 (8192-x)],.bool true]) ?_ ?_ ?_
   .exact ak Tryz.results183 rfl rfl (ae.drew (cQ w _ _ _ _).2) Tryz.underlying128 rfl (by kernel_rfl)
   .rfl
   .exact⟨rfl,(((aa.refl _ _).alloc _).alloc _).drew⟩
  .go_region
   go_wp2_with fail
   obtain rfl:m=n:=by omega
   refine Mx (v:=.tuple #[.agg #[.int .i64 x,.int .i64 (m)],.bool (decide (0<(m:Int)))]) ?_ ?_ ?_
   .exact ak Tryz.results183 rfl rfl (ae.drew (cQ w _ _ _ _).2) Tryz.underlying128 rfl (by kernel_rfl)
   .rfl
   .exact⟨rfl,(((aa.refl _ _).alloc _).alloc _).drew⟩
theorem EF (x:Int) (w:World):Calls Tryz.prog 241 #[.int .i64 x] w fun e w'=>e=.returned (.bool false)/\w=w':=by
 go_enter Tryz.func241,Tryz.ntmps241
 go_wp2_with fail
 go_ret
 exact⟨rfl,rfl⟩
def Qx (x y:Int):Int:=if x<y then -1 else if y<x then 1 else 0
theorem M41 {A:Prop}(h:A:=by
 go_enter Tryz.func186,Tryz.ntmps186
 go_wp2_with (go_at_call 241;refine(EF _ _).mono ?_;rintro e w' ⟨rfl,rfl⟩)
 go_ret
 exact⟨rfl,rfl⟩):A:=h
theorem EG (x y:Int) (w:World):Calls Tryz.prog 186 #[.int .i64 x,.int .i64 y] w fun e w'=>e=.returned (.int .i64 (Qx x y))/\w=w':=by
 unfold Qx
 rcases(by omega:x<y\/(¬x<y/\y<x)\/(¬x<y/\¬y<x))with h1|⟨h1,h2⟩|⟨h1,h2⟩
 .rw[if_pos h1]
  exact M41
 .rw[if_neg h1,if_pos h2]
  exact M41
 .rw[if_neg h1,if_neg h2]
  exact M41
end Go.Proofs.YtdkimcnlhmhpgaaGreat

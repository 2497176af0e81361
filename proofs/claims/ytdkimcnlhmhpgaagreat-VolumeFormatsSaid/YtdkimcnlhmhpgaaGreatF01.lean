/- -/
import Derived.Test.YtdkimcnlhmhpgaaGreatProg
import Derived.WalkSpells
import Derived.WalkLawsBesides
import Derived.Lib.Hide
import Derived.ProofKit
import Derived.OpenShut
import Derived.Deep.LoopGhost
import Derived.Deep.SlicePairs
import Derived.Deep.AppendLies
set_option maxHeartbeats 32000000
set_option maxRecDepth 100000
namespace Go.Proofs.YtdkimcnlhmhpgaaGreat
section
section
open Go.Proofs.Tryz Go.RowKit
theorem a? {A:Prop}(h:A:=by omega):A:=h
theorem b? {A:Prop}(h:A:=by simp):A:=h
theorem c? {A:Prop}(h:A:=by kernel_rfl):A:=h
theorem d? {A:Prop}(h:A:=by decide):A:=h
theorem e? {A:Prop}(h:A:=by simp;omega):A:=h
theorem g? {A:Prop}(h:A:=by simp[Act.eval,Act.put]):A:=h
theorem h? {A:Prop}(h:A:=by simpa using hx):A:=h
theorem i? {A:Prop}(h:A:=by repeat' first|exact NP.refl _ _|refine NP.drew ?_|refine NP.drewN ?_ _|refine NP.setCell ?_ (Or.inl (by simp)) _):A:=h
theorem j? {A:Prop}(h:A:=by go_num):A:=h
theorem k? {A:Prop}(h:A:=by repeat' first|exact NP.refl _ _|exact Sp|refine NP.drew ?_|refine NP.drewN ?_ _|refine NP.setCell ?_ (Or.inl (by simp)) _):A:=h
theorem l? {A:Prop}(h:A:=by intro u hu;simp at hu;rcases hu with rfl|rfl|rfl|rfl|rfl<;>rfl):A:=h
theorem m? {A:Prop}(h:A:=by unfold maxLen;omega):A:=h
theorem n? {A:Prop}(h:A:=by assumption):A:=h
theorem o? {A:Prop}(h:A:=by simp only[Lit.wf,No,decide_eq_true_eq];exact⟨by show(-9223372036854775808:Int)<=_;omega,by show _<=(9223372036854775807:Int);omega⟩):A:=h
theorem p? {A:Prop}(h:A:=by have:=HB.out;unfold maxLen;omega):A:=h
theorem q? {A:Prop}(h:A:=by rw[NQ,ak]):A:=h
theorem r? {A:Prop}(h:A:=by rw[H1.out];omega):A:=h
theorem s? {A:Prop}(h:A:=by have:=HB.out;omega):A:=h
theorem t? {A:Prop}(h:A:=by intro u hu;simp at hu;rcases hu with rfl|rfl|rfl|rfl<;>rfl):A:=h
theorem u? {A:Prop}(h:A:=by exact HS.out _ HK.out.drew):A:=h
theorem v? {A:Prop}(h:A:=by intro u hu;simp at hu;rcases hu with rfl|rfl<;>rfl):A:=h
theorem w? {A:Prop}(h:A:=by rw[MO];omega):A:=h
theorem x? {A:Prop}(h:A:=by have:=Uf.out;omega):A:=h
theorem y? {A:Prop}(h:A:=by rw[Nl];omega):A:=h
theorem z? {A:Prop}(h:A:=by rw[MQ];omega):A:=h
theorem A? {A:Prop}(h:A:=by rw[hPR];simp[ak,df];try omega):A:=h
theorem B? {A:Prop}(h:A:=by have:=wi ((PP l).1:Int) (tR l).2.1 (tR l).2.2;have e:zR l=ux ((PP l).1:Int) (tR l).2.1 (tR l).2.2:=rfl;rw[e];omega):A:=h
theorem C? {A:Prop}(h:A:=by simpa[Value.ownBlock]using hq.symm):A:=h
theorem D? {A:Prop}(h:A:=by simpa using hi):A:=h
theorem E? {A:Prop}(h:A:=by have:=TK.out;omega):A:=h
theorem F? {A:Prop}(h:A:=by have:=Tc.out;simp;omega):A:=h
theorem G? {A:Prop}(h:A:=by first|rfl|go_num):A:=h
theorem H? {A:Prop}(h:A:=by rw[hW1];exact(NP.refl _ _).alloc _):A:=h
theorem I? {A:Prop}(h:A:=by have:=h.hb;have:=h.hxb;show b≠xb;omega):A:=h
theorem J? {A:Prop}(h:A:=by exact Ow.out _ ((NP.refl [] w3).drew)):A:=h
theorem K? {A:Prop}(h:A:=by rw[hk];decide):A:=h
theorem L? {A:Prop}(h:A:=by rfl):A:=h
theorem M? {A:Prop}(h:A:=by rw[IntKind.wrap_i64];omega):A:=h
theorem N? {A:Prop}(h:A:=by have:=Yc.out;have:=YR.out;unfold maxLen;omega):A:=h
theorem O? {A:Prop}(h:A:=by first|exact OP|exact OP.drew|exact OP.drewN _):A:=h
theorem P? {A:Prop}(h:A:=by simpa using h1):A:=h
theorem Q? {A:Prop}(h:A:=by have:=h.fuse;omega):A:=h
theorem S? {A:Prop}(h:A:=by rw[IntWalk.i64_in _ (by omega)];omega):A:=h
theorem T? {A:Prop}(h:A:=by simpa using h):A:=h
theorem U? {A:Prop}(h:A:=by rw[hW1];exact ae.new _ _ _):A:=h
theorem V? {A:Prop}(h:A:=by show w.heap.size<=w.heap.size+1+1;omega):A:=h
theorem W? {A:Prop}(h:A:=by rw[NQ];rw[ak];omega):A:=h
theorem X? {A:Prop}(h:A:=by rw[NQ,ak];omega):A:=h
theorem Y? {A:Prop}(h:A:=by simp[World.setCell]<;>omega):A:=h
theorem Z? {A:Prop}(h:A:=by have:=k2.size;simpa using this):A:=h
theorem a! {A:Prop}(h:A:=by rw[h.down];simp):A:=h
theorem b! {A:Prop}(h:A:=by have:=Zp.out;unfold maxLen;omega):A:=h
theorem c! {A:Prop}(h:A:=by simp[IntKind.wrap,IntKind.bits,IntKind.signed]):A:=h
theorem d! {A:Prop}(h:A:=by show b<_;omega):A:=h
theorem e! {A:Prop}(h:A:=by simpa using h2):A:=h
theorem g! {A:Prop}(h:A:=by unfold SB.dD at S2;exact mn (by omega) (by omega)):A:=h
theorem h! {A:Prop}(h:A:=by rw[PX];have:=Nat.mul_le_mul_right 4 SR;show _+4<=_;omega):A:=h
theorem i! {A:Prop}(h:A:=by rw[if_neg (by decide)];exact HH.out.kept0 K3.out):A:=h
theorem j! {A:Prop}(h:A:=by have:=XV.out;unfold maxLen;omega):A:=h
theorem k! {A:Prop}(h:A:=by rw[aY,NQ];simp;omega):A:=h
theorem l! {A:Prop}(h:A:=by rw[hP,aw];unfold jg;rw[HNU.out.1,HNU.out.2];rfl):A:=h
theorem o! {A:Prop}(h:A:=by have:=Yc.out;have:=YR.out;omega):A:=h
theorem p! {A:Prop}(h:A:=by have:=Oo.hrb;simp;omega):A:=h
theorem q! {A:Prop}(h:A:=by have:=HO.out;show op+1<=_;omega):A:=h
theorem t! {A:Prop}(h:A:=by first|exact kk2|exact kk2.drew):A:=h
theorem u! {A:Prop}(h:A:=by rw[PX];have:=Nat.mul_le_mul_right 4 SR;omega):A:=h
theorem v! {A:Prop}(h:A:=by have:=Pz.boxes.1;omega):A:=h
theorem w! {A:Prop}(h:A:=by have:=Pz.names.1;omega):A:=h
theorem x! {A:Prop}(h:A:=by have:=ZP.out;unfold SB.dD at this;omega):A:=h
theorem y! {A:Prop}(h:A:=by simpa[Value.ownBlock]using hg):A:=h
theorem z! {A:Prop}(h:A:=by simp[World.setCell]):A:=h
theorem A! {A:Prop}(h:A:=by simpa using hj):A:=h
theorem B! {A:Prop}(h:A:=by have:=Pz.mans.1;omega):A:=h
theorem C! {A:Prop}(h:A:=by show d.waits.length<=_;omega):A:=h
theorem D! {A:Prop}(h:A:=by rw[HT0.out,NQ];simp[ak,df];try omega):A:=h
theorem E! {A:Prop}(h:A:=by show D.waits.length<=_;omega):A:=h
theorem F! {A:Prop}(h:A:=by simpa using hr):A:=h
theorem G! {A:Prop}(h:A:=by show w.heap.size+1≠w.heap.size+1+1;omega):A:=h
theorem H! {A:Prop}(h:A:=by show w.heap.size+1+1≠w.heap.size+1;omega):A:=h
theorem I! {A:Prop}(h:A:=by show min _ _=_;omega):A:=h
theorem J! {A:Prop}(h:A:=by cases hx):A:=h
theorem K! {A:Prop}(h:A:=by rw[hz];omega):A:=h
theorem L! {A:Prop}(h:A:=by rw[TO.out];exact NV):A:=h
theorem M! {A:Prop}(h:A:=by rw[h]at hr;cases hr):A:=h
theorem N! {A:Prop}(h:A:=by simpa using hy):A:=h
theorem O! {A:Prop}(h:A:=by have:=HO.out;omega):A:=h
theorem P! {A:Prop}(h:A:=by rw[NQ];omega):A:=h
theorem Q! {A:Prop}(h:A:=by rw[hPR,Rg];simp only[MW]):A:=h
theorem R! {A:Prop}(h:A:=by rw[hT,NH];exact hq):A:=h
theorem S! {A:Prop}(h:A:=by have:=Zs.out.size;omega):A:=h
theorem T! {A:Prop}(h:A:=by unfold gq;simp[*]):A:=h
theorem U! {A:Prop}(h:A:=by rw[NQ,gm];omega):A:=h
theorem V! {A:Prop}(h:A:=by cases ha):A:=h
theorem W! {A:Prop}(h:A:=by rw[hh,Bool.and_false]):A:=h
theorem X! {A:Prop}(h:A:=by rw[if_neg (by omega)]):A:=h
theorem Y! {A:Prop}(h:A:=by have:=Of.out;omega):A:=h
theorem Z! {A:Prop}(h:A:=by rw[h4];omega):A:=h
theorem aa! {A:Prop}(h:A:=by rw[h0];rfl):A:=h
theorem ab! {A:Prop}(h:A:=by rw[tN];omega):A:=h
theorem ac! {A:Prop}(h:A:=by exact OR.out.drew.k5):A:=h
theorem ad! {A:Prop}(h:A:=by rw[hPR,aw]):A:=h
theorem ae! {A:Prop}(h:A:=by simpa using hl):A:=h
theorem af! {A:Prop}(h:A:=by simpa using htake):A:=h
theorem ag! {A:Prop}(h:A:=by have:=Zp.out;omega):A:=h
theorem ah! {A:Prop}(h:A:=by simpa using WO):A:=h
theorem ai! {A:Prop}(h:A:=by rw[hd];simp):A:=h
theorem aj! {A:Prop}(h:A:=by exact hbx):A:=h
theorem ak! {A:Prop}(h:A:=by rw[NQ]):A:=h
theorem al! {A:Prop}(h:A:=by exact VG):A:=h
abbrev am!:=Calls prog
variable {w a w':World} {b:Nat} {cs:Array Value} {t:TypeId} {S T:List Nat}
theorem NK:type_of% @lt_of_block:=@lt_of_block
theorem ND:type_of% @List.mem_map:=@List.mem_map
theorem Nz:type_of% @List.mem_cons_of_mem:=@List.mem_cons_of_mem
theorem Nw:type_of% @Int.toNat_natCast:=@Int.toNat_natCast
theorem Ns:type_of% @heap_alloc_new:=@heap_alloc_new
theorem No:type_of% @Bool.and_eq_true:=@Bool.and_eq_true
theorem Nk:type_of% @Nat.le_trans:=@Nat.le_trans
theorem Nj:type_of% @List.length_cons:=@List.length_cons
theorem Ni:type_of% @Go.WideShapes.add_plain:=@Go.WideShapes.add_plain
theorem Nd:type_of% @World.size_alloc:=@World.size_alloc
theorem Nc:type_of% @List.eq_nil_of_length_eq_zero:=@List.eq_nil_of_length_eq_zero
theorem Nb:type_of% @Nat.zero_le:=@Nat.zero_le
theorem M0:type_of% @List.map_append:=@List.map_append
theorem MZ:type_of% @List.getElem?_eq_getElem:=@List.getElem?_eq_getElem
theorem MY:type_of% @List.mem_cons_self:=@List.mem_cons_self
theorem MR:type_of% @Nat.lt_of_lt_of_le:=@Nat.lt_of_lt_of_le
theorem MO:type_of% @List.length_take:=@List.length_take
theorem MM:type_of% @Int.eq_ofNat_of_zero_le:=@Int.eq_ofNat_of_zero_le
theorem MI:type_of% @List.take_succ_eq_append_getElem:=@List.take_succ_eq_append_getElem
theorem MG:type_of% @Nat.le_refl:=@Nat.le_refl
theorem tN:type_of% @List.length_append:=@List.length_append
theorem tK:type_of% @Lib.hid:=@Lib.hid
theorem f? {A B:Prop} (a:A) (b:B):Hid A/\Hid B:=⟨tK a,tK b⟩
theorem gg! {A B C:Prop} (a:A) (b:B) (c:C):Hid A/\Hid B/\Hid C:=⟨tK a,f? b c⟩
theorem gh! {A B C D:Prop} (a:A) (b:B) (c:C) (d:D):Hid A/\Hid B/\Hid C/\Hid D:=⟨tK a,gg! b c d⟩
theorem gi! {A B C D E:Prop} (a:A) (b:B) (c:C) (d:D) (e:E):Hid A/\Hid B/\Hid C/\Hid D/\Hid E:=⟨tK a,gh! b c d e⟩
theorem gj! {A B C D E F:Prop} (a:A) (b:B) (c:C) (d:D) (e:E) (f:F):Hid A/\Hid B/\Hid C/\Hid D/\Hid E/\Hid F:=⟨tK a,gi! b c d e f⟩
theorem gk! {A B C D E F G:Prop} (a:A) (b:B) (c:C) (d:D) (e:E) (f:F) (g:G):Hid A/\Hid B/\Hid C/\Hid D/\Hid E/\Hid F/\Hid G:=⟨tK a,gj! b c d e f g⟩
theorem ga! {A B C D E F G H:Prop} (a:A) (b:B) (c:C) (d:D) (e:E) (f:F) (g:G) (h:H):Hid A/\Hid B/\Hid C/\Hid D/\Hid E/\Hid F/\Hid G/\Hid H:=⟨tK a,gk! b c d e f g h⟩
theorem gb! {A B C D E F G H I:Prop} (a:A) (b:B) (c:C) (d:D) (e:E) (f:F) (g:G) (h:H) (i:I):Hid A/\Hid B/\Hid C/\Hid D/\Hid E/\Hid F/\Hid G/\Hid H/\Hid I:=⟨tK a,ga! b c d e f g h i⟩
theorem gc! {A B C D E F G H I J:Prop} (a:A) (b:B) (c:C) (d:D) (e:E) (f:F) (g:G) (h:H) (i:I) (j:J):Hid A/\Hid B/\Hid C/\Hid D/\Hid E/\Hid F/\Hid G/\Hid H/\Hid I/\Hid J:=⟨tK a,gb! b c d e f g h i j⟩
theorem gd! {A B C D E F G H I J K:Prop} (a:A) (b:B) (c:C) (d:D) (e:E) (f:F) (g:G) (h:H) (i:I) (j:J) (k:K):Hid A/\Hid B/\Hid C/\Hid D/\Hid E/\Hid F/\Hid G/\Hid H/\Hid I/\Hid J/\Hid K:=⟨tK a,gc! b c d e f g h i j k⟩
theorem ge! {A B C D E F G H I J K L:Prop} (a:A) (b:B) (c:C) (d:D) (e:E) (f:F) (g:G) (h:H) (i:I) (j:J) (k:K) (l:L):Hid A/\Hid B/\Hid C/\Hid D/\Hid E/\Hid F/\Hid G/\Hid H/\Hid I/\Hid J/\Hid K/\Hid L:=⟨tK a,gd! b c d e f g h i j k l⟩
theorem gf! {A B C D E F G H I J K L M:Prop} (a:A) (b:B) (c:C) (d:D) (e:E) (f:F) (g:G) (h:H) (i:I) (j:J) (k:K) (l:L) (m:M):Hid A/\Hid B/\Hid C/\Hid D/\Hid E/\Hid F/\Hid G/\Hid H/\Hid I/\Hid J/\Hid K/\Hid L/\Hid M:=⟨tK a,ge! b c d e f g h i j k l m⟩
def ae (w:World) (b:Nat) (cs:Array Value) (t:TypeId):Prop:=w.heap[b]? =some (.cells cs t (0,0))
theorem ae.lt (h:ae w b cs t):b<w.heap.size:=NK h
theorem ae.cell (h:ae w b cs t) (j) (hj:j<cs.size):w.cell? ⟨b,j,none⟩=some cs[j]:=by
 have h':w.heap[b]? =some (.cells cs t (0,0)):=h
 simp[World.cell?,h',hj]
theorem ae.free (h:ae w b cs t) (j):w.frozen? ⟨b,j,none⟩=false:=by
 have h':w.heap[b]? =some (.cells cs t (0,0)):=h
 simp[World.frozen?,h']
theorem ae.set (h:ae w b cs t) (j u):ae (w.setCell ⟨b,j,none⟩ u) b (cs.setIfInBounds j u) t:=
 heap_setCell_same w b j cs t u h
theorem ae.other (h:ae w b cs t) {p:Addr} (hp:b≠p.block) (u):ae (w.setCell p u) b cs t:=
 (Below.heap_setCell w p u b hp).trans h
theorem ae.drew (h:ae w b cs t):ae w.drew b cs t:=h
theorem ae.drewN (h:ae w b cs t) (n):ae (w.drewN n) b cs t:=h
theorem ae.alloc (h:ae w b cs t) (o):ae (w.alloc o) b cs t:=
 (Below.heap_alloc w o b h.lt).trans h
theorem ae.new (w:World) (cs:Array Value) (t:TypeId):ae (w.alloc (.cells cs t)) w.heap.size cs t:=Ns w _
theorem ch (w:World) (A B:Array Value) (s t:TypeId):ae ((w.alloc (.cells A s)).alloc (.cells B t)) w.heap.size A s/\ae ((w.alloc (.cells A s)).alloc (.cells B t)) (w.heap.size+1) B t:=by
 refine⟨(ae.new _ _ _).alloc _,?_⟩
 grind [ae.new,Nd]
theorem l9 (w:World) (A B C:Array Value) (s t u:TypeId):ae (((w.alloc (.cells A s)).alloc (.cells B t)).alloc (.cells C u)) w.heap.size A s/\ae (((w.alloc (.cells A s)).alloc (.cells B t)).alloc (.cells C u)) (w.heap.size+1) B t/\ae (((w.alloc (.cells A s)).alloc (.cells B t)).alloc (.cells C u)) (w.heap.size+2) C u:=by
 obtain⟨a,b⟩:=ch w A B s t
 refine⟨a.alloc _,b.alloc _,?_⟩
 grind [ae.new,Nd]
structure NP (S:List Nat) (w w':World):Prop where
 os:w'.os=w.os
 tape:w'.tape=w.tape
 output:w'.output=w.output
 size:w.heap.size<=w'.heap.size
 block:∀k,k<w.heap.size->k∉S->w'.heap[k]? =w.heap[k]?
theorem NP.refl (S w):NP S w w:=⟨rfl,rfl,rfl,MG _,fun _ _ _=>rfl⟩
theorem NP.trans {b c} (h:NP S a b) (k:NP S b c):NP S a c:=
 ⟨k.os.trans h.os,k.tape.trans h.tape,k.output.trans h.output,Nk h.size k.size,fun i hi hS=>(k.block i (MR hi h.size) hS).trans (h.block i hi hS)⟩
theorem NP.mono {b} (h:NP S a b) (hST:∀x∈S,x∈T):NP T a b:=
 ⟨h.os,h.tape,h.output,h.size,fun k hk hT=>h.block k hk (fun hS=>hT (hST k hS))⟩
theorem NP.drew (h:NP S a w):NP S a w.drew:=⟨h.os,h.tape,h.output,h.size,h.block⟩
theorem NP.drewN (h:NP S a w) (n):NP S a (w.drewN n):=⟨h.os,h.tape,h.output,h.size,h.block⟩
theorem NP.alloc (h:NP S a w) (o):NP S a (w.alloc o):=
 h.trans ⟨rfl,rfl,rfl,b?,fun k hk _=>Below.heap_alloc _ _ _ hk⟩
theorem NP.setCell {S:List Nat} {a w:World} (h:NP S a w) {p:Addr} (hp:p.block∈S\/a.heap.size<=p.block) (u:Value):NP S a (w.setCell p u):=
 ⟨h.os,h.tape,h.output,by simpa[World.setCell]using h.size,fun k hk hS=>(Below.heap_setCell w p u k (fun e=>by
  grind)).trans (h.block k hk hS)⟩
theorem NP.call {S T:List Nat} {a w w':World} (h:NP S a w) (k:NP T w w') (hT:∀x∈T,x∈S\/a.heap.size<=x):NP S a w':=
 ⟨k.os.trans h.os,k.tape.trans h.tape,k.output.trans h.output,Nk h.size k.size,fun i hi hS=>(k.block i (MR hi h.size) (fun hiT=>by
  grind)).trans (h.block i hi hS)⟩
theorem NP.xp (h:Below w.heap.size w w'):NP [] w w':=⟨h.os,h.tape,h.output,h.size,fun k hk _=>h.block k hk⟩
theorem NP.below (h:NP [] w w'):Below w.heap.size w w':=⟨h.os,h.tape,h.output,h.size,fun k hk=>h.block k hk b?⟩
theorem NP.own (h:NP S w w') (o:ae w b cs t) (hb:b∉S):ae w' b cs t:=
 (h.block b o.lt hb).trans o
theorem NP.cell (h:NP S w w') {a:Addr} (ha:a.block<w.heap.size) (hb:a.block∉S):w'.cell? a=w.cell? a:=
 World.cell?_of_block (w:=w) (h.block a.block ha hb)
theorem NP.grown {S:List Nat} {a w w':World} {row:Option Nat} (h:NP S a w) (hg:w.grownBy w' row) (hr:∀k,row=some k->k∈S\/a.heap.size<=k):NP S a w':=
 ⟨hg.os.trans h.os,hg.tape.trans h.tape,hg.output.trans h.output,Nk h.size hg.size,fun k hk hS=>(hg.block k (MR hk h.size) (fun e=>by
  grind)).trans (h.block k hk hS)⟩
def bs (l:List UInt8):ByteArray:=⟨l.toArray⟩
theorem cC (l):(bs l).data.toList=l:=rfl
theorem NQ (l):(bs l).size=l.length:=L?
theorem nW (s:ByteArray):bs s.data.toList=s:=L?
theorem aw (a b):bs a++bs b=bs (a++b):=by
 rfl
theorem aY (l a b):(bs l).extract a b=bs ((l.drop a).take (b-a)):=by
 apply ByteArray.ext
 simp[bs]
theorem bj (l):(bs l).toList=l:=by rw[ByteArray.toList_eq];rfl
theorem Kd (a b):(bs a==bs b)=(a==b):=by rw[beq_toListBytes,bj,bj]
theorem Kc:bs []={data:=#[]}:=rfl
end
instance:Coe Nat Addr:=⟨fun b=>⟨b,0,none⟩⟩
instance:Coe Nat Value:=⟨fun b=>.pointer (some ⟨b,0,none⟩)⟩
instance:Coe World Nat:=⟨fun w=>w.heap.size⟩
instance:Coe World Addr:=⟨fun w=>⟨w.heap.size,0,none⟩⟩
instance:Coe World Value:=⟨fun w=>.pointer (some ⟨w.heap.size,0,none⟩)⟩
instance:Coe Int Value:=⟨.int .i64⟩
instance:Coe Bool Value:=⟨.bool⟩
instance:Coe (List UInt8) Value:=⟨fun s=>.string (bs s)⟩
instance:Coe Nat (Option Value):=⟨fun b=>some (.pointer (some ⟨b,0,none⟩))⟩
instance:Coe Int (Option Value):=⟨fun b=>some (.int .i64 b)⟩
instance:Coe (List UInt8) (Option Value):=⟨fun s=>some (.string (bs s))⟩
instance:Coe Value Ending:=⟨.returned⟩
instance:Coe Int Ending:=⟨fun x=>.returned (.int .i64 x)⟩
instance:Coe Bool Ending:=⟨fun x=>.returned (.bool x)⟩
instance:CoeDep Unit () Value:=⟨.slice none 0 0⟩
instance (p b o:Nat):CoeDep (Nat×Nat×Nat) (p,b,o) Value:=⟨.slice (some ⟨p,0,none⟩) b o⟩
instance (w:World) (b o:Nat):CoeDep (World×Nat×Nat) (w,b,o) Value:=⟨.slice (some ⟨w.heap.size,0,none⟩) b o⟩
instance (p:Option Addr) (b o:Nat):CoeDep (Option Addr×Nat×Nat) (p,b,o) Value:=⟨.slice p b o⟩
instance (x:Int):CoeDep (Int×Unit) (x,()) Value:=⟨.int .u32 x⟩
instance (x:Nat):CoeDep (Nat×Unit) (x,()) Value:=⟨.int .u32 x⟩
def GQ:=Nat×Nat
def aa (b o:Nat):GQ:=(b,o)
instance (b o:Nat):CoeDep GQ (aa b o) Addr:=⟨⟨b,o,none⟩⟩
instance:Coe Bool (Option Value):=⟨fun s=>some (.bool s)⟩
instance:CoeDep Unit () (Option Value):=⟨some (.slice none 0 0)⟩
instance (p b o:Nat):CoeDep (Nat×Nat×Nat) (p,b,o) (Option Value):=⟨some (.slice (some ⟨p,0,none⟩) b o)⟩
instance (p:Option Addr) (b o:Nat):CoeDep (Option Addr×Nat×Nat) (p,b,o) (Option Value):=⟨some (.slice p b o)⟩
instance (x:Int):CoeDep (Int×Unit) (x,()) (Option Value):=⟨some (.int .u32 x)⟩
instance (x:Nat):CoeDep (Nat×Unit) (x,()) (Option Value):=⟨some (.int .u32 x)⟩
section
open Go.Proofs.Tryz Go.RowKit
variable {S:List Nat} {w w':World} {base size n:Nat} {e:TypeId} {v:Value} {xs:List Value} {l:List (Int×Int)} {f s:Int} {a:Int×Int}
theorem ax (h:w.ownsRow base e size v n xs) (k:NP S w w') (hS:∀x∈S,x<base):w'.ownsRow base e size v n xs:=by
 have⟨h1,h2⟩:=h
 refine⟨h1,?_⟩
 rcases h2 with h2|⟨g,cap,cur,hv,hg,hh,r⟩
 .exact Or.inl h2
 .exact Or.inr ⟨g,cap,cur,hv,hg,(k.block g (NK hh) (fun hx=>by have:=hS g hx;omega)).trans hh,r⟩
theorem ah (h:w.ownsRow base e size v n xs):∃p cap,v=.slice p n cap:=by
 obtain⟨_,⟨rfl,rfl⟩|⟨g,cap,cur,rfl,_⟩⟩:=h
 .exact⟨_,_,rfl⟩
 .exact⟨_,_,rfl⟩
def af (w:World) (v:Value) (l:List (Int×Int)) (lo hi:Nat):Prop:=
 (l=[]/\∃a c,v=.slice a 0 c)\/
 ∃b off c,v=.slice (some ⟨b,off,none⟩) l.length c/\(∀i (h:i<l.length),w.cell? ⟨b,off+i*2,none⟩=some (.int .i64 l[i].1)/\w.cell? ⟨b,off+i*2+1,none⟩=some (.int .i64 l[i].2))/\lo<=b/\b<hi/\hi<=w.heap.size/\l≠[]/\l.length<=c/\c<=maxLen
theorem af.kept {lo hi} (h:af w v l lo hi) (k:NP S w w') (hS:∀x∈S,x<lo\/hi<=x):af w' v l lo hi:=by
 rcases h with h|⟨b,off,c,h1,h2,h3,h4,h5,h6,h7,h8⟩
 .exact Or.inl h
 .refine Or.inr ⟨b,off,c,h1,fun i hi=>?_,h3,h4,Nk h5 k.size,h6,h7,h8⟩
  have hb:b∉S:=fun hb=>by have:=hS b hb;omega
  rw[k.cell d! hb,k.cell d! hb]
  exact h2 i hi
theorem af.kept0 {lo hi} (h:af w v l lo hi) (k:NP [] w w'):af w' v l lo hi:=h.kept k (fun x hx=>by cases hx)
theorem M69 {A:Prop}(h:A:=by
 rcases h with⟨rfl,a,c,rfl⟩|⟨b,off,c,rfl,_⟩
 .exact⟨a,c,rfl⟩
 .exact⟨_,c,rfl⟩):A:=h
theorem af.shape {lo hi} (h:af w v l lo hi):∃p c,v=.slice p l.length c:=by
 exact M69
theorem af.at_ {w:World} {p:Option Addr} {n c:Nat} {l:List (Int×Int)} {lo hi:Nat} (h:af w (p,n,c) l lo hi) (i:Nat) (hi':i<l.length):
  ∃b off,p=some ⟨b,off,none⟩/\w.cell? ⟨b,off+i*2,none⟩=some (.int .i64 l[i].1)/\w.cell? ⟨b,off+i*2+1,none⟩=some (.int .i64 l[i].2)/\b<w.heap.size/\l.length<=c/\c<=maxLen:=by
 rcases h with⟨rfl,_⟩|⟨b,off,c',e,h2,h3,h4,h5,_,h6,h7⟩
 .simp at hi'
 grind
def iM (f s:Int) (a:Int×Int):Bool:= !(decide (a.1<f)||decide (a.2<1)||decide (s<a.1)||decide (s-a.1<a.2))
def dQ (a b:Int×Int):Bool:= !(decide (a.1<b.1+b.2)&&decide (b.1<a.1+a.2))
def dP (f s:Int) (l:List (Int×Int)):Nat->Bool
 |0=>true
 |i+1=>dP f s l i&&(match l[i]? with|some a=>iM f s a&&(l.take i).all (dQ a)|none=>true)
def lies (f s:Int) (l:List (Int×Int)):Bool:=dP f s l l.length
def NZ (l:List (Int×Int)):Int:=(l.map (·.2)).sum
theorem iy (f s l i) (h:i<l.length):dP f s l (i+1)=(dP f s l i&&(iM f s l[i]&&(l.take i).all (dQ l[i]))):=by
 rw[dP,MZ h]
theorem qN (f s l i j) (hij:i<=j) (h:dP f s l i=false):dP f s l j=false:=by
 induction j with
 |zero=>simp_all
 |succ j ih=>
  by_cases he:i=j+1
  .grind
  .rw[dP,ih a?,Bool.false_and]
theorem ue (f s l i) (h:i<l.length) (hno:(iM f s l[i]&&(l.take i).all (dQ l[i]))=false):lies f s l=false:=
 qN f s l (i+1) l.length a? (by simp_all [iy])
theorem kp (a:Int×Int) (l:List (Int×Int)) (m:Nat) (h:m<l.length):(l.take (m+1)).all (dQ a)=((l.take m).all (dQ a)&&dQ a l[m]):=by
 grind [MI]
theorem mE (a:Int×Int) (l:List (Int×Int)) (m k:Nat) (h:m<l.length) (hmk:m<k) (hno:dQ a l[m]=false):(l.take k).all (dQ a)=false:=by
 grind [List.mem_take_iff_getElem]
theorem dN:iM f s a=true↔f<=a.1/\1<=a.2/\a.1<=s/\a.2<=s-a.1:=by
 unfold iM;simp;omega
theorem vD {a b:Int×Int}:dQ a b=true↔a.1+a.2<=b.1\/b.1+b.2<=a.1:=by
 grind [dQ]
theorem fJ {f s:Int} {l:List (Int×Int)} {i:Nat} (hi:i<=l.length) (h:dP f s l i=true):∀k (hk:k<i),iM f s (l[k]' a?)=true:=by
 induction i with
 |zero=>omega
 |succ i ih=>
  intro k hk
  rw[iy f s l i a?,No,No]at h
  grind
theorem gH (l:List (Int×Int)) (i:Nat) (h:i<l.length):NZ (l.take (i+1))=NZ (l.take i)+l[i].2:=by
 grind [NZ,MI]
theorem oO {i} (hi:i<=l.length) (h:dP f s l i=true) (h0:0<=f) (hs:s<=8192):0<=NZ (l.take i)/\NZ (l.take i)<=8192*i:=by
 induction i with
 |zero=>simp[NZ]
 |succ i ih=>
  have h1:=dN.1 (fJ hi h i a?)
  rw[iy f s l i a?,No]at h
  have h2:=ih a? h.1
  rw[gH l i a?]
  omega
end
section
open Go.Proofs.Tryz Go.ChangeShapes Go.WideShapes Go.ChangeAt Go.RowKit Go.Deep
def aQ (a:Int×Int):Prop:= -9223372036854775808<=a.1/\a.1<=9223372036854775807/\ -9223372036854775808<=a.2/\a.2<=9223372036854775807
section
variable {H:Type} {enc:TypeId×Value->H} {w:World} {base:Nat} {held:Bool} {r:Reach} {b0:Nat}
end
end
open Go.Proofs.Tryz Go.RowKit
variable {r:Int×Int} {l p:List (Int×Int)} {k a:Int} {b n:Nat} {f g:Nat->Bool} {P:Program} {w:World} {v x0 x1 x2 x3:Value} {t ty:TypeId}
def Pl:Int->List (Int×Int)->Prop
 |_,[]=>True
 |a,r::t=>a<=r.1/\1<=r.2/\r.1+r.2<=8192/\Pl (r.1+r.2+1) t
def bZ (l:List (Int×Int)) (k:Int):Prop:=∃r∈l,r.1<=k/\k<r.1+r.2
theorem dU (k):¬bZ [] k:=fun⟨r,hr,_⟩=>by cases hr
theorem de {k}:bZ (r::l) k↔(r.1<=k/\k<r.1+r.2)\/bZ l k:=by
 unfold bZ
 constructor
 .rintro⟨x,hx,h⟩
  rcases List.mem_cons.1 hx with rfl|hx
  .exact Or.inl h
  .exact Or.inr ⟨x,hx,h⟩
 .rintro(h|⟨x,hx,h⟩)
  .exact⟨r,MY,h⟩
  .exact⟨x,Nz _ hx,h⟩
theorem cA {a b k}:bZ (a++b) k↔bZ a k\/bZ b k:=by
 induction a with
 |nil=>simp[dU]
 |cons r a ih=>rw[List.cons_append,de,de,ih,or_assoc]
theorem eW:bZ [r] k↔r.1<=k/\k<r.1+r.2:=by
 rw[de];simp[dU]
theorem Pl.mono {b} (h:Pl a l) (hb:b<=a):Pl b l:=by
 cases l with
 |nil=>trivial
 |cons r t=>exact⟨by have:=h.1;omega,h.2⟩
theorem Pl.ge (h:Pl a l) (hk:bZ l k):a<=k/\k<8192:=by
 induction l generalizing a with
 |nil=>exact absurd hk (dU k)
 |cons r t ih=>
  have⟨h1,h2,h3,h4⟩:=h
  rcases de.1 hk with hk|hk
  .omega
  .have:=ih h4 hk;omega
theorem Pl.head {t} (h:Pl a (r::t)):bZ (r::t) r.1:=de.2 (Or.inl ⟨Int.le_refl _,by have:=h.2.1;omega⟩)
theorem Pl.uniq {b m} (h:Pl a l) (k:Pl b m) (e:∀i,bZ l i↔bZ m i):l=m:=by
 induction l generalizing a b m with
 |nil=>
  cases m with
  |nil=>rfl
  |cons s u=>exact absurd ((e _).2 k.head) (dU _)
 |cons r t ih=>
  cases m with
  |nil=>exact absurd ((e _).1 h.head) (dU _)
  |cons s u=>
   have g1:=((k.mono (Int.le_refl _)).1)
   have h1:s.1<=r.1:=by
    have:=(e _).1 h.head
    rcases de.1 this with hh|hh
    .exact hh.1
    .have:=(Pl.ge k.2.2.2 hh).1;have:=k.2.1;omega
   have h2:r.1<=s.1:=by
    have:=(e _).2 k.head
    rcases de.1 this with hh|hh
    .exact hh.1
    .have:=(Pl.ge h.2.2.2 hh).1;have:=h.2.1;omega
   have e1:r.1=s.1:=a?
   have e2:r.2=s.2:=by
    rcases Int.lt_trichotomy r.2 s.2 with NV|heq|hgt
    .exfalso
     have h3:bZ (s::u) (r.1+r.2):=de.2 (Or.inl ⟨by have:=h.2.1;omega,a?⟩)
     rcases de.1 ((e _).2 h3)with hh|hh
     .omega
     .have:=(Pl.ge h.2.2.2 hh).1;omega
    .exact heq
    .exfalso
     have h3:bZ (r::t) (s.1+s.2):=de.2 (Or.inl ⟨by have:=k.2.1;omega,a?⟩)
     rcases de.1 ((e _).1 h3)with hh|hh
     .omega
     .have:=(Pl.ge k.2.2.2 hh).1;omega
   have er:r=s:=Prod.ext e1 e2
   subst er
   rw[ih h.2.2.2 k.2.2.2 (fun i=>⟨fun hi=>by
    have g:=(Pl.ge h.2.2.2 hi).1
    rcases de.1 ((e i).1 (de.2 (Or.inr hi)))with hh|hh
    .omega
    .exact hh,fun hi=>by
    have g:=(Pl.ge k.2.2.2 hi).1
    rcases de.1 ((e i).2 (de.2 (Or.inr hi)))with hh|hh
    .omega
    .exact hh⟩)]
theorem Pl.snoc {r:Int×Int} (h:Pl a l) (ha:a<=r.1) (h1:1<=r.2) (h2:r.1+r.2<=8192) (hl:∀x∈l,x.1+x.2+1<=r.1):Pl a (l++[r]):=by
 induction l generalizing a with
 |nil=>exact⟨ha,h1,h2,trivial⟩
 |cons x t ih=>
  have⟨g1,g2,g3,g4⟩:=h
  exact⟨g1,g2,g3,ih g4 (by have:=hl x MY;omega) (fun y hy=>hl y (Nz _ hy))⟩
theorem Pl.init {r:Int×Int} (h:Pl a (l++[r])):Pl a l/\a<=r.1/\1<=r.2/\r.1+r.2<=8192/\∀x∈l,x.1+x.2+1<=r.1:=by
 induction l generalizing a with
 |nil=>have⟨h1,h2,h3,_⟩:=h;exact⟨trivial,h1,h2,h3,fun x hx=>by cases hx⟩
 |cons x t ih=>
  have⟨g1,g2,g3,g4⟩:=h
  have⟨k1,k2,k3,k4,k5⟩:=ih g4
  exact⟨⟨g1,g2,g3,k1⟩,a?,k3,k4,fun y hy=>by
   rcases List.mem_cons.1 hy with rfl|hy
   .omega
   .exact k5 y hy⟩
theorem Pl.mem (h:Pl a l) {x:Int×Int} (hx:x∈l):a<=x.1/\1<=x.2/\x.1+x.2<=8192:=by
 induction l generalizing a with
 |nil=>cases hx
 |cons r t ih=>
  have⟨h1,h2,h3,h4⟩:=h
  rcases List.mem_cons.1 hx with rfl|hx
  .exact⟨h1,h2,h3⟩
  .have:=ih h4 hx;exact⟨a?,this.2⟩
theorem Pl.drop (h:Pl a l) (i):Pl a (l.drop i):=by
 induction i generalizing l a with
 |zero=>exact h
 |succ i ih=>
  cases l with
  |nil=>trivial
  |cons r t=>have⟨h1,h2,h3,h4⟩:=h;exact(ih h4).mono a?
theorem Pl.next (h:Pl a l) (i) (hi:i<l.length):Pl (l[i].1+l[i].2+1) (l.drop (i+1)):=by
 have:=h.drop i
 rw[List.drop_eq_getElem_cons hi]at this
 exact this.2.2.2
theorem Pl.len (h:Pl a l):2*(l.length:Int)+min a 8194<=8194:=by
 induction l generalizing a with
 |nil=>simp;omega
 |cons r t ih=>
  have⟨h1,h2,h3,h4⟩:=h
  have:=ih h4
  rw[Nj];omega
theorem Pl.gX (h:Pl 0 l):l.length<=4097:=by have:=h.len;omega
def OE (l:List (Int×Int)) (k:Nat):Bool:=l.any fun r=>decide (r.1<=k)&&decide ((k:Int)<r.1+r.2)
theorem dr {k}:OE l k=true↔bZ l k:=by
 unfold OE bZ
 rw[List.any_eq_true]
 simp
def Bz (l:List (Int×Int)):List (Int×Int):=l.dropLast++(match l.getLast? with|some r=>[(r.1,r.2+1)]|none=>[])
theorem vB (l) (r:Int×Int):Bz (l++[r])=l++[(r.1,r.2+1)]:=by
 unfold Bz
 rw[List.getLast?_append,List.dropLast_concat]
 rfl
theorem He (h:l≠[]):∃(i:List (Int×Int)) (r:Int×Int),l=i++[r]:=⟨l.dropLast,l.getLast h,(List.dropLast_concat_getLast h).symm⟩
def Pa (f:Nat->Bool):Nat->List (Int×Int)
 |0=>[]
 |k+1=>if f k=true then(if k≠0/\f (k-1)=true then Bz (Pa f k)else Pa f k++[((k:Int),1)])else Pa f k
def PM (f:Nat->Bool):Nat->Nat
 |0=>0
 |k+1=>PM f k+if f k=true then 1 else 0
structure xT (f:Nat->Bool) (k:Nat):Prop where
 pl:Pl 0 (Pa f k)
 is:∀j:Int,bZ (Pa f k) j↔∃m:Nat,j=m/\m<k/\f m=true
 sum:NZ (Pa f k)=PM f k
theorem kl (a b):NZ (a++b)=NZ a+NZ b:=by unfold NZ;rw[M0,List.sum_append]
theorem uE {k} (h:xT f k) (hk:k≠0) (hf:f (k-1)=true):∃(i:List (Int×Int)) (r:Int×Int),Pa f k=i++[r]/\r.1+r.2=(k:Int):=by
 have P7:bZ (Pa f k) ((k-1:Nat):Int):=(h.is _).2 ⟨k-1,rfl,a?,hf⟩
 have Pb:Pa f k≠[]:=fun e=>by rw[e]at P7;exact dU _ P7
 have⟨i,r,e⟩:=He Pb
 refine⟨i,r,e,?_⟩
 have hp:=h.pl
 rw[e]at hp P7
 have⟨q1,q2,q3,q4,q5⟩:=hp.init
 have Ph:r.1+r.2-1<k:=by
  have:bZ (Pa f k) (r.1+r.2-1):=by rw[e];exact cA.2 (Or.inr (eW.2 a?))
  have⟨m,hm,QL,_⟩:=(h.is _).1 this
  omega
 rcases cA.1 P7 with⟨x,hx,h1,h2⟩|hh
 .have:=q5 x hx;omega
 .have:=eW.1 hh;omega
theorem zf (f:Nat->Bool) (k) (hk:k<=8192):xT f k:=by
 induction k with
 |zero=>exact⟨trivial,fun j=>⟨fun h=>absurd h (dU j),fun⟨m,_,h,_⟩=>by omega⟩,rfl⟩
 |succ k ih=>
  have ih:=ih a?
  by_cases hf:f k=true
  .by_cases Sz:k≠0/\f (k-1)=true
   .have⟨i,r,e,hr⟩:=uE ih Sz.1 Sz.2
    have e1:Pa f (k+1)=i++[(r.1,r.2+1)]:=by rw[Pa,if_pos hf,if_pos Sz,e,vB]
    have hp:=ih.pl
    rw[e]at hp
    have⟨q1,q2,q3,q4,q5⟩:=hp.init
    refine⟨?_,fun j=>?_,?_⟩
    .rw[e1];exact q1.snoc q2 (by show 1<=r.2+1;omega) (by show r.1+(r.2+1)<=8192;omega) q5
    .rw[e1,cA,eW]
     have h1:=ih.is j
     rw[e,cA,eW]at h1
     constructor
     .rintro(h|⟨h2,h3⟩)
      .have⟨m,g1,g2,g3⟩:=h1.1 (Or.inl h)
       exact⟨m,g1,a?,g3⟩
      .by_cases hj:j<r.1+r.2
       .have⟨m,g1,g2,g3⟩:=h1.1 (Or.inr ⟨h2,hj⟩)
        exact⟨m,g1,a?,g3⟩
       .have h3:j<r.1+(r.2+1):=h3
        exact⟨k,a?,a?,hf⟩
     .rintro⟨m,g1,g2,g3⟩
      by_cases hm:m=k
      .refine Or.inr ⟨?_,?_⟩
       .show r.1<=j;omega
       .show j<r.1+(r.2+1);omega
      .rcases h1.2 ⟨m,g1,a?,g3⟩with h|⟨h2,h3⟩
       .exact Or.inl h
       .exact Or.inr ⟨h2,by show j<r.1+(r.2+1);omega⟩
    .have:=ih.sum
     rw[e,kl]at this
     rw[e1,kl,PM,if_pos hf]
     have e2:NZ [(r.1,r.2+1)]=NZ [r]+1:=by simp[NZ]
     rw[e2];omega
   .have e1:Pa f (k+1)=Pa f k++[((k:Int),1)]:=by rw[Pa,if_pos hf,if_neg Sz]
    refine⟨?_,fun j=>?_,?_⟩
    .rw[e1]
     refine ih.pl.snoc (by show(0:Int)<=k;omega) (by show(1:Int)<=1;omega) (by show(k:Int)+1<=8192;omega) (fun x hx=>?_)
     have UT:=ih.pl.mem hx
     have⟨m,g1,g2,g3⟩:=(ih.is (x.1+x.2-1)).1 ⟨x,hx,a?,a?⟩
     show x.1+x.2+1<=(k:Int)
     by_cases hm:m=k-1
     .subst hm
      exact absurd ⟨a?,g3⟩ Sz
     .omega
    .rw[e1,cA,eW,ih.is j]
     constructor
     .rintro(⟨m,g1,g2,g3⟩|⟨h2,h3⟩)
      .exact⟨m,g1,a?,g3⟩
      .have h2:(k:Int)<=j:=h2
       have h3:j<(k:Int)+1:=h3
       exact⟨k,a?,a?,hf⟩
     .rintro⟨m,g1,g2,g3⟩
      by_cases hm:m=k
      .refine Or.inr ⟨?_,?_⟩
       .show(k:Int)<=j;omega
       .show j<(k:Int)+1;omega
      .exact Or.inl ⟨m,g1,a?,g3⟩
    .rw[e1,kl,ih.sum,PM,if_pos hf]
     simp[NZ]
  .have e1:Pa f (k+1)=Pa f k:=by rw[Pa,if_neg hf]
   refine⟨by rw[e1];exact ih.pl,fun j=>?_,by rw[e1,ih.sum,PM,if_neg hf];omega⟩
   rw[e1,ih.is j]
   constructor
   .rintro⟨m,g1,g2,g3⟩;exact⟨m,g1,a?,g3⟩
   .rintro⟨m,g1,g2,g3⟩
    refine⟨m,g1,?_,g3⟩
    by_cases hm:m=k
    .subst hm;exact absurd g3 hf
    .omega
def eh (f:Nat->Bool):List (Int×Int):=Pa f 8192
theorem rT (f:Nat->Bool):xT f 8192:=zf f 8192 (MG _)
theorem dV (f:Nat->Bool):Pl 0 (eh f):=(rT f).pl
theorem rU (f:Nat->Bool) (j):bZ (eh f) j↔∃m:Nat,j=m/\m<8192/\f m=true:=(rT f).is j
theorem vA (f:Nat->Bool):NZ (eh f)=PM f 8192:=(rT f).sum
theorem lL {f:Nat->Bool} (h:Pl 0 p) (e:∀m:Nat,m<8192->(bZ p m↔f m=true)):p=eh f:=by
 refine Pl.uniq h (dV f) (fun i=>?_)
 rw[rU]
 constructor
 .intro hi
  have:=h.ge hi
  obtain⟨m,rfl⟩:=MM this.1
  exact⟨m,rfl,a?,(e m a?).1 hi⟩
 .rintro⟨m,rfl,h1,h2⟩
  exact(e m h1).2 h2
theorem jZ (f:Nat->Bool) (m) (hm:m<8192):OE (eh f) m=f m:=by
 rw[Bool.eq_iff_iff,dr,rU]
 constructor
 .rintro⟨k,h1,_,h2⟩
  obtain rfl:m=k:=a?
  exact h2
 .intro h;exact⟨m,rfl,hm,h⟩
theorem tj (k) (h:∀m,m<k->f m=g m):PM f k=PM g k:=by
 induction k with
 |zero=>rfl
 |succ k ih=>rw[PM,PM,ih (fun m hm=>h m a?),h k a?]
theorem ym (k) (h:∀m,m<k->f m=g m):Pa f k=Pa g k:=by
 induction k with
 |zero=>rfl
 |succ k ih=>
  rw[Pa,Pa,ih (fun m hm=>h m a?),h k a?]
  by_cases hk:k=0
  .subst hk;simp
  .rw[h (k-1) a?]
theorem yV (h:∀m,m<8192->f m=g m):eh f=eh g:=ym 8192 h
def OO (l:List (Int×Int)):List (Int×Int):=eh (OE l)
def uq (a b:List (Int×Int)):List (Int×Int):=eh (fun k=>OE a k&&OE b k)
def Pr (a b:List (Int×Int)):List (Int×Int):=eh (fun k=>OE a k&& !OE b k)
def OV (l:List (Int×Int)):Nat:=PM (OE l) 8192
theorem uP (l):NZ (OO l)=OV l:=vA _
theorem AL (h:Pl 0 p):OO p=p:=(lL h (fun _ _=>dr.symm)).symm
theorem qQ (a b k):OE (a++b) k=(OE a k||OE b k):=by unfold OE;rw[List.any_append]
def Rw (w:World) (g:Nat) (t:TypeId) (n:Nat) (f:Nat->Value):Prop:=∃cs,ae w g cs t/\∀i,i<n->cs[i]? =some (f i)
section
variable {w w':World} {g n:Nat} {t:TypeId} {f:Nat->Value}
theorem Rw.lt (h:Rw w g t n f):g<w.heap.size:=by have⟨cs,o,_⟩:=h;exact o.lt
theorem Rw.cell (h:Rw w g t n f) (i) (hi:i<n):w.cell? (aa g i)=some (f i):=by
 have⟨cs,o,hc⟩:=h
 have h1:=hc i hi
 have⟨NV,e⟩:=Array.getElem?_eq_some_iff.1 h1
 rw[o.cell i NV,e]
theorem Rw.free (h:Rw w g t n f) (i):w.frozen? (aa g i)=false:=by have⟨cs,o,_⟩:=h;exact o.free i
theorem Rw.drew (h:Rw w g t n f):Rw w.drew g t n f:=h
theorem Rw.alloc (h:Rw w g t n f) (o):Rw (w.alloc o) g t n f:=by have⟨cs,ho,hc⟩:=h;exact⟨cs,ho.alloc o,hc⟩
theorem Rw.kept {S} (h:Rw w g t n f) (k:NP S w w') (hg:g∉S):Rw w' g t n f:=by have⟨cs,ho,hc⟩:=h;exact⟨cs,k.own ho hg,hc⟩
theorem Rw.other (h:Rw w g t n f) {p:Addr} (hp:g≠p.block) (u):Rw (w.setCell p u) g t n f:=by have⟨cs,ho,hc⟩:=h;exact⟨cs,ho.other hp u,hc⟩
theorem Rw.congr (h:Rw w g t n f) {f':Nat->Value} (e:∀i,i<n->f i=f' i):Rw w g t n f':=by
 obtain⟨cs,ho,hc⟩:=h;exact⟨cs,ho,fun i hi=>by simp_all⟩
theorem Rw.set (h:Rw w g t n f) (i) (hi:i<n) (u) (f':Nat->Value) (e1:f' i=u) (e2:∀j,j<n->j≠i->f' j=f j):Rw (w.setCell (aa g i) u) g t n f':=by
 obtain⟨cs,ho,hc⟩:=h
 refine⟨_,ho.set i u,fun j hj=>?_⟩
 grind
end
theorem Rw.made (w:World) (t:TypeId) (n:Nat) (z:Value):Rw (w.alloc (.cells (Array.replicate n z) t)) w t n (fun _=>z):=
 ⟨_,ae.new _ _ _,fun i hi=>by simp[hi]⟩
theorem lu (t e:TypeId) (i:TypeInfo) (z) (ht:P.underlying t=some (.slice e)) (hi:P.info? e=some i) (hz:i.zero=some z) (QW:i.size=1) (hzc:z.cells=#[z]) (n) (hb:i.bytes*n<=281474976710656) (hn:n<=9223372036854775807) (w):
  (Instr.makeSlice t (n:Int) (n:Int)).run P w=.ok (w.heap.size,n,n) (w.alloc (.cells (Array.replicate n z) e)):=by
 have UR:(i.bytes:Int)*(n:Int)<=281474976710656:=by
  have h:((i.bytes*n:Nat):Int)<=281474976710656:=a?
  rwa[Int.natCast_mul]at h
 have h:=run_make (P:=P) w t e i z ht hi hz .i64 .i64 n n a? a? UR a?
 rw[h,QW,hzc]
 simp only[Nw,Nat.mul_one]
 congr 3
 apply Array.toList_inj.1
 rw[toList_madeCells_one]
 simp
theorem vG {o:Oper} {a} {K:Act->World->Prop} {Q:Exit->Act->World->Prop} (s x:Operand) (ts) (ho:o.op=.call {callee:=.builtin .append,args:=#[s,x],argTypes:=ts}) (v u) (hs:a.eval s=v) (hx:a.eval x=u) (v' w') (Oe:(Builtin.append_ ts o.type #[v,u]).run P w=.ok v' w') (h:K (a.put o.dst v') w'):o.wp P a w K Q:=by
 unfold Oper.wp execOp
 simp only[ho,resolve,invoke,builtin,Sem.run_bind,Sem.run_pure,Result.andThen_ok,List.map_toArray,List.map_cons,List.map_nil,hs,hx,Oe]
 exact h
theorem qA {P:Program} {w ops rest} {o:Oper} {a} {Q:Exit->Act->World->Prop} (hgd:o.guard=none) (s x:Operand) (ts) (ho:o.op=.call {callee:=.builtin .append,args:=#[s,x],argTypes:=ts}) (v u) (hs:a.eval s=v) (hx:a.eval x=u) (v' w') (hrun:(Builtin.append_ ts o.type #[v,u]).run P w=.ok v' w') (h:wpList P ops Q rest (a.put o.dst v') w'):wpList P ops Q (o::rest) a w:=
 (by grind [wpList_plain,vG])
theorem af.weaken {lo hi lo' hi'} (h:af w v l lo hi) (h1:lo'<=lo) (h2:hi<=hi') (h3:hi'<=w.heap.size):af w v l lo' hi':=by
 rcases h with h|⟨b,off,c,e1,e2,e3,e4,e5,e6,e7,e8⟩
 .exact Or.inl h
 .exact Or.inr ⟨b,off,c,e1,e2,a?,a?,h3,e6,e7,e8⟩
def NW (l:List (Int×Int)):List Value:=(l.map fun r=>[Value.int .i64 r.1,Value.int .i64 r.2]).flatten
theorem dm (l):(NW l).length=l.length*2:=by
 induction l with
 |nil=>rfl
 |cons a l ih=>grind [NW]
theorem M57 {A:Prop}(h:A:=by
 rw[e]
 have:=ih i T?
 have e1:(i+1)*2=i*2+1+1:=a?
 have e2:(i+1)*2+1=i*2+1+1+1:=a?
 rw[e1,List.getElem?_cons_succ,List.getElem?_cons_succ,List.getElem?_cons_succ,List.getElem?_cons_succ]
 simpa using this):A:=h
theorem kI (l i) (h:i<l.length):(NW l)[i*2]? =some (.int .i64 l[i].1)/\(NW l)[i*2+1]? =some (.int .i64 l[i].2):=by
 induction l generalizing i with
 |nil=>simp at h
 |cons a l ih=>
  grind [NW]
theorem bP (l) (r:Int×Int):NW (l++[r])=NW l++[.int .i64 r.1,.int .i64 r.2]:=by simp[NW]
theorem kH (l):∀u∈NW l,u.oneCell'=true:=by
 intro u hu
 simp only[NW,List.mem_flatten,ND]at hu
 obtain⟨_,⟨r,_,rfl⟩,hu⟩:=hu
 simp at hu
 rcases hu with rfl|rfl<;>rfl
theorem af.bB {w:World} {base:Nat} {v:Value} {n:Nat} {l:List (Int×Int)} (h:w.ownsRow base 128 2 v n (NW l)):af w v l base w:=by
 obtain⟨hlen,h⟩:=h
 rw[dm]at hlen
 have hn:l.length=n:=a?
 rcases h with⟨rfl,rfl⟩|⟨g,cap,cur,rfl,hb,hg,hnc,hcm,hcs,htake⟩
 .exact Or.inl ⟨Nc hn,_,_,rfl⟩
 .by_cases h0:n=0
  .subst h0
   exact Or.inl ⟨Nc hn,_,_,rfl⟩
  .refine Or.inr ⟨g,0,cap,by rw[hn],fun i hi=>?_,hb,NK hg,MG _,fun h=>by simp_all,a?,hcm⟩
   obtain⟨g1,g2⟩:=kI l i hi
   have key:∀j u,(NW l)[j]? =some u->w.cell? ⟨g,0+j,none⟩=some u:=fun j u hj=>by
    rw[Nat.zero_add,cell_of_row w g j cur 128 (0,0) hg]
    grind
   simp_all
theorem Yh {A:Prop}(h:A:=by
 have⟨i0,hi0,Rh,Qc,Qx⟩:=info_parts hi
 exact⟨i0,hi0,Rh,Qc,Qx⟩):A:=h
theorem eV:∃i,prog.info? 128=some i/\i.zero=some (.agg #[(0:Int),(0:Int)])/\i.size=2/\i.bytes=16:=by
 have hi:(prog.info? 128).map (fun i=>(i.zero,i.size,i.bytes))=some (some (.agg #[(0:Int),(0:Int)]),2,16):=c?
 exact Yh
theorem af.cells {w:World} {b off n c lo hi:Nat} {l:List (Int×Int)} (h:af w (.slice (some (aa b off)) n c) l lo hi):∀j u,(NW l)[j]? =some u->w.cell? ⟨b,off+j,none⟩=some u:=by
 intro j u hj
 have hjl:j<(NW l).length:=by
  rcases Nat.lt_or_ge j (NW l).length with h|h
  .exact h
  .rw[List.getElem?_eq_none h]at hj;cases hj
 rw[dm]at hjl
 have hi':j/2<l.length:=a?
 obtain⟨b',off',e,c0,c1,_⟩:=h.at_ (j/2) hi'
 injection e with e
 injection e with e1 e2 _
 subst e1 e2
 obtain⟨g1,g2⟩:=kI l (j/2) hi'
 grind
theorem M30 {A:Prop}(h:A:=by
 obtain⟨rfl,rfl⟩:=e
 have hh:af w (.slice (some (aa b off)) l.length c) l lo hi:=Or.inr ⟨b,off,c,rfl,h2⟩
 intro j u hj
 rw[Ni]
 exact hh.cells j u hj):A:=h
theorem xj (v l lo hi w) (h:af w v l lo hi) (hl:l.length<=1000000):
  am! 69 #[v] w fun e w'=>(∃v',e=.returned v'/\af w' v' l w w')/\NP [] w w':=by
 have⟨i0,hi0,Rh,Qc,Qx⟩:=eV
 have q22:=fun w a n c n' c'=>Lib.run_eql_slice_nil w _ _ a n c n' c' underlying56
 obtain⟨p,c,rfl⟩:=h.shape
 cases p with
 |none=>
  have WU:l=[]:=by
   rcases h with⟨h,_⟩|⟨b,off,c',e,_⟩
   .exact h
   .simp at e
  subst WU
  go_enter func69,ntmps69
  go_wp2_with fail
  go_ret
  exact⟨⟨_,rfl,Or.inl ⟨rfl,_,_,rfl⟩⟩,NP.refl _ _⟩
 |some ad=>
  have Ou:∀j u,(NW l)[j]? =some u->w.cell? (ad.add j)=some u:=by
   rcases h with⟨rfl,_⟩|⟨b,off,c',e,h2⟩
   .intro j u hj;simp[NW]at hj
   .simp at e
    exact M30
  have A:=tK Ou
  clear Ou h
  have Tm:=dm l
  have Th:=kH l
  have⟨VP,HR2⟩:=f? Tm Th
  clear Tm Th
  go_enter func69,ntmps69
  go_wp2_with (at_builtin;refine wpList_append_own _ rfl _ _ 56 rfl w 128 i0 _ 2 16 underlying56 hi0 Rh Qc Qx rfl d? _ _ _ rfl (World.ownsRow_made w #[] 0 (MG _) (Nb _) b?) ad l.length c (NW l) rfl ?qc1 ?qc2 ?qc3 ?qc4 ?qc5 ?qc6 ?_)
  case qc1=>exact VP.out
  case qc2=>intro j u hj;exact Lib.cell?_alloc_some _ (A.out j u hj)
  case qc3=>exact HR2.out
  case qc4=>unfold maxLen;omega
  case qc5=>omega
  case qc6=>simp
  intro v' w1 Ot Pi Qw
  have P0:=af.bB (l:=l) (by simpa using Ot)
  have OP:NP [] w w1:=((NP.refl _ _).alloc _).grown Pi (fun k hk=>Or.inr (by simp[Value.ownBlock]at hk;omega))
  clear Ot Pi Qw
  go_wp2_with fail
  go_ret
  exact⟨⟨_,rfl,P0⟩,OP⟩
theorem ae.c2 (h:ae w b #[x0,x1] t):w.cell? b=some x0/\w.cell? (aa b 1)=some x1:=
 ⟨h.cell 0 b?,h.cell 1 b?⟩
theorem ae.c4 (h:ae w b #[x0,x1,x2,x3] t):w.cell? b=some x0/\w.cell? (aa b 1)=some x1/\w.cell? (aa b 2)=some x2/\w.cell? (aa b 3)=some x3:=
 ⟨h.cell 0 b?,h.cell 1 b?,h.cell 2 b?,h.cell 3 b?⟩
theorem ae.z4 (h:ae w b #[x0,x1,x2,x3] t):w.frozen? b=false/\w.frozen? (aa b 1)=false/\w.frozen? (aa b 2)=false/\w.frozen? (aa b 3)=false:=
 ⟨h.free 0,h.free 1,h.free 2,h.free 3⟩
theorem nD (w:World) (A B C D:Array Value) (s t u v:TypeId):ae ((((w.alloc (.cells A s)).alloc (.cells B t)).alloc (.cells C u)).alloc (.cells D v)) w A s/\ae ((((w.alloc (.cells A s)).alloc (.cells B t)).alloc (.cells C u)).alloc (.cells D v)) (w.heap.size+1) B t/\ae ((((w.alloc (.cells A s)).alloc (.cells B t)).alloc (.cells C u)).alloc (.cells D v)) (w.heap.size+1+1) C u/\ae ((((w.alloc (.cells A s)).alloc (.cells B t)).alloc (.cells C u)).alloc (.cells D v)) (w.heap.size+1+1+1) D v:=by
 obtain⟨a,b,c⟩:=l9 w A B C s t u
 refine⟨a.alloc _,b.alloc _,c.alloc _,?_⟩
 grind [ae.new,Nd]
theorem aj {fn:Func} {p u:Tmp} (h:fn.results=#[.cell p ty,.tmp u]) {tmps:Array Value} {w:World} {g:Nat} {t:TypeId} {cs:Array Value} {d:TypeDesc} {x:Value}
  (hp:tmps.getD p undef=g) (hx:tmps.getD u undef=x) (o:ae w g cs t) (hu:P.underlying ty=some d) (hd:(match d with|.struct _|.array _ _=>true|_=>false)=true) (hi:(P.info? ty).map (·.size)=some cs.size):
  (results fn tmps).run P w=.ok (.tuple #[.agg cs,x]) w:=by
 rw[results_cell_tmp h,hp,hx]
 simp[asAddr,run_loadVar_row w g t ty cs (0,0) d o hu hd hi]
theorem iu {fn:Func} {p:Tmp} (h:fn.results=#[.cell p ty]) {tmps:Array Value} {w:World} {g:Nat} {t:TypeId} {cs:Array Value} {d:TypeDesc}
  (hp:tmps.getD p undef=g) (o:ae w g cs t) (hu:P.underlying ty=some d) (hd:(match d with|.struct _|.array _ _=>true|_=>false)=true) (hi:(P.info? ty).map (·.size)=some cs.size):
  (results fn tmps).run P w=.ok (.agg cs) w:=results_cell_row h tmps w g t cs (0,0) d hp o hu hd hi
theorem ae.fU (h:ae w b #[x0,x1,x2,x3] t) (y0 y1 y2 y3):
  ae ((((w.setCell b y0).setCell (aa b 1) y1).setCell (aa b 2) y2).setCell (aa b 3) y3) b #[y0,y1,y2,y3] t:=by
 have:=(((h.set 0 y0).set 1 y1).set 2 y2).set 3 y3
 simpa using this
end
section
open Go.Proofs.Tryz Go.RowKit
theorem MV:type_of% @decide_eq_true:=@decide_eq_true
theorem MN:type_of% @bodyPost_ret:=@bodyPost_ret
def bE (a:Int×Int):(Int×Int)×Bool:=
 if a.2<1\/8192<=a.1 then((0,0),false)
 else if a.1<0 then((0,min (a.2+a.1) 8192),decide (0<min (a.2+a.1) 8192))
 else((a.1,min a.2 (8192-a.1)),decide (0<min a.2 (8192-a.1)))
def sa (a:Int×Int) (w:World) (e:Ending) (w':World):Prop:=
 e=.returned (.tuple #[.agg #[.int .i64 (bE a).1.1,.int .i64 (bE a).1.2],.bool (bE a).2])/\NP [] w w'
theorem M60 {A:Prop}(h:A:=by
 rw[e]
 go_enter func183,ntmps183
 go_wp2_with fail
 refine MN (v:=.tuple #[.agg #[(0:Int),(0:Int)],false]) ?_ ?_ ?_
 .exact aj results183 rfl rfl (ch w _ _ _ _).2 underlying128 rfl c?
 .rfl
 .exact⟨rfl,hk⟩):A:=h
theorem Kq (a:Int×Int) (w) (hw:aQ a):am! 183 #[.agg #[a.1,a.2]] w (sa a w):=by
 have⟨x,n⟩:=a
 have⟨w1,w2,w3,w4⟩:=hw
 simp only at w1 w2 w3 w4 ⊢
 unfold sa
 have hk:NP [] w ((w.alloc (.cells #[x,n] 128)).alloc (.cells #[(0:Int),(0:Int)] 128)):=((NP.refl _ _).alloc _).alloc _
 rcases(by omega:n<1\/(1<=n/\8192<=x)\/(1<=n/\x<8192/\x<0)\/(1<=n/\x<8192/\0<=x))with h1|⟨h1,h2⟩|⟨h1,h2,h3⟩|⟨h1,h2,h3⟩
 .have e:bE (x,n)=((0,0),false):=by unfold bE;rw[if_pos (Or.inl h1)]
  exact M60
 .have e:bE (x,n)=((0,0),false):=by unfold bE;rw[if_pos (Or.inr h2)]
  exact M60
 .have e:bE (x,n)=((0,min (n+x) 8192),decide (0<min (n+x) 8192)):=by unfold bE;rw[if_neg (by simp only;omega),if_pos h3]
  rw[e]
  obtain⟨m,hm⟩:∃m,min (n+x) 8192=m:=⟨_,rfl⟩
  rw[hm]
  clear e hk
  go_enter func183,ntmps183
  go_wp2_with fail
  .go_region
   go_wp2_with fail
   obtain rfl:m=8192:=a?
   rw[show decide (0<(8192:Int))=true from MV a?]
   refine MN (v:=.tuple #[.agg #[(0:Int),(8192:Int)],true]) ?_ ?_ ?_
   .exact aj results183 rfl rfl (ae.drew (ch w _ _ _ _).2) underlying128 rfl c?
   .rfl
   .exact⟨rfl,(((NP.refl _ _).alloc _).alloc _).drew⟩
  .go_region
   go_wp2_with fail
   obtain rfl:m=n+x:=a?
   refine MN (v:=.tuple #[.agg #[(0:Int),(n+x:Int)],.bool (decide (0<(n+x:Int)))]) ?_ ?_ ?_
   .exact aj results183 rfl rfl (ae.drew (ch w _ _ _ _).2) underlying128 rfl c?
   .rfl
   .exact⟨rfl,(((NP.refl _ _).alloc _).alloc _).drew⟩
 .have e:bE (x,n)=((x,min n (8192-x)),decide (0<min n (8192-x))):=by unfold bE;rw[if_neg (by simp only;omega),if_neg (by simp only;omega)]
  rw[e]
  obtain⟨m,hm⟩:∃m,min n (8192-x)=m:=⟨_,rfl⟩
  rw[hm]
  clear e hk
  go_enter func183,ntmps183
  go_wp2_with fail
  .go_region
   go_wp2_with fail
   obtain rfl:m=8192-x:=a?
   rw[show decide (0<(8192-x:Int))=true from MV a?]
   refine MN (v:=.tuple #[.agg #[x,(8192-x:Int)],true]) ?_ ?_ ?_
   .exact aj results183 rfl rfl (ae.drew (ch w _ _ _ _).2) underlying128 rfl c?
   .rfl
   .exact⟨rfl,(((NP.refl _ _).alloc _).alloc _).drew⟩
  .go_region
   go_wp2_with fail
   obtain rfl:m=n:=a?
   refine MN (v:=.tuple #[.agg #[x,(m:Int)],.bool (decide (0<(m:Int)))]) ?_ ?_ ?_
   .exact aj results183 rfl rfl (ae.drew (ch w _ _ _ _).2) underlying128 rfl c?
   .rfl
   .exact⟨rfl,(((NP.refl _ _).alloc _).alloc _).drew⟩
theorem D9 (x:Int) (w):am! 241 #[x] w fun e w'=>e=false/\w=w':=by
 go_enter func241,ntmps241
 go_wp2_with fail
 go_ret
 exact⟨rfl,rfl⟩
def Sl (x y:Int):Int:=if x<y then -1 else if y<x then 1 else 0
theorem M54 {A:Prop}(h:A:=by
 go_enter func186,ntmps186
 go_wp2_with (go_at_call 241;refine(D9 _ _).mono ?_;rintro e w' ⟨rfl,rfl⟩)
 go_ret
 exact⟨rfl,rfl⟩):A:=h
theorem Ea (x y:Int) (w):am! 186 #[x,y] w fun e w'=>e=(Sl x y:Int)/\w=w':=by
 unfold Sl
 rcases(by omega:x<y\/(¬x<y/\y<x)\/(¬x<y/\¬y<x))with h1|⟨h1,h2⟩|⟨h1,h2⟩
 .rw[if_pos h1]
  exact M54
 .rw[if_neg h1,if_pos h2]
  exact M54
 .rw[if_neg h1,if_neg h2]
  exact M54
end
end Go.Proofs.YtdkimcnlhmhpgaaGreat

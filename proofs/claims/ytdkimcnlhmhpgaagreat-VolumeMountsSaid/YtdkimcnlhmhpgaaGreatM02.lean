/- -/
import Derived.Test.YtdkimcnlhmhpgaaGreatM01
set_option maxHeartbeats 32000000
set_option maxRecDepth 100000
namespace Go.Proofs.YtdkimcnlhmhpgaaGreat
open Go.Proofs.Tryz Go.RowKit
theorem MV:type_of% @decide_eq_true:=@decide_eq_true
theorem MN:type_of% @bodyPost_ret:=@bodyPost_ret
def bE (a:Int×Int):(Int×Int)×Bool:=
 if a.2<1\/8192<=a.1 then((0,0),false)
 else if a.1<0 then((0,min (a.2+a.1) 8192),decide (0<min (a.2+a.1) 8192))
 else((a.1,min a.2 (8192-a.1)),decide (0<min a.2 (8192-a.1)))
def sa (a:Int×Int) (w:World) (e:Ending) (w':World):Prop:=
 e=.returned (.tuple #[.agg #[.int .i64 (bE a).1.1,.int .i64 (bE a).1.2],.bool (bE a).2])/\NP [] w w'
theorem M60 {A:Prop}(h:A:=by
 rw[e]
 go_enter func183,ntmps183
 go_wp2_with fail
 refine MN (v:=.tuple #[.agg #[(0:Int),(0:Int)],false]) ?_ ?_ ?_
 .exact aj results183 rfl rfl (ch w _ _ _ _).2 underlying128 rfl _c
 .rfl
 .exact⟨rfl,hk⟩):A:=h
theorem Kq (a:Int×Int) (w:World) (hw:aQ a):am! 183 #[.agg #[a.1,a.2]] w (sa a w):=by
 have⟨x,n⟩:=a
 have⟨w1,w2,w3,w4⟩:=hw
 simp only at w1 w2 w3 w4 ⊢
 unfold sa
 have hk:NP [] w ((w.alloc (.cells #[x,n] 128)).alloc (.cells #[(0:Int),(0:Int)] 128)):=((NP.refl _ _).alloc _).alloc _
 rcases(by omega:n<1\/(1<=n/\8192<=x)\/(1<=n/\x<8192/\x<0)\/(1<=n/\x<8192/\0<=x))with h1|⟨h1,h2⟩|⟨h1,h2,h3⟩|⟨h1,h2,h3⟩
 .have e:bE (x,n)=((0,0),false):=by unfold bE;rw[if_pos (Or.inl h1)]
  exact M60
 .have e:bE (x,n)=((0,0),false):=by unfold bE;rw[if_pos (Or.inr h2)]
  exact M60
 .have e:bE (x,n)=((0,min (n+x) 8192),decide (0<min (n+x) 8192)):=by unfold bE;rw[if_neg (by simp only;omega),if_pos h3]
  rw[e]
  obtain⟨m,hm⟩:∃m,min (n+x) 8192=m:=⟨_,rfl⟩
  rw[hm]
  clear e hk
  go_enter func183,ntmps183
  go_wp2_with fail
  .go_region
   go_wp2_with fail
   obtain rfl:m=8192:=_a
   rw[show decide (0<(8192:Int))=true from MV _a]
   refine MN (v:=.tuple #[.agg #[(0:Int),(8192:Int)],true]) ?_ ?_ ?_
   .exact aj results183 rfl rfl (ae.drew (ch w _ _ _ _).2) underlying128 rfl _c
   .rfl
   .exact⟨rfl,(((NP.refl _ _).alloc _).alloc _).drew⟩
  .go_region
   go_wp2_with fail
   obtain rfl:m=n+x:=_a
   refine MN (v:=.tuple #[.agg #[(0:Int),(n+x:Int)],.bool (decide (0<(n+x:Int)))]) ?_ ?_ ?_
   .exact aj results183 rfl rfl (ae.drew (ch w _ _ _ _).2) underlying128 rfl _c
   .rfl
   .exact⟨rfl,(((NP.refl _ _).alloc _).alloc _).drew⟩
 .have e:bE (x,n)=((x,min n (8192-x)),decide (0<min n (8192-x))):=by unfold bE;rw[if_neg (by simp only;omega),if_neg (by simp only;omega)]
  rw[e]
  obtain⟨m,hm⟩:∃m,min n (8192-x)=m:=⟨_,rfl⟩
  rw[hm]
  clear e hk
  go_enter func183,ntmps183
  go_wp2_with fail
  .go_region
   go_wp2_with fail
   obtain rfl:m=8192-x:=_a
   rw[show decide (0<(8192-x:Int))=true from MV _a]
   refine MN (v:=.tuple #[.agg #[x,(8192-x:Int)],true]) ?_ ?_ ?_
   .exact aj results183 rfl rfl (ae.drew (ch w _ _ _ _).2) underlying128 rfl _c
   .rfl
   .exact⟨rfl,(((NP.refl _ _).alloc _).alloc _).drew⟩
  .go_region
   go_wp2_with fail
   obtain rfl:m=n:=_a
   refine MN (v:=.tuple #[.agg #[x,(m:Int)],.bool (decide (0<(m:Int)))]) ?_ ?_ ?_
   .exact aj results183 rfl rfl (ae.drew (ch w _ _ _ _).2) underlying128 rfl _c
   .rfl
   .exact⟨rfl,(((NP.refl _ _).alloc _).alloc _).drew⟩
theorem D9 (x:Int) (w:World):am! 241 #[x] w fun e w'=>e=false/\w=w':=by
 go_enter func241,ntmps241
 go_wp2_with fail
 go_ret
 exact⟨rfl,rfl⟩
def Sl (x y:Int):Int:=if x<y then -1 else if y<x then 1 else 0
theorem M54 {A:Prop}(h:A:=by
 go_enter func186,ntmps186
 go_wp2_with (go_at_call 241;refine(D9 _ _).mono ?_;rintro e w' ⟨rfl,rfl⟩)
 go_ret
 exact⟨rfl,rfl⟩):A:=h
theorem Ea (x y:Int) (w:World):am! 186 #[x,y] w fun e w'=>e=(Sl x y:Int)/\w=w':=by
 unfold Sl
 rcases(by omega:x<y\/(¬x<y/\y<x)\/(¬x<y/\¬y<x))with h1|⟨h1,h2⟩|⟨h1,h2⟩
 .rw[if_pos h1]
  exact M54
 .rw[if_neg h1,if_pos h2]
  exact M54
 .rw[if_neg h1,if_neg h2]
  exact M54

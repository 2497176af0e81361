/- -/
import Derived.Test.YtdkimcnlhmhpgaaGreatShelf
import Derived.Test.YtdkimcnlhmhpgaaGreatK01
set_option maxHeartbeats 16000000
set_option maxRecDepth 100000
set_option linter.unusedVariables false
namespace Go.Proofs.YtdkimcnlhmhpgaaGreat
open Go.RowKit
variable {w:World} {b:Nat} {x0 x1 x2 x3 x4 x5:Value} {t:TypeId}
theorem MG:type_of% @World.ownsRow_nil:=@World.ownsRow_nil
theorem MF:type_of% @List.length_replicate:=@List.length_replicate
theorem ME:type_of% @beq_eq_false_iff_ne:=@beq_eq_false_iff_ne
theorem MD:type_of% @List.getD_eq_getElem?_getD:=@List.getD_eq_getElem?_getD
theorem ae.c6 (h:ae w b #[x0,x1,x2,x3,x4,x5] t):w.cell? ⟨b,0,none⟩=some x0/\w.cell? ⟨b,1,none⟩=some x1/\w.cell? ⟨b,2,none⟩=some x2/\w.cell? ⟨b,3,none⟩=some x3/\w.cell? ⟨b,4,none⟩=some x4/\w.cell? ⟨b,5,none⟩=some x5:=
 ⟨h.cell 0 (by simp),h.cell 1 (by simp),h.cell 2 (by simp),h.cell 3 (by simp),h.cell 4 (by simp),h.cell 5 (by simp)⟩
theorem ae.z6 (h:ae w b #[x0,x1,x2,x3,x4,x5] t):w.frozen? ⟨b,0,none⟩=false/\w.frozen? ⟨b,1,none⟩=false/\w.frozen? ⟨b,2,none⟩=false/\w.frozen? ⟨b,3,none⟩=false/\w.frozen? ⟨b,4,none⟩=false/\w.frozen? ⟨b,5,none⟩=false:=
 ⟨h.free 0,h.free 1,h.free 2,h.free 3,h.free 4,h.free 5⟩
theorem vI (w:World) (A0 A1 A2 A3 A4 A5 A6 A7:Array Value) (t0 t1 t2 t3 t4 t5 t6 t7:TypeId):ae ((((((((w.alloc (.cells A0 t0)).alloc (.cells A1 t1)).alloc (.cells A2 t2)).alloc (.cells A3 t3)).alloc (.cells A4 t4)).alloc (.cells A5 t5)).alloc (.cells A6 t6)).alloc (.cells A7 t7)) w.heap.size A0 t0/\ae ((((((((w.alloc (.cells A0 t0)).alloc (.cells A1 t1)).alloc (.cells A2 t2)).alloc (.cells A3 t3)).alloc (.cells A4 t4)).alloc (.cells A5 t5)).alloc (.cells A6 t6)).alloc (.cells A7 t7)) (w.heap.size+1) A1 t1/\ae ((((((((w.alloc (.cells A0 t0)).alloc (.cells A1 t1)).alloc (.cells A2 t2)).alloc (.cells A3 t3)).alloc (.cells A4 t4)).alloc (.cells A5 t5)).alloc (.cells A6 t6)).alloc (.cells A7 t7)) (w.heap.size+1+1) A2 t2/\ae ((((((((w.alloc (.cells A0 t0)).alloc (.cells A1 t1)).alloc (.cells A2 t2)).alloc (.cells A3 t3)).alloc (.cells A4 t4)).alloc (.cells A5 t5)).alloc (.cells A6 t6)).alloc (.cells A7 t7)) (w.heap.size+1+1+1) A3 t3/\ae ((((((((w.alloc (.cells A0 t0)).alloc (.cells A1 t1)).alloc (.cells A2 t2)).alloc (.cells A3 t3)).alloc (.cells A4 t4)).alloc (.cells A5 t5)).alloc (.cells A6 t6)).alloc (.cells A7 t7)) (w.heap.size+1+1+1+1) A4 t4/\ae ((((((((w.alloc (.cells A0 t0)).alloc (.cells A1 t1)).alloc (.cells A2 t2)).alloc (.cells A3 t3)).alloc (.cells A4 t4)).alloc (.cells A5 t5)).alloc (.cells A6 t6)).alloc (.cells A7 t7)) (w.heap.size+1+1+1+1+1) A5 t5/\ae ((((((((w.alloc (.cells A0 t0)).alloc (.cells A1 t1)).alloc (.cells A2 t2)).alloc (.cells A3 t3)).alloc (.cells A4 t4)).alloc (.cells A5 t5)).alloc (.cells A6 t6)).alloc (.cells A7 t7)) (w.heap.size+1+1+1+1+1+1) A6 t6/\ae ((((((((w.alloc (.cells A0 t0)).alloc (.cells A1 t1)).alloc (.cells A2 t2)).alloc (.cells A3 t3)).alloc (.cells A4 t4)).alloc (.cells A5 t5)).alloc (.cells A6 t6)).alloc (.cells A7 t7)) (w.heap.size+1+1+1+1+1+1+1) A7 t7:=by
 have h0:ae (w.alloc (.cells A0 t0)) w.heap.size A0 t0:=by have:=ae.new w A0 t0;simpa only[MK]using this
 have h1:ae ((w.alloc (.cells A0 t0)).alloc (.cells A1 t1)) (w.heap.size+1) A1 t1:=by have:=ae.new (w.alloc (.cells A0 t0)) A1 t1;simpa only[MK]using this
 have h2:ae (((w.alloc (.cells A0 t0)).alloc (.cells A1 t1)).alloc (.cells A2 t2)) (w.heap.size+1+1) A2 t2:=by have:=ae.new ((w.alloc (.cells A0 t0)).alloc (.cells A1 t1)) A2 t2;simpa only[MK]using this
 have h3:ae ((((w.alloc (.cells A0 t0)).alloc (.cells A1 t1)).alloc (.cells A2 t2)).alloc (.cells A3 t3)) (w.heap.size+1+1+1) A3 t3:=by have:=ae.new (((w.alloc (.cells A0 t0)).alloc (.cells A1 t1)).alloc (.cells A2 t2)) A3 t3;simpa only[MK]using this
 have h4:ae (((((w.alloc (.cells A0 t0)).alloc (.cells A1 t1)).alloc (.cells A2 t2)).alloc (.cells A3 t3)).alloc (.cells A4 t4)) (w.heap.size+1+1+1+1) A4 t4:=by have:=ae.new ((((w.alloc (.cells A0 t0)).alloc (.cells A1 t1)).alloc (.cells A2 t2)).alloc (.cells A3 t3)) A4 t4;simpa only[MK]using this
 have h5:ae ((((((w.alloc (.cells A0 t0)).alloc (.cells A1 t1)).alloc (.cells A2 t2)).alloc (.cells A3 t3)).alloc (.cells A4 t4)).alloc (.cells A5 t5)) (w.heap.size+1+1+1+1+1) A5 t5:=by have:=ae.new (((((w.alloc (.cells A0 t0)).alloc (.cells A1 t1)).alloc (.cells A2 t2)).alloc (.cells A3 t3)).alloc (.cells A4 t4)) A5 t5;simpa only[MK]using this
 have h6:ae (((((((w.alloc (.cells A0 t0)).alloc (.cells A1 t1)).alloc (.cells A2 t2)).alloc (.cells A3 t3)).alloc (.cells A4 t4)).alloc (.cells A5 t5)).alloc (.cells A6 t6)) (w.heap.size+1+1+1+1+1+1) A6 t6:=by have:=ae.new ((((((w.alloc (.cells A0 t0)).alloc (.cells A1 t1)).alloc (.cells A2 t2)).alloc (.cells A3 t3)).alloc (.cells A4 t4)).alloc (.cells A5 t5)) A6 t6;simpa only[MK]using this
 have h7:ae ((((((((w.alloc (.cells A0 t0)).alloc (.cells A1 t1)).alloc (.cells A2 t2)).alloc (.cells A3 t3)).alloc (.cells A4 t4)).alloc (.cells A5 t5)).alloc (.cells A6 t6)).alloc (.cells A7 t7)) (w.heap.size+1+1+1+1+1+1+1) A7 t7:=by have:=ae.new (((((((w.alloc (.cells A0 t0)).alloc (.cells A1 t1)).alloc (.cells A2 t2)).alloc (.cells A3 t3)).alloc (.cells A4 t4)).alloc (.cells A5 t5)).alloc (.cells A6 t6)) A7 t7;simpa only[MK]using this
 exact⟨(((((((h0.alloc _).alloc _).alloc _).alloc _).alloc _).alloc _).alloc _),((((((h1.alloc _).alloc _).alloc _).alloc _).alloc _).alloc _),(((((h2.alloc _).alloc _).alloc _).alloc _).alloc _),((((h3.alloc _).alloc _).alloc _).alloc _),(((h4.alloc _).alloc _).alloc _),((h5.alloc _).alloc _),(h6.alloc _),h7⟩
theorem ae.gC (h:ae w b #[x0,x1,x2,x3,x4,x5] t) (y0 y1 y2 y3 y4 y5:Value):
  ae ((((((w.setCell ⟨b,0,none⟩ y0).setCell ⟨b,1,none⟩ y1).setCell ⟨b,2,none⟩ y2).setCell ⟨b,3,none⟩ y3).setCell ⟨b,4,none⟩ y4).setCell ⟨b,5,none⟩ y5) b #[y0,y1,y2,y3,y4,y5] t:=by
 have:=((((((h.set 0 y0).set 1 y1).set 2 y2).set 3 y3).set 4 y4).set 5 y5)
 simpa using this
theorem aa.gC {S:List Nat} {a:World} (h:aa S a w) (hp:b∈S\/a.heap.size<=b) (y0 y1 y2 y3 y4 y5:Value):aa S a ((((((w.setCell ⟨b,0,none⟩ y0).setCell ⟨b,1,none⟩ y1).setCell ⟨b,2,none⟩ y2).setCell ⟨b,3,none⟩ y3).setCell ⟨b,4,none⟩ y4).setCell ⟨b,5,none⟩ y5):=
 (((((h.setCell (p:=⟨b,0,none⟩) hp _).setCell (p:=⟨b,1,none⟩) hp _).setCell (p:=⟨b,2,none⟩) hp _).setCell (p:=⟨b,3,none⟩) hp _).setCell (p:=⟨b,4,none⟩) hp _).setCell (p:=⟨b,5,none⟩) hp _
theorem ae.ni {g:Nat} {cs:Array Value} (h:ae w g cs t) (hp:g≠b) (y0 y1 y2 y3 y4 y5:Value):ae ((((((w.setCell ⟨b,0,none⟩ y0).setCell ⟨b,1,none⟩ y1).setCell ⟨b,2,none⟩ y2).setCell ⟨b,3,none⟩ y3).setCell ⟨b,4,none⟩ y4).setCell ⟨b,5,none⟩ y5) g cs t:=
 (((((h.other (p:=⟨b,0,none⟩) hp _).other (p:=⟨b,1,none⟩) hp _).other (p:=⟨b,2,none⟩) hp _).other (p:=⟨b,3,none⟩) hp _).other (p:=⟨b,4,none⟩) hp _).other (p:=⟨b,5,none⟩) hp _
end Go.Proofs.YtdkimcnlhmhpgaaGreat
namespace Go.Proofs.YtdkimcnlhmhpgaaGreat
open Go.RowKit Go.Maps
variable {w w':World} {mb n:Nat} {f:Nat->Option (List UInt8)}
def eY (l:List (Nat×List UInt8)) (i:Nat):Option (List UInt8):=l.foldl (fun acc x=>if x.1=i then some x.2 else acc) none
theorem BN (i:Nat):eY [] i=none:=rfl
theorem jX (l:List (Nat×List UInt8)) (x:Nat×List UInt8) (i:Nat):eY (l++[x]) i=if x.1=i then some x.2 else eY l i:=by
 unfold eY;rw[List.foldl_append];rfl
theorem DV:Keyed Tryz.prog 3:=int_keyed Tryz.underlying3
def cW (w:World) (mb n:Nat) (f:Nat->Option (List UInt8)):Prop:=
 ∃D:DataW Unit,w.ownsMap Tryz.prog 3 (plainElem Tryz.prog 9) mb n D/\∀i:Nat,i<=8192->Maps.has D (.int .i64 i)=(f i).isSome/\∀s,f i=some s->∀z,D.atKey (.int .i64 i) z=.lit (.string s)
theorem cW.lt (h:cW w mb n f):mb<w.heap.size:=by obtain⟨D,h,_⟩:=h;exact h.lt
theorem cW.made (w:World):cW (w.alloc (.map #[] 0)) w.heap.size 0 (fun _=>none):=
 ⟨.map [],World.ownsMap_made _ _ _ _,fun i _=>⟨rfl,fun s h=>by cases h⟩⟩
theorem cW.block (h:cW w mb n f) (hb:w'.heap[mb]? =w.heap[mb]?):cW w' mb n f:=by
 obtain⟨D,⟨es,clock,h1,h2⟩,h3⟩:=h
 exact⟨D,⟨es,clock,hb.trans h1,h2⟩,h3⟩
theorem cW.kept {S:List Nat} (h:cW w mb n f) (k:aa S w w') (hS:mb∉S):cW w' mb n f:=
 h.block (k.block mb h.lt hS)
theorem cW.other (h:cW w mb n f) {p:Addr} (hp:mb≠p.block) (u:Value):cW (w.setCell p u) mb n f:=
 h.block (Below.heap_setCell w p u mb hp)
theorem cW.alloc (h:cW w mb n f) (o:Obj):cW (w.alloc o) mb n f:=
 h.kept ((aa.refl [] w).alloc o) (by simp)
theorem Az (i:Nat) (h:i<=8192):keyOf Tryz.prog 3 (.int .i64 i)=some (.int .i64 i):=keyOf_int_mk Tryz.underlying3 (WalkArith.wf_i64 (by omega))
theorem sx {H:Type} {P:Program} {e:TypeId} (he:P.underlying e=some .string) {v:Value} {z:DataW H×List MemPlace} (h:plainElem P e v=some z):∃s:ByteArray,v=.string s/\z=(.lit (.string s.data.toList),[])/\s.size<=maxLen:=by
 unfold plainElem at h
 rw[he]at h
 cases v<;>simp at h
 exact⟨_,rfl,h.2.symm,h.1⟩
theorem cW.look (h:cW w mb n f) (i:Nat) (hi:i<=8192):
  (Instr.lookup 136 (.map (some mb)) (.int .i64 i) true).run Tryz.prog w=.ok (.tuple #[.string (bs ((f i).getD [])),.bool (f i).isSome]) w:=by
 obtain⟨D,N3,hf⟩:=h
 have hz:(zeroValue 9).run Tryz.prog w=.ok (.string ⟨#[]⟩) w:=by kernel_rfl
 obtain⟨v,ps,NT,hv⟩:=N3.look_ok DV Tryz.underlying136 hz (zd:=.lit (.string [])) (zp:=[]) (plainElem_string Tryz.underlying9 (s:=⟨#[]⟩) (by decide)) (Az i hi)
 obtain⟨s,rfl,hs,_⟩:=sx Tryz.underlying9 hv
 have hs:=congrArg Prod.fst hs
 obtain⟨h1,h2⟩:=hf i hi
 rw[NT,h1]
 cases hfi:f i with
 |none=>
  rw[hfi]at h1
  rw[atKey_of_not_has h1]at hs
  injection hs with hs
  injection hs with hs
  have e:s=bs []:=by rw[<-oU s,<-hs]
  rw[e];rfl
 |some t=>
  rw[h2 t hfi]at hs
  injection hs with hs
  injection hs with hs
  have e:s=bs t:=by rw[<-oU s,<-hs]
  rw[e];rfl
theorem cW.put {w:World} {D:DataW Unit} (hD:IsMap D) (hf:∀i:Nat,i<=8192->Maps.has D (.int .i64 i)=(f i).isSome/\∀s,f i=some s->∀z,D.atKey (.int .i64 i) z=.lit (.string s))
  (i:Nat) (hi:i<=8192) (s:List UInt8) (h:w'.ownsMap Tryz.prog 3 (plainElem Tryz.prog 9) mb n (D.put (.int .i64 i) (.lit (.string s)))):cW w' mb n (fun j=>if i=j then some s else f j):=by
 refine⟨_,h,fun j hj=>?_⟩
 by_cases e:i=j
 .subst e
  simp only[↓reduceIte]
  refine⟨has_put_same hD (by simp[WideAt.IsKeyLit]) _,fun s' hs z=>?_⟩
  injection hs with hs
  subst hs
  exact atKey_put_same hD (by simp[WideAt.IsKeyLit]) _ z
 .simp only[e,↓reduceIte]
  have Ot:(Lit.int .i64 (j:Int))≠.int .i64 (i:Int):=fun hh=>by injection hh with _ hh;omega
  rw[has_put_other Ot]
  refine⟨(hf j hj).1,fun s' hs z=>?_⟩
  rw[atKey_put_other Ot]
  exact(hf j hj).2 s' hs z
structure DK where
 stand:List (List UInt8)
 waits:List (Nat×List UInt8)
 fuse:Int
 ops:Nat
 down:Bool
def bA (l:List (List UInt8)):Array Value:=(l.map fun s=>Value.string (bs s)).toArray
def iK (l:List (Nat×List UInt8)):List Value:=(l.map fun x=>[Value.int .i64 (x.1:Int),Value.string (bs x.2)]).flatten
def aI (w:World) (b sb mb lo:Nat) (d:DK):Prop:=
 ∃wv n,ae w b #[.slice (some ⟨sb,0,none⟩) d.stand.length d.stand.length,wv,.map (some mb),.int .i64 d.fuse,.int .i64 d.ops,.bool d.down] 138/\
  ae w sb (bA d.stand) 9/\w.ownsRow lo 206 2 wv d.waits.length (iK d.waits)/\cW w mb n (eY d.waits)/\n<=d.waits.length/\
  sb<b/\mb<b/\sb≠mb/\b<lo/\lo<=w.heap.size/\1<=d.stand.length/\d.stand.length<=8192/\ -1<=d.fuse/\d.fuse<=9223372036854775807/\d.ops<=100000
end Go.Proofs.YtdkimcnlhmhpgaaGreat
namespace Go.Proofs.YtdkimcnlhmhpgaaGreat
open Go.RowKit
variable {A:Prop}
theorem tu (l:List (List UInt8)) (i:Nat) (h:i<l.length):(bA l)[i]'(by simp[bA];exact h)=.string (bs l[i]):=by simp[bA]
theorem aI.rI {w:World} {b sb mb lo:Nat} {d:DK} (h:aI w b sb mb lo d):∃p c,w.cell? ⟨b,0,none⟩=some (.slice (some ⟨sb,0,none⟩) d.stand.length d.stand.length)/\w.cell? ⟨b,1,none⟩=some (.slice p d.waits.length c)/\w.cell? ⟨b,2,none⟩=some (.map (some mb))/\w.cell? ⟨b,3,none⟩=some (.int .i64 d.fuse)/\w.cell? ⟨b,4,none⟩=some (.int .i64 d.ops)/\w.cell? ⟨b,5,none⟩=some (.bool d.down)/\1<=d.stand.length/\d.stand.length<=8192/\d.ops<=100000:=by
 obtain⟨wv,n,o,os,hw,hm,h1,h2,h3,h4,h5,h6,h7,h8,h9,h10,h11⟩:=h
 obtain⟨p,c,rfl⟩:=ai hw
 obtain⟨c0,c1,c2,c3,c4,c5⟩:=o.c6
 exact⟨p,c,c0,c1,c2,c3,c4,c5,h7,h8,h11⟩
def lg (d:DK):Int:=if d.down then 90 else 0
theorem ui (b sb mb lo:Nat) (d:DK) (w:World) (h:aI w b sb mb lo d):Calls Tryz.prog 89 #[.pointer (some ⟨b,0,none⟩)] w fun e w'=>e=.returned (.int .i64 (lg d))/\w=w':=by
 obtain⟨p,c,c0,c1,c2,c3,c4,c5,h1,h2,h3⟩:=h.rI
 have Ot:((d.stand.length:Int)==0)=false:=by rw[ME];omega
 unfold lg
 generalize d.stand.length=n at*
 cases hd:d.down
 .rw[hd]at c5
  clear h hd
  go_enter Tryz.func89,Tryz.ntmps89
  go_wp2_with fail
  go_ret
  exact⟨rfl,rfl⟩
 .rw[hd]at c5
  clear h hd
  go_enter Tryz.func89,Tryz.ntmps89
  go_wp2_with fail
  go_ret
  exact⟨rfl,rfl⟩
def N7 (d:DK) (i:Int):Int:=if d.down then 90 else if i<0\/(d.stand.length:Int)<=i then 5 else 0
theorem M26 (h:A:=by
 go_wp2_with fail
 refine hr.mono ?_;rintro e w' ⟨rfl,rfl⟩
 go_wp2_with fail
 go_ret
 exact⟨rfl,rfl⟩):A:=h
theorem Eb (b sb mb lo:Nat) (d:DK) (i:Int) (w:World) (h:aI w b sb mb lo d):Calls Tryz.prog 120 #[.pointer (some ⟨b,0,none⟩),.int .i64 i] w fun e w'=>e=.returned (.int .i64 (N7 d i))/\w=w':=by
 have hr:=ui b sb mb lo d w h
 obtain⟨p,c,c0,c1,c2,c3,c4,c5,h1,h2,h3⟩:=h.rI
 unfold lg at hr
 unfold N7
 generalize d.stand.length=n at*
 cases hd:d.down
 .rw[hd]at hr
  simp only[Bool.false_eq_true,if_false]at hr ⊢
  clear h hd
  rcases(by omega:i<0\/(0<=i/\i<n)\/(0<=i/\¬(i<n)))with h1|⟨h1,h2⟩|⟨h1,h2⟩
  .rw[if_pos (Or.inl h1)]
   go_enter Tryz.func120,Tryz.ntmps120
   exact M26
  .rw[if_neg (by omega)]
   go_enter Tryz.func120,Tryz.ntmps120
   exact M26
  .rw[if_pos (Or.inr (by omega))]
   go_enter Tryz.func120,Tryz.ntmps120
   exact M26
 .rw[hd]at hr
  simp only[if_true]at hr ⊢
  clear h hd
  go_enter Tryz.func120,Tryz.ntmps120
  exact M26
def seen (d:DK) (i:Nat):List UInt8:=(eY d.waits i).getD (d.stand.getD i [])
theorem M42 (h:A:=by
 go_enter Tryz.func62,Tryz.ntmps62
 go_wp2_with fail
 refine hr.mono ?_;rintro e w' ⟨rfl,rfl⟩
 go_wp2_with fail
 go_ret2
 exact⟨rfl,rfl⟩):A:=h
theorem Gk (b sb mb lo:Nat) (d:DK) (i:Int) (w:World) (h:aI w b sb mb lo d) (OF:N7 d i≠0):Calls Tryz.prog 62 #[.pointer (some ⟨b,0,none⟩),.int .i64 i] w fun e w'=>e=.returned (.tuple #[.string ⟨#[]⟩,.int .i64 (N7 d i)])/\w=w':=by
 have hr:=Eb b sb mb lo d i w h
 clear h
 generalize N7 d i=x at*
 have hx:(x==0)=false:=by simpa using OF
 clear OF
 exact M42
theorem Lm (b sb mb lo:Nat) (d:DK) (i:Nat) (w:World) (h:aI w b sb mb lo d) (hd:d.down=false) (hi:i<d.stand.length):Calls Tryz.prog 62 #[.pointer (some ⟨b,0,none⟩),.int .i64 i] w fun e w'=>e=.returned (.tuple #[.string (bs (seen d i)),.int .i64 0])/\w=w':=by
 have hr:=Eb b sb mb lo d i w h
 have e0:N7 d i=0:=by unfold N7;rw[hd,if_neg (by simp),if_neg (by omega)]
 rw[e0]at hr
 obtain⟨p,c,c0,c1,c2,c3,c4,c5,h1,h2,h3⟩:=h.rI
 obtain⟨wv,n,o,os,hw,hm,_⟩:=h
 have UO:=hm.look i (by omega)
 have NW:w.cell? ⟨sb,i,none⟩=some (.string (bs d.stand[i])):=by
  rw[<-tu d.stand i hi]
  exact os.cell i (by simp[bA];exact hi)
 have hs:seen d i=(eY d.waits i).getD d.stand[i]:=by
  unfold seen;rw[MD,Mw hi];rfl
 rw[hs]
 have hi':(i:Int)<d.stand.length:=by omega
 clear os hw hm o hs e0 hd
 generalize d.stand[i]=st at*
 generalize d.stand.length=n at*
 clear hi h1 h2
 cases hl:eY d.waits i with
 |none=>
  rw[hl]at UO
  simp only[Option.getD_none,Option.isSome_none]at UO ⊢
  exact M42
 |some t=>
  rw[hl]at UO
  simp only[Option.getD_some,Option.isSome_some]at UO ⊢
  exact M42
end Go.Proofs.YtdkimcnlhmhpgaaGreat
namespace Go.Proofs.YtdkimcnlhmhpgaaGreat
open Go.RowKit Go.Maps
theorem Vx (b sb mb lo:Nat) (d:DK) (w:World) (h:aI w b sb mb lo d):Calls Tryz.prog 36 #[.pointer (some ⟨b,0,none⟩)] w fun e w'=>e=.returned (.int .i64 d.stand.length)/\w=w':=by
 obtain⟨p,c,c0,c1,c2,c3,c4,c5,h1,h2,h3⟩:=h.rI
 clear h
 go_enter Tryz.func36,Tryz.ntmps36
 go_wp2_with fail
 go_ret
 exact⟨rfl,rfl⟩
theorem Hc (b sb mb lo:Nat) (d:DK) (w:World) (h:aI w b sb mb lo d):Calls Tryz.prog 61 #[.pointer (some ⟨b,0,none⟩)] w fun e w'=>e=.returned (.bool d.down)/\w=w':=by
 obtain⟨p,c,c0,c1,c2,c3,c4,c5,h1,h2,h3⟩:=h.rI
 clear h
 go_enter Tryz.func61,Tryz.ntmps61
 go_wp2_with fail
 go_ret
 exact⟨rfl,rfl⟩
def dK (d:DK):DK:=⟨d.stand,d.waits,if 0<d.fuse then d.fuse-1 else d.fuse,d.ops+1,if d.fuse=0 then true else d.down⟩
theorem aI.nums {w w':World} {b sb mb lo:Nat} {d d':DK} (h:aI w b sb mb lo d) (k:aa [b] w w') (hs:d'.stand=d.stand) (hw:d'.waits=d.waits) (hf: -1<=d'.fuse) (hf2:d'.fuse<=9223372036854775807) (ho:d'.ops<=100000)
  (N3:∀v0 v1 v2,ae w b #[v0,v1,v2,.int .i64 d.fuse,.int .i64 d.ops,.bool d.down] 138->ae w' b #[v0,v1,v2,.int .i64 d'.fuse,.int .i64 d'.ops,.bool d'.down] 138):aI w' b sb mb lo d':=by
 obtain⟨wv,n,o,os,Ti,hm,hn,h2,h3,h4,h5,h6,h7,h8,h9,h10,h11⟩:=h
 refine⟨wv,n,?_,?_,?_,?_,by rw[hw];exact hn,h2,h3,h4,h5,MA h6 k.size,by rw[hs];exact h7,by rw[hs];exact h8,hf,hf2,ho⟩
 .rw[hs];exact N3 _ _ _ o
 .rw[hs];exact k.own os (by simp;omega)
 .rw[hw];exact au Ti k (by simp;omega)
 .rw[hw];exact hm.kept k (by simp;omega)
end Go.Proofs.YtdkimcnlhmhpgaaGreat
namespace Go.Proofs.YtdkimcnlhmhpgaaGreat
open Go.RowKit
variable {w:World} {base size n g:Nat} {e t:TypeId} {v:Value} {xs:List Value} {cs:Array Value}
theorem aB (h:w.ownsRow base e size v n xs) (o:ae w g cs t) (Ot:e≠t):v.ownBlock≠some g:=by
 rcases h.2 with⟨rfl,_⟩|⟨g',cap,cur,rfl,_,hh,_⟩
 .simp[Value.ownBlock]
 .intro he
  have e1:g'=g:=by simpa[Value.ownBlock]using he
  subst e1
  have o':w.heap[g']? =some (.cells cs t (0,0)):=o
  rw[o']at hh
  injection hh with hh
  injection hh with _ ht
  exact Ot ht.symm
theorem cK {w':World} (h:w.ownsRow base e size v n xs) (hg:w.grownBy w' v.ownBlock) (o:ae w g cs t) (Ot:e≠t):ae w' g cs t:=
 Eq.trans (hg.block g o.lt (fun he=>aB h o Ot he.symm)) o
theorem dR (h:w.ownsRow base e size v n xs) {p:Addr} (hp:v.ownBlock≠some p.block) (u:Value):(w.setCell p u).ownsRow base e size v n xs:=by
 obtain⟨h1,h2⟩:=h
 refine⟨h1,?_⟩
 rcases h2 with h2|⟨g,cap,cur,rfl,hg,hh,r⟩
 .exact Or.inl h2
 .refine Or.inr ⟨g,cap,cur,rfl,hg,(Below.heap_setCell w p u g (fun e=>hp (by simp[Value.ownBlock,e]))).trans hh,r⟩
end Go.Proofs.YtdkimcnlhmhpgaaGreat
namespace Go.Proofs.YtdkimcnlhmhpgaaGreat
open Go.RowKit Go.Maps
theorem F6:∃i,Tryz.prog.info? 206=some i/\i.zero=some (.agg #[.int .i64 0,.string ⟨#[]⟩])/\i.size=2/\i.bytes=24:=by
 have hi:(Tryz.prog.info? 206).map (fun i=>(i.zero,i.size,i.bytes))=some (some (.agg #[.int .i64 0,.string ⟨#[]⟩]),2,24):=by kernel_rfl
 exact VQ
theorem yJ (l:List (Nat×List UInt8)) (x:Nat×List UInt8):iK (l++[x])=iK l++[.int .i64 (x.1:Int),.string (bs x.2)]:=by simp[iK]
theorem Ea (b sb mb lo:Nat) (d:DK) (i:Int) (s:ByteArray) (w:World) (h:aI w b sb mb lo d) (OF:N7 d i≠0):Calls Tryz.prog 88 #[.pointer (some ⟨b,0,none⟩),.int .i64 i,.string s] w fun e w'=>e=.returned (.int .i64 (N7 d i))/\w=w':=by
 have hr:=Eb b sb mb lo d i w h
 clear h
 generalize N7 d i=x at*
 have hx:(x==0)=false:=by simpa using OF
 clear OF
 go_enter Tryz.func88,Tryz.ntmps88
 exact M26
theorem Cc (b sb mb lo:Nat) (d:DK) (i:Int) (s:ByteArray) (w:World) (h:aI w b sb mb lo d) (h0:N7 d i=0) (hs:s.size≠128):Calls Tryz.prog 88 #[.pointer (some ⟨b,0,none⟩),.int .i64 i,.string s] w fun e w'=>e=.returned (.int .i64 1)/\w=w':=by
 have hr:=Eb b sb mb lo d i w h
 rw[h0]at hr
 clear h h0
 have hx:((s.size:Int)==128)=false:=by rw[ME];omega
 clear hs
 go_enter Tryz.func88,Tryz.ntmps88
 exact M26
def aL (d:DK) (i:Nat) (s:List UInt8):DK:=⟨d.stand,d.waits++[(i,s)],(dK d).fuse,d.ops+1,(dK d).down⟩
def Cw (b sb mb lo:Nat) (w w':World):Prop:=
 w'.os=w.os/\w'.tape=w.tape/\w'.output=w.output/\w.heap.size<=w'.heap.size/\∀k,k<w.heap.size->k≠b->k≠sb->k≠mb->(k<lo\/∀cs f,w.heap[k]? ≠some (.cells cs 206 f))->w'.heap[k]? =w.heap[k]?
end Go.Proofs.YtdkimcnlhmhpgaaGreat
namespace Go.Proofs.YtdkimcnlhmhpgaaGreat
open Go.RowKit Go.Maps Go.ChangeMaps
variable {w:World}
theorem cW.Eh {mb n:Nat} {f:Nat->Option (List UInt8)} (h:cW w mb n f) (ty:TypeId):
  ∃w',(Builtin.clear_ #[136] ty #[.map (some mb)]).run Tryz.prog w=.ok (.tuple #[]) w'/\cW w' mb 0 (fun _=>none)/\aa [mb] w w':=by
 obtain⟨D,N3,hf⟩:=h
 obtain⟨es,clock,hb,F,hs,rfl⟩:=N3
 have NT:(Builtin.clear_ #[136] ty #[.map (some mb)]).run Tryz.prog w=.ok (.tuple #[]) (setBlock w mb (.map #[] clock)):=by
  simp[Builtin.clear_,run_underlying Tryz.underlying136,MapKept.run_getObj_map hb,MapKept.run_setObj_map _ hb,Result.andThen,setBlock]
 have ht:w.mapTurned (setBlock w mb (.map #[] clock)) mb:=⟨es,clock,#[],clock,hb,rfl⟩
 refine⟨_,NT,⟨.map [],⟨#[],clock,heap_setBlock_same hb _,⟨by simp,MapKept.stamped_empty clock,by simp⟩,Md _,rfl⟩,fun i _=>⟨rfl,fun s h=>by cases h⟩⟩,?_⟩
 exact(aa.refl [mb] w).grown ht.grown (fun k hk=>Or.inl (by simp at hk;simp[hk]))
theorem LZ (i:Int) (w:World):Calls Tryz.prog 91 #[.int .i64 i] w fun e w'=>e=.returned (.bool true)/\w=w':=by
 go_enter Tryz.func91,Tryz.ntmps91
 go_wp2_with fail
 go_ret
 exact⟨rfl,rfl⟩
def eA (w:World) (v:Value) (l:List Bool) (lo hi:Nat):Prop:=
 (l=[]/\∃a c,v=.slice a 0 c)\/
 ∃b off c,v=.slice (some ⟨b,off,none⟩) l.length c/\(∀i (h:i<l.length),w.cell? ⟨b,off+i,none⟩=some (.bool l[i]))/\lo<=b/\b<hi/\hi<=w.heap.size/\l≠[]/\l.length<=c/\c<=maxLen
theorem eA.kept {S:List Nat} {w':World} {v:Value} {l:List Bool} {lo hi:Nat} (h:eA w v l lo hi) (k:aa S w w') (hS:∀x∈S,x<lo\/hi<=x):eA w' v l lo hi:=by
 rcases h with h|⟨b,off,c,h1,h2,h3,h4,h5,h6⟩
 .exact Or.inl h
 .refine Or.inr ⟨b,off,c,h1,fun i hi=>?_,h3,h4,MA h5 k.size,h6⟩
  rw[k.cell (by show b<_;omega) (fun hb=>by have:=hS b hb;omega)]
  exact h2 i hi
def kept (l:List Bool) (i:Nat):Bool:=l.getD i false
theorem M90 {A:Prop}(h:A:=by
 generalize l.length=n at*
 go_enter Tryz.func144,Tryz.ntmps144
 go_wp2_with fail
 go_ret
 exact⟨rfl,rfl⟩):A:=h
theorem I1 (g i:Nat) (v:Value) (l:List Bool) (lo hi:Nat) (w:World) (o:ae w g #[v] 39) (h:eA w v l lo hi) (hl:l.length<=maxLen) (hi':i<=1000000):
  Calls Tryz.prog 144 #[.int .i64 i,.pointer (some ⟨g,0,none⟩)] w fun e w'=>e=.returned (.bool (kept l i))/\w=w':=by
 have c0:=o.cell 0 (by simp)
 by_cases Ns:i<l.length
 .rcases h with⟨rfl,_⟩|⟨b,off,c,rfl,h2,h3,h4,h5,h6,h7,h8⟩
  .simp at Ns
  .have hc:=h2 i Ns
   have hk:kept l i=l[i]:=by unfold kept;rw[MD,Mw Ns];rfl
   rw[hk]
   have i1:(i:Int)<l.length:=by omega
   simp only[List.getElem_toArray,List.getElem_cons_zero]at c0
   clear h2 hk o
   generalize l[i]=x at*
   exact M90
 .have hk:kept l i=false:=by unfold kept;rw[MD,List.getElem?_eq_none (by omega)];rfl
  rw[hk]
  have hs:∃p c,v=.slice p l.length c:=by
   exact M38
  obtain⟨p,c,rfl⟩:=hs
  have i1:¬((i:Int)<l.length):=by omega
  simp only[List.getElem_toArray,List.getElem_cons_zero]at c0
  clear h o hk
  exact M90
end Go.Proofs.YtdkimcnlhmhpgaaGreat
namespace Go.Proofs.YtdkimcnlhmhpgaaGreat
open Go.RowKit Go.Maps
variable {w:World} {v:Value} {lo:Nat} {A:Prop}
def sk (st:List (List UInt8)) (ws:List (Nat×List UInt8)) (keep:Nat->Bool):Nat->List (List UInt8)
 |0=>st
 |k+1=>if keep k then(sk st ws keep k).set (ws.getD k (0,[])).1 (ws.getD k (0,[])).2 else sk st ws keep k
theorem iO (st:List (List UInt8)) (ws:List (Nat×List UInt8)) (keep:Nat->Bool) (k:Nat):(sk st ws keep k).length=st.length:=by
 induction k with
 |zero=>rfl
 |succ k ih=>
   unfold sk;split
   .rw[List.length_set,ih]
   .exact ih
theorem na (st:List (List UInt8)) (ws:List (Nat×List UInt8)) (keep:Nat->Bool) (k:Nat) (h:k<ws.length):sk st ws keep (k+1)=if keep k then(sk st ws keep k).set ws[k].1 ws[k].2 else sk st ws keep k:=by
 have e:ws.getD k (0,[])=ws[k]:=by rw[MD,Mw h];rfl
 rw[sk,e]
theorem ky (l:List (List UInt8)) (i:Nat) (s:List UInt8):(bA l).setIfInBounds i (.string (bs s))=bA (l.set i s):=by
 unfold bA;simp[List.map_set]
theorem tj (l:List (Nat×List UInt8)) (i:Nat) (h:i<l.length):(iK l)[i*2]? =some (.int .i64 (l[i].1:Int))/\(iK l)[i*2+1]? =some (.string (bs l[i].2)):=by
 induction l generalizing i with
 |nil=>simp at h
 |cons a l ih=>
  cases i with
  |zero=>exact⟨rfl,rfl⟩
  |succ i=>
   have e:iK (a::l)=Value.int .i64 (a.1:Int)::Value.string (bs a.2)::iK l:=rfl
   exact M43
def fq (d:DK) (keep:Nat->Bool):DK:=⟨sk d.stand d.waits keep d.waits.length,[],d.fuse,d.ops,d.down⟩
theorem tO {g j:Nat} (h:w.cell? ⟨g,j,none⟩=some v):g<w.heap.size:=World.block_lt_of_cell? _ _ h
theorem zY (b sb mb lo:Nat) (d:DK) (w:World) (h:aI w b sb mb lo d) (hd:d.down=true):Calls Tryz.prog 39 #[.pointer (some ⟨b,0,none⟩)] w fun e w'=>e=.returned (.int .i64 90)/\w=w':=by
 have hr:=ui b sb mb lo d w h
 unfold lg at hr
 rw[hd]at hr
 simp only[if_true]at hr
 go_enter Tryz.func39,Tryz.ntmps39
 exact M26
theorem Kk (p:Option Addr) (n c:Nat) (w:World):Calls Tryz.prog 76 #[.slice p n c] w fun e w'=>e=.returned (.func (.func 144) #[] #[.pointer (some ⟨w.heap.size,0,none⟩)])/\w'=w.alloc (.cells #[.slice p n c] 39):=by
 go_enter Tryz.func76,Tryz.ntmps76
 go_wp2_with fail
 go_ret
 exact⟨rfl,rfl⟩
theorem eA.shape {l:List Bool} {hi:Nat} (h:eA w v l lo hi):∃p c,v=.slice p l.length c:=by
 exact M38
theorem aI.keep {S:List Nat} {w':World} {b sb mb:Nat} {d:DK} (h:aI w b sb mb lo d) (k:aa S w w') (hS:∀x∈S,x<lo/\x≠b/\x≠sb/\x≠mb):aI w' b sb mb lo d:=by
 obtain⟨wv,n,o,os,Ti,hm,hn,h2,h3,h4,h5,h6,r⟩:=h
 exact⟨wv,n,k.own o (fun hx=>(hS _ hx).2.1 rfl),k.own os (fun hx=>(hS _ hx).2.2.1 rfl),au Ti k (fun x hx=>(hS x hx).1),hm.kept k (fun hx=>(hS _ hx).2.2.2 rfl),hn,h2,h3,h4,h5,MA h6 k.size,r⟩
def Oo (d:DK) (keep:List Bool):DK:=⟨sk d.stand d.waits (kept keep) d.waits.length,[],-1,d.ops,false⟩
def PV (d:DK) (n:Int):DK:=⟨d.stand,d.waits,max n (-1),d.ops,d.down⟩
theorem Ff (k:Nat):Lib.repeatL [0] k=List.replicate k 0:=by
 induction k with
 |zero=>rfl
 |succ k ih=>rw[Lib.repeatL,ih];rfl
def Nl:List UInt8:=List.replicate 128 0
theorem LX (w:World):Calls Tryz.prog 34 #[.string {data:=#[0]},.int .i64 128] w fun e w'=>e=.returned (.string (bs Nl))/\aa [] w w':=by
 have h:=Tryz.strings_Repeat {data:=#[0]} 128 w (by omega) (by show 1*128<=_;omega)
 have e:(⟨(Lib.repeatL (ByteArray.mk #[0]).data.toList 128).toArray⟩:ByteArray)=bs Nl:=by
  show bs (Lib.repeatL [0] 128)=_
  rw[Ff];rfl
 rw[e]at h
 exact h.mono fun e w' hh=>⟨hh.1,aa.xK hh.2⟩
def Pw (st:List (List UInt8)):DK:=⟨st,[],-1,0,false⟩
theorem Hb (sb:Nat) (st:List (List UInt8)) (w:World) (o:ae w sb (bA st) 9) (h1:1<=st.length) (h2:st.length<=8192):
  Calls Tryz.prog 35 #[.slice (some ⟨sb,0,none⟩) st.length st.length] w fun e w'=>e=.returned (.pointer (some ⟨w.heap.size+1,0,none⟩))/\aI w' (w.heap.size+1) sb w.heap.size (w.heap.size+2) (Pw st)/\aa [] w w':=by
 have Xt:= @run_makeMap Tryz.prog
 have Ns:=o.lt
 have hm:=(cW.made w).alloc (.cells #[.slice (some ⟨sb,0,none⟩) st.length st.length,.slice none 0 0,.map (some w.heap.size),.int .i64 (-1),.int .i64 0,.bool false] 138)
 have ob:=ae.new (w.alloc (.map #[] 0)) #[.slice (some ⟨sb,0,none⟩) st.length st.length,.slice none 0 0,.map (some w.heap.size),.int .i64 (-1),.int .i64 0,.bool false] 138
 rw[MK]at ob
 have os:=(o.alloc (.map #[] 0)).alloc (.cells #[.slice (some ⟨sb,0,none⟩) st.length st.length,.slice none 0 0,.map (some w.heap.size),.int .i64 (-1),.int .i64 0,.bool false] 138)
 go_enter Tryz.func35,Tryz.ntmps35
 go_wp2_with fail
 go_ret
 refine⟨rfl,⟨.slice none 0 0,0,ob,os,MG _ _ _ _,hm,Md _,?_,?_,?_,?_,?_,h1,h2,?_,?_,?_⟩,((aa.refl _ _).alloc _).alloc _⟩
 .omega
 .omega
 .omega
 .omega
 .simp
 .show(-1:Int)<= -1;omega
 .show(-1:Int)<=9223372036854775807;omega
 .exact Mu _
def fy (n k:Nat):List (List UInt8):=List.replicate k Nl++List.replicate (n-k) []
theorem B9 (n k:Nat) (h:k<=n):(fy n k).length=n:=by unfold fy;rw[Mc,MF,MF];omega
theorem zT (n k:Nat) (h:k<n):(fy n k).set k Nl=fy n (k+1):=by
 unfold fy
 rw[List.set_append_right _ _ (by simp)]
 have e:n-k=(n-(k+1))+1:=by omega
 rw[e,List.replicate_succ,MF,Nat.sub_self,List.set_cons_zero,List.replicate_succ']
 simp
theorem IP:∃i,Tryz.prog.info? 9=some i/\i.zero=some (.string ⟨#[]⟩)/\i.size=1/\i.bytes=16:=by
 have hi:(Tryz.prog.info? 9).map (fun i=>(i.zero,i.size,i.bytes))=some (some (.string ⟨#[]⟩),1,16):=by kernel_rfl
 exact VQ
theorem pj (n:Nat) (hn:n<=8192) (w:World):(Instr.makeSlice 76 (.int .i64 n) (.int .i64 n)).run Tryz.prog w=.ok (.slice (some ⟨w.heap.size,0,none⟩) n n) (w.alloc (.cells (bA (fy n 0)) 9)):=by
 obtain⟨i0,h1,h2,h3,h4⟩:=IP
 rw[xo (P:=Tryz.prog) 76 9 i0 (.string ⟨#[]⟩) Tryz.underlying76 h1 h2 h3 rfl n (by rw[h4];omega) (by omega) w]
 have e:Array.replicate n (Value.string ⟨#[]⟩)=bA (fy n 0):=by
  unfold bA fy
  apply Array.toList_inj.1
  simp[bs]
 rw[e]
theorem M51 (h:A:=by
 have O4:=hK.size
 have HM:=Mb hmd
 clear hmd os
 go_wp2_with fail
 refine HM.out.mono ?_;rintro e w2 ⟨rfl,hD,k2⟩
 go_wp2_with fail
 go_ret2
 exact⟨_,_,_,_,rfl,hD,Md _,O4,by omega,hK.trans k2⟩):A:=h
theorem M40 (h:A:=by
 go_wp2_with fail
 go_roundw
 case rel=>exact⟨k+1,NU.out,by go_num,HF.out,Yk⟩
 case measure=>(have hh:=NU.out;simp[intOf];omega)):A:=h
theorem LY (n:Nat) (w:World) (h1:1<=n) (h2:n<=8192):
  Calls Tryz.prog 9 #[.int .i64 n] w fun e w'=>∃b sb mb lo,e=.returned (.tuple #[.pointer (some ⟨b,0,none⟩),.int .i64 0])/\aI w' b sb mb lo (Pw (List.replicate n Nl))/\w.heap.size<=sb/\w.heap.size<=mb/\w.heap.size<=b/\aa [] w w':=by
 have UC:=pj n h2
 have o:=ae.new w (bA (fy n 0)) 9
 have i1:(1:Int)<=n:=by omega
 have i2:(n:Int)<=8192:=by omega
 go_enter Tryz.func9,Tryz.ntmps9
 go_wp2_with fail
 go_loopw [16] (fun i wr=>∃k:Nat,k<=n/\i=.int .i64 k/\ae wr w.heap.size (bA (fy n k)) 9/\aa [] w wr) (fun i _=>n-(intOf i).toNat)
 case atStart=>exact⟨0,by omega,rfl,o,(aa.refl _ _).alloc _⟩
 case round=>
  obtain⟨k,hk,rfl,os,hK⟩:=hrel
  by_cases Ns:k<n
  .have NU:=Mb Ns
   go_wp2_with fail
   refine(LX _).mono ?_;rintro e w1 ⟨rfl,k1⟩
   have YZ:=k1.own os (by simp)
   have PR:k<(bA (fy n k)).size:=by simp[bA,B9 n k hk];exact Ns
   obtain⟨v0,s0⟩:∃v0,w1.cell? ⟨w.heap.size,k,none⟩=some v0:=⟨_,YZ.cell k PR⟩
   have zs:=YZ.free k
   have N6:ae (w1.setCell ⟨w.heap.size,k,none⟩ (.string (bs Nl))) w.heap.size (bA (fy n (k+1))) 9:=by
    rw[<-zT n k Ns,<-ky]
    exact YZ.set k _
   have Yk:=(hK.trans k1).setCell (p:=⟨w.heap.size,k,none⟩) (Or.inr (Md _)) (.string (bs Nl))
   have HF:=Mb N6
   clear N6 os YZ PR o
   generalize Nl=Z at*
   exact M40
  .obtain rfl:k=n:=by omega
   have e0:fy k k=List.replicate k Nl:=by unfold fy;rw[Nat.sub_self];simp
   rw[e0]at os
   have hmd:=Hb w.heap.size (List.replicate k Nl) wr os (by rw[MF];exact h1) (by rw[MF];exact h2)
   rw[MF]at hmd
   exact M51
end Go.Proofs.YtdkimcnlhmhpgaaGreat

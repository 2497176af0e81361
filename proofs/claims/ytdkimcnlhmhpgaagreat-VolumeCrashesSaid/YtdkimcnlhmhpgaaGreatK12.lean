/- -/
import Derived.Test.YtdkimcnlhmhpgaaGreatK10
set_option maxHeartbeats 16000000
set_option maxRecDepth 100000
namespace Go.Proofs.YtdkimcnlhmhpgaaGreat
open Go.RowKit Go.Shelf
variable {Inv:DK->World->Prop} {lim D b k B base:Nat} {d:DK} {w w' w0:World} {al:List Nat} {R:DK×Int} {rs:List UInt8} {rv:Value}
theorem MM:type_of% @wpAnyH_done:=@wpAnyH_done
theorem Ml:type_of% @wp_region_held_drew:=@wp_region_held_drew
attribute [local go_sem] Oper.semAt_some
def nG (Inv:DK->World->Prop) (lim:Nat) (d:DK) (l:List (Int×Int)) (s:List UInt8) (w:World) (e:Ending) (w':World):Prop:=e=.returned (.int .i64 (NF d l s).2)/\Inv (NF d l s).1 w'/\bH lim w w'
theorem nW {d':DK} {l:List (Int×Int)} {s:List UInt8} {C:Int} (h:NF d l s=(d',C)) (hI:Inv d' w') (hA:bH lim w w'):nG Inv lim d l s w (.returned (.int .i64 C)) w':=by
 unfold nG;rw[h];exact⟨rfl,hI,hA⟩
theorem bH.putD (h:bH lim w0 w) (hD:w0.heap.size<=D) (o:Obj):bH lim w0 (w.putObj D o):=
 ⟨MA h.1 (iS w D o).size,fun g x hg hx ht=>by
  have hl:=(Array.getElem?_eq_some_iff.1 hx).1
  exact((iS w D o).block g (by have:=h.1;omega) (by simp;omega)).trans (h.2 g x hg hx ht)⟩
theorem xF (x0 x1 x2 x3 x4 x5 x6 x7 x8 x9 x10 x11 x12 x13 x14 x15 x16 x17 x18 x19 x20 x21 x22 x23 x24 x25 x26 x27 x28 x29 x30 x31 x32 x33 x34 x35 x36 x37 x38 x39 x40 x41 x42 x43 x44 x45 x46 x47 x48 x49 x50 x51 x52:Value) (ds:List Deferred):∃u:Nat->Value,({tmps:=#[x0,x1,x2,x3,x4,x5,x6,x7,x8,x9,x10,x11,x12,x13,x14,x15,x16,x17,x18,x19,x20,x21,x22,x23,x24,x25,x26,x27,x28,x29,x30,x31,x32,x33,x34,x35,x36,x37,x38,x39,x40,x41,x42,x43,x44,x45,x46,x47,x48,x49,x50,x51,x52],defers:=ds}:Act)={tmps:=#[x0,x1,x2,(u 3),(u 4),(u 5),(u 6),(u 7),x8,(u 9),x10,(u 11),(u 12),(u 13),(u 14),(u 15),(u 16),(u 17),(u 18),(u 19),(u 20),(u 21),(u 22),(u 23),(u 24),(u 25),(u 26),(u 27),(u 28),(u 29),(u 30),(u 31),(u 32),(u 33),(u 34),(u 35),(u 36),(u 37),(u 38),(u 39),(u 40),(u 41),(u 42),(u 43),(u 44),(u 45),(u 46),(u 47),(u 48),(u 49),(u 50),(u 51),(u 52)],defers:=ds}:=
 ⟨fun n=>[x0,x1,x2,x3,x4,x5,x6,x7,x8,x9,x10,x11,x12,x13,x14,x15,x16,x17,x18,x19,x20,x21,x22,x23,x24,x25,x26,x27,x28,x29,x30,x31,x32,x33,x34,x35,x36,x37,x38,x39,x40,x41,x42,x43,x44,x45,x46,x47,x48,x49,x50,x51,x52].getD n undef,rfl⟩
structure eH (Inv:DK->World->Prop) (lim:Nat) (w0:World) (al:List Nat) (R:DK×Int) (k:Nat) (d:DK) (rs:List UInt8) (B D base:Nat) (rv:Value) (w:World):Prop where
 inv:Inv d w
 box:Boxed w B 172 rv
 row:w.ownsRow base 3 1 rv al.length (mn al)
 mark:w.heap[D]? =some (.deferred (some []))
 asd:bH lim w0 w
 lB:w0.heap.size<=B
 lD:w0.heap.size<=D
 lb:w0.heap.size<=base
 hk:k<=al.length
 here:eJ (al.drop k) d rs=R
 ops:d.ops+(al.length-k)<=99000
 waits:d.waits.length+(al.length-k)<=10000
 rsl:rs.length<=1048576
def L5 (Inv:DK->World->Prop) (lim b:Nat) (w0:World) (v:Value) (al:List Nat) (R:DK×Int) (a':Act) (w':World):Prop:=
 ∃(k:Nat) (d':DK) (rs:List UInt8) (B D base:Nat) (rv:Value) (sv:ByteArray) (x:Int),sv=bs rs/\x=(k:Int)/\(∃u:Nat->Value,a'={tmps:=#[.pointer (some ⟨b,0,none⟩),v,.string sv,(u 3),(u 4),(u 5),(u 6),(u 7),.pointer (some ⟨B,0,none⟩),(u 9),.int .i64 x,(u 11),(u 12),(u 13),(u 14),(u 15),(u 16),(u 17),(u 18),(u 19),(u 20),(u 21),(u 22),(u 23),(u 24),(u 25),(u 26),(u 27),(u 28),(u 29),(u 30),(u 31),(u 32),(u 33),(u 34),(u 35),(u 36),(u 37),(u 38),(u 39),(u 40),(u 41),(u 42),(u 43),(u 44),(u 45),(u 46),(u 47),(u 48),(u 49),(u 50),(u 51),(u 52)],defers:=[{target:=.collected D,args:=#[]}]})/\eH Inv lim w0 al R k d' rs B D base rv w'
def GH (al:List Nat) (a':Act) (_:World):Nat:=al.length-(intOf (a'.tmps.getD 10 undef)).toNat
theorem eH.keep (O:pf Inv b lim) (h:eH Inv lim w0 al R k d rs B D base rv w) (q:aa [] w w'):eH Inv lim w0 al R k d rs B D base rv w':=
 ⟨O.ops.keep h.inv q,(q.block B (by have:=(Array.getElem?_eq_some_iff.1 h.box).1;exact this) (by simp)).trans h.box,au h.row q (by simp),(q.block D (Array.getElem?_eq_some_iff.1 h.mark).1 (by simp)).trans h.mark,h.asd.trans (q.lX lim),h.lB,h.lD,h.lb,h.hk,h.here,h.ops,h.waits,h.rsl⟩
theorem eH.at_ (h:eH Inv lim w0 al R k d rs B D base rv w) (hk:k<al.length):
  ∃g c,rv=.slice (some ⟨g,0,none⟩) al.length c/\w.cell? ⟨B,0,none⟩=some (.slice (some ⟨g,0,none⟩) al.length c)/\w.cell? ⟨g,k,none⟩=some (.int .i64 ((al[k]:Nat):Int)):=by
 have hb:=h.box.cell
 rcases h.row.2 with⟨_,h0⟩|⟨g,c,cur,rfl,_⟩
 .omega
 .refine⟨g,c,rfl,hb,?_⟩
  have:=h.row.cells (g:=g) rfl k (.int .i64 ((al[k]:Nat):Int)) (by simp[mn,hk])
  rwa[s6]at this
theorem Am (x0 x1 x2 x3 x4 x5 x6 x7 x8 x9 x10 x11 x12 x13 x14 x15 x16 x17 x18 x19 x20 x21 x22 x23 x24 x25 x26 x27 x28 x29 x30 x31 x32 x33 x34 x35 x36 x37 x38 x39 x40 x41 x42 x43 x44 x45 x46 x47 x48 x49 x50 x51 x52:Value) (ds:List Deferred):∃u:Nat->Value,({tmps:=#[x0,x1,x2,x3,x4,x5,x6,x7,x8,x9,x10,x11,x12,x13,x14,x15,x16,x17,x18,x19,x20,x21,x22,x23,x24,x25,x26,x27,x28,x29,x30,x31,x32,x33,x34,x35,x36,x37,x38,x39,x40,x41,x42,x43,x44,x45,x46,x47,x48,x49,x50,x51,x52],defers:=ds}:Act)={tmps:=#[x0,x1,x2,(u 3),(u 4),(u 5),(u 6),(u 7),x8,(u 9),x10,x11,x12,(u 13),(u 14),(u 15),(u 16),(u 17),(u 18),(u 19),(u 20),(u 21),(u 22),(u 23),(u 24),(u 25),(u 26),(u 27),(u 28),(u 29),(u 30),(u 31),(u 32),(u 33),(u 34),(u 35),(u 36),(u 37),(u 38),(u 39),(u 40),(u 41),(u 42),(u 43),(u 44),(u 45),(u 46),(u 47),(u 48),(u 49),(u 50),(u 51),(u 52)],defers:=ds}:=
 ⟨fun n=>[x0,x1,x2,x3,x4,x5,x6,x7,x8,x9,x10,x11,x12,x13,x14,x15,x16,x17,x18,x19,x20,x21,x22,x23,x24,x25,x26,x27,x28,x29,x30,x31,x32,x33,x34,x35,x36,x37,x38,x39,x40,x41,x42,x43,x44,x45,x46,x47,x48,x49,x50,x51,x52].getD n undef,rfl⟩
def Kv (Inv:DK->World->Prop) (lim b B D:Nat) (v:Value) (rs:List UInt8) (k:Nat) (nn C:Int) (dn:DK) (w':World) (a':Act) (w3:World):Prop:=
 (∃u':Nat->Value,a'={tmps:=#[.pointer (some ⟨b,0,none⟩),v,.string (bs rs),(u' 3),(u' 4),(u' 5),(u' 6),(u' 7),.pointer (some ⟨B,0,none⟩),(u' 9),.int .i64 (k:Int),.int .i64 (nn:Int),.int .i64 C,(u' 13),(u' 14),(u' 15),(u' 16),(u' 17),(u' 18),(u' 19),(u' 20),(u' 21),(u' 22),(u' 23),(u' 24),(u' 25),(u' 26),(u' 27),(u' 28),(u' 29),(u' 30),(u' 31),(u' 32),(u' 33),(u' 34),(u' 35),(u' 36),(u' 37),(u' 38),(u' 39),(u' 40),(u' 41),(u' 42),(u' 43),(u' 44),(u' 45),(u' 46),(u' 47),(u' 48),(u' 49),(u' 50),(u' 51),(u' 52)],defers:=[{target:=.collected D,args:=#[]}]})/\∃W,aa [] w' W/\bH lim W w3/\Inv dn w3
theorem vD (h:k<al.length) (d:DK) (rs:List UInt8):eJ (al.drop k) d rs=if NV d al[k] (av rs)=0 then eJ (al.drop (k+1)) (NG d al[k] (av rs)) (rs.drop 128)else(NG d al[k] (av rs),NV d al[k] (av rs)):=by
 rw[List.drop_eq_getElem_cons h,eJ]
theorem Em {g c:Nat} (hb:Boxed w B 172 (.slice (some ⟨g,0,none⟩) al.length c)) (hr:w.ownsRow base 3 1 (.slice (some ⟨g,0,none⟩) al.length c) al.length (mn al)) (hk:k<al.length):
  w.cell? ⟨B,0,none⟩=some (.slice (some ⟨g,0,none⟩) al.length c)/\w.cell? ⟨g,k,none⟩=some (.int .i64 ((al[k]:Nat):Int)):=by
 refine⟨hb.cell,?_⟩
 have:=hr.cells (g:=g) rfl k (.int .i64 ((al[k]:Nat):Int)) (by simp[mn,hk])
 rwa[s6]at this
section
variable {Inv:DK->World->Prop} {b lim:Nat} {al:List Nat} {R:DK×Int} {k:Nat} {d:DK} {rs:List UInt8} {B D base:Nat} {rv:Value} {w0 w W W3:World}
theorem eH.Kq (O:pf Inv b lim) (h:eH Inv lim w0 al R k d rs B D base rv w) (hlim:lim<=w0.heap.size) (q:aa [] w W) (a:bH lim W W3):Boxed W3 B 172 rv:=a.own ((h.keep O q).box) (by have:=h.lB;omega) (by decide)
theorem eH.JT (O:pf Inv b lim) (h:eH Inv lim w0 al R k d rs B D base rv w) (hlim:lim<=w0.heap.size) (q:aa [] w W) (a:bH lim W W3):W3.ownsRow base 3 1 rv al.length (mn al):=a.row ((h.keep O q).row) (by have:=h.lb;omega) (by decide)
theorem eH.GY (O:pf Inv b lim) (h:eH Inv lim w0 al R k d rs B D base rv w) (hlim:lim<=w0.heap.size) (q:aa [] w W) (a:bH lim W W3):W3.heap[D]? =some (.deferred (some [])):=a.obj ((h.keep O q).mark) (by have:=h.lD;omega) (fun _ _ _ e=>by cases e)
theorem eH.next (O:pf Inv b lim) (h:eH Inv lim w0 al R k d rs B D base rv w) (hlim:lim<=w0.heap.size) (hk:k<al.length) (q:aa [] w W) (a:bH lim W W3) (hI:Inv (NG d al[k] (av rs)) W3) (hC:NV d al[k] (av rs)=0):
  eH Inv lim w0 al R (k+1) (NG d al[k] (av rs)) (rs.drop 128) B D base rv W3:=by
 have hh:=h.here
 rw[vD hk,if_pos hC]at hh
 have ho:=fk d (al[k]:Int) (av rs)
 have h1:=h.ops
 have h2:=h.waits
 exact⟨hI,h.Kq O hlim q a,h.JT O hlim q a,h.GY O hlim q a,(h.asd.trans (q.lX lim)).trans a,h.lB,h.lD,h.lb,hk,hh,by omega,by omega,by rw[Mq];have:=h.rsl;omega⟩
theorem eH.stop (O:pf Inv b lim) (h:eH Inv lim w0 al R k d rs B D base rv w) (hlim:lim<=w0.heap.size) (hk:k<al.length) (q:aa [] w W) (a:bH lim W W3) (hI:Inv (NG d al[k] (av rs)) W3) (hC:¬NV d al[k] (av rs)=0):
  W3.heap[D]? =some (.deferred (some []))/\R=(NG d al[k] (av rs),NV d al[k] (av rs))/\Inv (NG d al[k] (av rs)) (W3.putObj D (.deferred none))/\bH lim w0 (W3.putObj D (.deferred none)):=by
 have hh:=h.here
 rw[vD hk,if_neg hC]at hh
 have hm:=h.GY O hlim q a
 exact⟨hm,hh.symm,O.putD hI hm (iS _ _ _) (by have:=h.lD;omega),bH.putD ((h.asd.trans (q.lX lim)).trans a) h.lD _⟩
theorem eH.fin (O:pf Inv b lim) (h:eH Inv lim w0 al R k d rs B D base rv w) (hlim:lim<=w0.heap.size) (hk:k=al.length) (q:aa [] w W):
  W.heap[D]? =some (.deferred (some []))/\R=(d,0)/\Inv d (W.putObj D (.deferred none))/\bH lim w0 (W.putObj D (.deferred none)):=by
 have hh:=h.here
 rw[hk,List.drop_length]at hh
 have h':=h.keep O q
 exact⟨h'.mark,hh.symm,O.putD h'.inv h'.mark (iS _ _ _) (by have:=h.lD;omega),bH.putD h'.asd h.lD _⟩
end
theorem M29 {A:Prop}(h:A:=by
 rintro a3 w3 ⟨⟨u',rfl⟩,W,kk,hA3,hI3⟩
 by_cases hC:C=0
 .subst hC
  have HN:=Mb (Ue.out _ _ kk hA3 hI3 rfl)
  clear hI3 hA3 Ue OU
  go_wp2_with fail
  go_step3
  refine⟨rfl,⟨k+1,dn,rs.drop 128,B,D,base,_,_,_,XU.out,(show(k:Int)+1=((k+1:Nat):Int)by omega),(xF ..),HN.out⟩,?_⟩
  have hh:=NU.out
  simp[GH,intOf];omega
 .have HE:=Mb (OU.out _ _ kk hA3 hI3 hC)
  clear hI3 hA3 Ue OU
  go_wp2_with fail
  simp only[Exit.jump]
  exact tz (v:=.int .i64 C) HE.out.1 (by simp[results,Tryz.f49,go_sem]) HE.out.2):A:=h
theorem M9 {A:Prop}(h:A:=by
 refine bD (i:=0) (d:=some 35) (v:=?_) rfl rfl (by kernel_rfl) (by kernel_rfl) (by kernel_rfl) (fun _ _ _ h=>nomatch h.1) (Or.inl ⟨by rfl,?_⟩) (by assumption) ?_
 rotate_left
 ·(intro w PQ;(try dsimp only at PQ);go_simp;try with_reducible rfl)
 try simp only[Act.put,List.setIfInBounds_toArray,List.set_cons_zero,List.set_cons_succ]
 refine bD (i:=1) (d:=some 36) (v:=?_) rfl rfl (by kernel_rfl) (by kernel_rfl) (by kernel_rfl) (fun _ _ _ h=>nomatch h.1) (Or.inl ⟨by rfl,?_⟩) (by assumption) ?_
 rotate_left
 ·(intro w PQ;(try dsimp only at PQ);go_simp;try with_reducible rfl)
 try simp only[Act.put,List.setIfInBounds_toArray,List.set_cons_zero,List.set_cons_succ]
 refine bD (i:=2) (d:=some 37) (v:=?_) rfl rfl (by kernel_rfl) (by kernel_rfl) (by kernel_rfl) (fun _ _ _ h=>nomatch h.1) (Or.inl ⟨by rfl,?_⟩) (by assumption) ?_
 rotate_left
 ·(intro w PQ;(try dsimp only at PQ);go_simp;try with_reducible rfl)
 try simp only[Act.put,List.setIfInBounds_toArray,List.set_cons_zero,List.set_cons_succ]
 refine bD (i:=3) (d:=some 38) (v:=?_) rfl rfl (by kernel_rfl) (by kernel_rfl) (by kernel_rfl) (fun _ _ _ h=>nomatch h.1) (Or.inl ⟨by rfl,?_⟩) (by assumption) ?_
 rotate_left
 ·(intro w PQ;(try dsimp only at PQ);go_simp;try with_reducible rfl)
 try simp only[Act.put,List.setIfInBounds_toArray,List.set_cons_zero,List.set_cons_succ]
 refine bD (i:=4) (d:=some 39) (v:=?_) rfl rfl (by kernel_rfl) (by kernel_rfl) (by kernel_rfl) (fun _ _ _ h=>nomatch h.1) (Or.inl ⟨by rfl,?_⟩) (by assumption) ?_
 rotate_left
 ·(intro w PQ;(try dsimp only at PQ);go_simp;try with_reducible rfl)
 try simp only[Act.put,List.setIfInBounds_toArray,List.set_cons_zero,List.set_cons_succ]
 refine bD (i:=5) (d:=some 40) (v:=?_) rfl rfl (by kernel_rfl) (by kernel_rfl) (by kernel_rfl) (fun _ _ _ h=>nomatch h.1) (Or.inl ⟨by rfl,?_⟩) (by assumption) ?_
 rotate_left
 ·(intro w PQ;(try dsimp only at PQ);go_simp;try with_reducible rfl)
 try simp only[Act.put,List.setIfInBounds_toArray,List.set_cons_zero,List.set_cons_succ]
 refine bD (i:=6) (d:=some 41) (v:=?_) rfl rfl (by kernel_rfl) (by kernel_rfl) (by kernel_rfl) (fun _ _ _ h=>nomatch h.1) (Or.inl ⟨by rfl,?_⟩) (by assumption) ?_
 rotate_left
 ·(intro w PQ;(try dsimp only at PQ);go_simp;try with_reducible rfl)
 try simp only[Act.put,List.setIfInBounds_toArray,List.set_cons_zero,List.set_cons_succ]
 refine bD (i:=7) (d:=some 42) (v:=?_) rfl rfl (by kernel_rfl) (by kernel_rfl) (by kernel_rfl) (fun _ _ _ h=>nomatch h.1) (Or.inl ⟨by rfl,?_⟩) (by assumption) ?_
 rotate_left
 ·(intro w PQ;(try dsimp only at PQ);go_simp;try with_reducible rfl)
 try simp only[Act.put,List.setIfInBounds_toArray,List.set_cons_zero,List.set_cons_succ]
 refine rd 8 (fun K hK=>?_)
 go_simp
 (with_reducible refine(HPF.out _).mono ?_);rintro e w2 ⟨rfl,k2⟩
 have kk:=kk.trans k2
 go_wp2_with fail
 refine hK.out _ _ ?_ (fun hHeld=>nm ?_)
 .exact HS.out _ kk
 clear hK K
 refine rd 9 (fun K hK=>?_)
 go_simp
 (with_reducible refine(HW.out _ kk).mono ?_);rintro e w3 ⟨rfl,hI3,hA3⟩
 go_wp2_with fail
 refine hK.out _ _ ?_ (fun hHeld=>nm ?_)
 .exact Se.out _ _ kk hA3
 clear hK K
 refine bD (i:=10) (d:=some 12) (v:=?_) rfl rfl (by kernel_rfl) (by kernel_rfl) (by kernel_rfl) (fun _ _ _ h=>nomatch h.1) (Or.inl ⟨by rfl,?_⟩) (by assumption) ?_
 rotate_left
 ·(intro w PQ;(try dsimp only at PQ);go_simp;try with_reducible rfl)
 try simp only[Act.put,List.setIfInBounds_toArray,List.set_cons_zero,List.set_cons_succ]
 refine MM (by kernel_rfl) ?_ _
 exact⟨rfl,Am ..,_,kk,hA3,hI3⟩):A:=h
theorem L1 (O:pf Inv b lim) (d:DK) (v:Value) (l:List (Int×Int)) (s:List UInt8) (lo hi:Nat) (w:World) (hI:Inv d w) (hlim:lim<=w.heap.size) (h:af w v l lo hi) (hl:l.length<=1000000) (Ox:∀a∈l,aU a)
  (hs:s.length<=1048576) (ho:d.ops<=90000) (hw:d.waits.length<=1800):
  Calls Tryz.prog 49 #[.pointer (some ⟨b,0,none⟩),v,.string (bs s)] w (nG Inv lim d l s w):=by
 have O4:(bs s).size=s.length:=Nj s
 have HC:=Ep O.ops d v l s.length lo hi w hI h hl Ox (ti (by omega))
 have HE:∀W,aa [] w W->Calls Tryz.prog 105 #[v] W fun e w'=>∃f,e=.returned f/\aa [] W w'/\uB 5 w.heap.size l f w':=fun W k=>Er 5 (by omega) w.heap.size v l 0 w.heap.size W (h.wide.kept0 k) hl Ox (Md _) k.size
 clear h Ox
 by_cases hG:Nr d l s.length=0
 .have hX:dA l d.stand.length s.length/\¬d.down=true:=by
   unfold Nr at hG
   by_cases hf:dA l d.stand.length s.length
   .rw[if_pos hf]at hG
    by_cases hd:d.down=true
    .rw[if_pos hd]at hG;omega
    .exact⟨hf,hd⟩
   .rw[if_neg hf]at hG;omega
  have hPX:NF d l s=eJ (Nu l) d s:=by unfold NF;rw[if_pos hX.1,if_neg hX.2]
  have UD:=hX.1.Bf
  have hsE:jq l=Nu l:=vq hX.1
  have hal:(Nu l).length<=8192:=by rw[<-hsE];exact nS l
  rw[hG]at HC
  have hHI:=fun W (k:aa [] w W)=>O.ops.keep hI k
  clear hX UD hI hG
  have k0:=aa.refl [] w
  have XQ:=Mb hPX
  obtain⟨i0,q0,q1,q2,q3⟩:=IQ
  refine(callsIn_wide (n:=6)).1 ?_
  refine callsIn_of_wp_marks Tryz.func49 rfl trivial ?_ rfl
  simp only[Tryz.ntmps49,List.size_toArray,Mz,List.length_nil,Nat.reduceAdd,Nat.reduceSub,Array.replicate_succ,Array.replicate_zero,List.push_toArray,List.append_toArray,Nd,List.cons_append]
  refine wpIn_wide.2 ?_
  go_wp2_with fail
  refine mf 0 (L5 Inv lim b w v (Nu l) (eJ (Nu l) d s)) (GH (Nu l)) rfl ?_ ?_
  .rintro a' w' ⟨k,d',rs,B,D,base,rv,sv,x,rfl,rfl,⟨u,rfl⟩,hP⟩
   have hzr:(bs rs).size=rs.length:=Nj rs
   by_cases Ns:k<(Nu l).length
   .have aed:rs.length<=1048576:=hP.rsl
    obtain⟨g,c,rfl,cB,cg⟩:=hP.at_ Ns
    have Ti:=fun W (q:aa [] w' W)=>O.writeB (((Nu l)[k]:Nat):Int) (av rs) (O.ops.keep hP.inv q) (by have:=hP.ops;omega) (by have:=hP.waits;omega)
    have HS:Hid (∀W,aa [] w' W->W.cell? ⟨B,0,none⟩=some (.slice (some ⟨g,0,none⟩) (Nu l).length c)/\W.cell? ⟨g,k,none⟩=some (.int .i64 (((Nu l)[k]:Nat):Int))):=Mb (fun W q=>Em (hP.keep O q).box (hP.keep O q).row Ns)
    have Se:Hid (∀W W3,aa [] w' W->bH lim W W3->W3.cell? ⟨B,0,none⟩=some (.slice (some ⟨g,0,none⟩) (Nu l).length c)/\W3.cell? ⟨g,k,none⟩=some (.int .i64 (((Nu l)[k]:Nat):Int))):=Mb (fun W W3 q a=>Em (hP.Kq O hlim q a) (hP.JT O hlim q a) Ns)
    have Ue:Hid (∀W W3,aa [] w' W->bH lim W W3->Inv (NG d' (((Nu l)[k]:Nat):Int) (av rs)) W3->NV d' (((Nu l)[k]:Nat):Int) (av rs)=0->eH Inv lim w (Nu l) (eJ (Nu l) d s) (k+1) (NG d' (((Nu l)[k]:Nat):Int) (av rs)) (rs.drop 128) B D base (.slice (some ⟨g,0,none⟩) (Nu l).length c) W3):=Mb (fun W W3 q a hI hC=>hP.next O hlim Ns q a hI hC)
    have OU:Hid (∀W W3,aa [] w' W->bH lim W W3->Inv (NG d' (((Nu l)[k]:Nat):Int) (av rs)) W3->¬NV d' (((Nu l)[k]:Nat):Int) (av rs)=0->W3.heap[D]? =some (.deferred (some []))/\nG Inv lim d l s w (.returned (.int .i64 (NV d' (((Nu l)[k]:Nat):Int) (av rs)))) (W3.putObj D (.deferred none))):=Mb (fun W W3 q a hI hC=>by
     obtain⟨e1,e2,e3,e4⟩:=hP.stop O hlim Ns q a hI hC
     exact⟨e1,nW (XQ.out.trans e2) e3 e4⟩)
    generalize NV d' (((Nu l)[k]:Nat):Int) (av rs)=C at*
    generalize NG d' (((Nu l)[k]:Nat):Int) (av rs)=dn at*
    generalize (Nu l)[k]=y at*
    have HW:=Mb Ti
    have NU:=Mb Ns
    have i1:((k:Int)==((Nu l).length:Int))=false:=by rw[ME];omega
    have i2:(k:Int)<(Nu l).length:=by omega
    have i3:¬((k:Int)=(Nu l).length):=by omega
    have HWK:Hid (wrap64 ((k:Int)+1)=(k:Int)+1):=Mb (IntWalk.wrap64_in _ (by omega))
    clear Ti hP
    rcases(by omega:rs.length<=128\/128<rs.length)with g1|g1
    .have Ta:=fun W=>lI ((bs rs).extract 0 rs.length) 128 W (by rw[aX,Nj];simp;omega) (by omega)
     have VR:Pg ((bs rs).extract 0 rs.length).data.toList 128=av rs:=by
      rw[aX,dP];unfold av
      rw[Mk g1];simp
     rw[VR]at Ta
     have HPF:=Mb Ta
     have XU:Hid (ByteArray.empty=bs (rs.drop 128)):=by
      show _=_;rw[List.drop_of_length_le g1];rfl
     have g2:(rs.length:Int)<=128:=by omega
     have hmn:min (rs.length:Int) 128=rs.length:=by omega
     clear Ta VR
     go_wp2_with fail
     have kk:aa [] w' w'.drew:=(aa.refl _ _).drew
     refine Ae (F:=Kv Inv lim b B D v rs k ((rs.length:Nat):Int) C dn w') ?_ ?_
     .refine Ml (S:=(fun W=>W.cell? ⟨B,0,none⟩=some (.slice (some ⟨g,0,none⟩) (Nu l).length c)/\W.cell? ⟨g,k,none⟩=some (.int .i64 ((y:Nat):Int)))) (by kernel_rfl) (by first|exact HS.out _ kk|go_keep) (fun hHeld=>?_)
      exact M9
     exact M29
    .have Ta:=fun W=>lI ((bs rs).extract 0 128) 128 W (by rw[aX,Nj];simp;omega) (by omega)
     have VR:Pg ((bs rs).extract 0 128).data.toList 128=av rs:=by
      rw[aX,dP];unfold av
      simp
     rw[VR]at Ta
     have HPF:=Mb Ta
     have XU:Hid ((bs rs).extract 128 rs.length=bs (rs.drop 128)):=by
      show _=_;rw[aX,Mk (by rw[Mq];omega)]
     have g2:(128:Int)<rs.length:=by omega
     have g3:(128:Int)<=rs.length:=by omega
     have hmn:min (rs.length:Int) 128=128:=by omega
     clear Ta VR
     go_wp2_with fail
     have kk:aa [] w' w'.drew:=(aa.refl _ _).drew
     refine Ae (F:=Kv Inv lim b B D v rs k (128) C dn w') ?_ ?_
     .refine Ml (S:=(fun W=>W.cell? ⟨B,0,none⟩=some (.slice (some ⟨g,0,none⟩) (Nu l).length c)/\W.cell? ⟨g,k,none⟩=some (.int .i64 ((y:Nat):Int)))) (by kernel_rfl) (by first|exact HS.out _ kk|go_keep) (fun hHeld=>?_)
      exact M9
     exact M29
   .have hke:k=(Nu l).length:=by have:=hP.hk;omega
    have hb:=hP.box.cell
    obtain⟨pu,cu,rfl⟩:=ai hP.row
    obtain⟨e1,e2,e3,e4⟩:=hP.fin O hlim hke (aa.refl _ _)
    have HE:=Mb (nW (XQ.out.trans e2) e3 e4)
    have HM:=Mb e1
    subst hke
    clear e1 e2 e3 e4 hP
    go_wp2_with fail
    simp only[Exit.jump]
    exact tz (v:=.int .i64 0) HM.out (by simp[results,Tryz.f49,go_sem]) HE.out
  .intro W7
   go_wp2_with fail
   refine HC.mono ?_;rintro e w1 ⟨rfl,k1⟩
   go_wp2_with fail
   refine(HE _ (k1.alloc _)).mono ?_;rintro e w2 ⟨f,rfl,k2,B1,B2,rfl,hT⟩
   go_wp2_with fail
   have Tj:=(k1.alloc (.cells #[.slice none 0 0] 172)).trans k2
   have o8:ae w2 w1.heap.size #[.slice none 0 0] 172:=k2.own (ae.new w1 _ _) (by simp)
   have Q6:w.heap.size<=w1.heap.size:=k1.size
   have Qt:w1.heap.size+1<=w2.heap.size:=by have:=k2.size;simpa using this
   have hN8:=nS l
   refine(wpIn_wide (n:=6)).1 ?_
   refine wpIn_rangeFunc_ownG rfl (by omega) (gf:=179) (lb:=#[.pointer (some ⟨B1,0,none⟩),.pointer (some ⟨B2,0,none⟩)]) rfl trivial (enters_of Tryz.func179 (by kernel_rfl) rfl)
    hT (fun h k=>mD.trans h k) (mD.JK (w:=w2) (by omega)) (Below.refl _ w2) (fun _=>rfl)
    (fun(pre:List Nat) W=>(∃v,Boxed W w1.heap.size 172 v/\W.ownsRow w1.heap.size 3 1 v pre.length (mn pre)/\True)/\Below w1.heap.size w2 W)
    (fun c (pre:List Nat) W=>False)
    (OwnFrom.and (Go.Own.from (holdsRow_own w1.heap.size w1.heap.size 172 3 1 (fun pre:List Nat=>pre.length) (fun pre:List Nat=>mn pre) (fun(pre:List Nat) v=>True)) _) (ownFrom_below (by omega) (by omega)))
    (fun c=>ownFrom_pure _ (fun pre:List Nat=>False))
    ⟨⟨_,o8,MG _ _ _ _,trivial⟩,Below.refl _ w2⟩
    (fun x=>{tmps:=#[.pointer (some ⟨b,0,none⟩),v,.string (bs s),undef,undef,undef,.int .i64 0,.int .i64 0,.pointer (some ⟨w1.heap.size,0,none⟩),.int .i64 ((x:Nat):Int),undef,undef,undef,.pointer (some ⟨b,0,none⟩),v,.string (bs s),.int .i64 (s.length:Int),.int .i64 0,.int .i64 0,.bool false,undef,v,.func (.func 179) #[] #[.pointer (some ⟨B1,0,none⟩),.pointer (some ⟨B2,0,none⟩)],.int .i64 ((x:Nat):Int),undef,undef,undef,undef,undef,undef,undef,undef,undef,undef,undef,undef,undef,undef,undef,undef,undef,undef,undef,undef,undef,undef,undef,undef,undef,undef,undef,undef,undef],defers:=[]}) ?assign ?body ?done ?stop
   case assign=>
    intro l x W K hK
    gi_wp2
    exact hK
   case body=>
    rintro lp pre x W ⟨⟨u,hv,Nt,-⟩,hB⟩ Ns
    have hc:=hv.cell
    have adb:=hB.size
    obtain⟨pu,cu,rfl⟩:=ai Nt
    gi_wp2_with (gi_at_builtin;refine wpListIn_append_own _ rfl _ _ 172 rfl w1.heap.size 3 i0 (.int .i64 0) 1 8 Tryz.underlying172 q0 q1 q2 q3 rfl (by decide) _ _ _ rfl (Nt.alloc _) ⟨W.heap.size,0,none⟩ 1 1 [.int .i64 ((x:Nat):Int)] rfl rfl (cell_one_new _ _ _) (by simp[Value.oneCell']) (by unfold maxLen;omega) (by omega) (by simp;omega) ?_;intro v' w2 P4 Om _;obtain⟨g',cap',rfl⟩:=ownsRow_succ P4;obtain⟨SV,Yt,QU,P9,Qo⟩:=hv.appended (by decide) Nt (by omega) (Md _) P4 Om;have Rt:=SV.cell;have hf1:=SV.frozen)
    exact⟨P9.from _,BO hv (by decide) Nt (by decide) Om (Qo.mono (show w.heap.size<=w1.heap.size by omega)),⟨_,Yt,by simpa[mn]using QU,trivial⟩,hB.trans Qo⟩
   case done=>
    rintro D xs W hD rfl ⟨⟨u,hv,Nt,-⟩,hB⟩ hK
    have kW:=oG Tj hB (by omega)
    rw[hsE]at Nt
    have hP0:eH Inv lim w (Nu l) (eJ (Nu l) d s) 0 d s w1.heap.size D w1.heap.size u W:=⟨hHI W kW,hv,Nt,hK,kW.lX lim,by omega,by omega,by omega,Mu _,rfl,by omega,by omega,hs⟩
    have HP0:=Mb hP0
    clear hP0 hv Nt hK
    go_wp2_with fail
    go_step3
    rename_i hcont
    refine hcont _ _ (W7 _ _ ⟨0,d,s,w1.heap.size,D,w1.heap.size,u,bs s,0,rfl,rfl,xF ..,HP0.out⟩)
   case stop=>
    rintro D c pre W hD Z6 h hK
    exact h.elim
 .have Xo:NF d l s=(d,Nr d l s.length):=by
   unfold NF Nr at*
   by_cases hf:dA l d.stand.length s.length
   .rw[if_pos hf]at hG ⊢
    by_cases hd:d.down=true
    .rw[if_pos hd,if_pos hf,if_pos hd]
    .rw[if_neg hd]at hG;exact absurd rfl hG
   .rw[if_neg hf,if_neg hf]
  have OU:Hid (∀W,aa [] w W->nG Inv lim d l s w (.returned (.int .i64 (Nr d l s.length))) W):=Mb (fun W q=>nW Xo (O.ops.keep hI q) (q.lX lim))
  clear Xo HE
  generalize Nr d l s.length=G at*
  have e1:(G != 0)=true:=by simp[hG]
  go_enter Tryz.func49,Tryz.ntmps49
  go_wp2_with fail
  go_step3
  go_wp2_with fail
  refine HC.mono ?_;rintro e w1 ⟨rfl,k1⟩
  have HE:=Mb (OU.out _ k1)
  clear OU
  go_wp2_with fail
  rw[Exit.noGoto_ret]
  go_ret
  exact HE.out
end Go.Proofs.YtdkimcnlhmhpgaaGreat

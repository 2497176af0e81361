/- -/
import Derived.Test.YtdkimcnlhmhpgaaGreatM09
set_option maxHeartbeats 32000000
set_option maxRecDepth 100000
namespace Go.Proofs.YtdkimcnlhmhpgaaGreat
section
open Go.Proofs.Tryz Go.RowKit Go.Shelf
variable {Inv:DK->World->Prop} {lim b k B base:Nat} {d:DK} {w0 w:World} {al:List Nat}
attribute [local go_sem] Oper.semAt_some
def mW (Inv:DK->World->Prop) (lim:Nat) (d:DK) (l:List (Int×Int)) (s:List UInt8) (w:World) (e:Ending) (w':World):Prop:=e=.returned (.int .i64 (OQ d l s).2)/\Inv (OQ d l s).1 w'/\bF lim w w'
theorem nw {d':DK} {l:List (Int×Int)} {s:List UInt8} {C:Int} {w w':World} (h:OQ d l s=(d',C)) (hI:Inv d' w') (hA:bF lim w w'):mW Inv lim d l s w (.returned C) w':=by
 unfold mW;rw[h];exact⟨rfl,hI,hA⟩
theorem bF.putD (h:bF lim w0 w) {D:Nat} (hD:w0.heap.size<=D) (o:Obj):bF lim w0 (w.putObj D o):=
 ⟨Nk h.1 (iI w D o).size,fun g x hg hx ht=>by
  have hl:=(Array.getElem?_eq_some_iff.1 hx).1
  exact((iI w D o).block g (by have:=h.1;omega) _e).trans (h.2 g x hg hx ht)⟩
theorem xh (x0 x1 x2 x3 x4 x5 x6 x7 x8 x9 x10 x11 x12 x13 x14 x15 x16 x17 x18 x19 x20 x21 x22 x23 x24 x25 x26 x27 x28 x29 x30 x31 x32 x33 x34 x35 x36 x37 x38 x39 x40 x41 x42 x43 x44 x45 x46 x47 x48 x49 x50 x51 x52:Value) (ds:List Deferred):∃u:Nat->Value,({tmps:=#[x0,x1,x2,x3,x4,x5,x6,x7,x8,x9,x10,x11,x12,x13,x14,x15,x16,x17,x18,x19,x20,x21,x22,x23,x24,x25,x26,x27,x28,x29,x30,x31,x32,x33,x34,x35,x36,x37,x38,x39,x40,x41,x42,x43,x44,x45,x46,x47,x48,x49,x50,x51,x52],defers:=ds}:Act)={tmps:=#[x0,x1,x2,(u 3),(u 4),(u 5),(u 6),(u 7),x8,(u 9),x10,(u 11),(u 12),(u 13),(u 14),(u 15),(u 16),(u 17),(u 18),(u 19),(u 20),(u 21),(u 22),(u 23),(u 24),(u 25),(u 26),(u 27),(u 28),(u 29),(u 30),(u 31),(u 32),(u 33),(u 34),(u 35),(u 36),(u 37),(u 38),(u 39),(u 40),(u 41),(u 42),(u 43),(u 44),(u 45),(u 46),(u 47),(u 48),(u 49),(u 50),(u 51),(u 52)],defers:=ds}:=
 ⟨fun n=>[x0,x1,x2,x3,x4,x5,x6,x7,x8,x9,x10,x11,x12,x13,x14,x15,x16,x17,x18,x19,x20,x21,x22,x23,x24,x25,x26,x27,x28,x29,x30,x31,x32,x33,x34,x35,x36,x37,x38,x39,x40,x41,x42,x43,x44,x45,x46,x47,x48,x49,x50,x51,x52].getD n undef,rfl⟩
structure et (Inv:DK->World->Prop) (lim:Nat) (w0:World) (al:List Nat) (R:DK×Int) (k:Nat) (d:DK) (rs:List UInt8) (B D base:Nat) (rv:Value) (w:World):Prop where
 inv:Inv d w
 box:Boxed w B 172 rv
 row:w.ownsRow base 3 1 rv al.length (fv al)
 mark:w.heap[D]? =some (.deferred (some []))
 asd:bF lim w0 w
 lB:w0.heap.size<=B
 lD:w0.heap.size<=D
 lb:w0.heap.size<=base
 hk:k<=al.length
 here:gN (al.drop k) d rs=R
 ops:d.ops+(al.length-k)<=99000
 waits:d.waits.length+(al.length-k)<=10000
 rsl:rs.length<=1048576
def My (Inv:DK->World->Prop) (lim b:Nat) (w0:World) (v:Value) (al:List Nat) (R:DK×Int) (a':Act) (w':World):Prop:=
 ∃(k:Nat) (d':DK) (rs:List UInt8) (B D base:Nat) (rv:Value) (sv:ByteArray) (x:Int),sv=bs rs/\x=(k:Int)/\(∃u:Nat->Value,a'={tmps:=#[b,v,.string sv,(u 3),(u 4),(u 5),(u 6),(u 7),B,(u 9),x,(u 11),(u 12),(u 13),(u 14),(u 15),(u 16),(u 17),(u 18),(u 19),(u 20),(u 21),(u 22),(u 23),(u 24),(u 25),(u 26),(u 27),(u 28),(u 29),(u 30),(u 31),(u 32),(u 33),(u 34),(u 35),(u 36),(u 37),(u 38),(u 39),(u 40),(u 41),(u 42),(u 43),(u 44),(u 45),(u 46),(u 47),(u 48),(u 49),(u 50),(u 51),(u 52)],defers:=[{target:=.collected D,args:=#[]}]})/\et Inv lim w0 al R k d' rs B D base rv w'
def Gr (al:List Nat) (a':Act) (_:World):Nat:=al.length-(intOf (a'.tmps.getD 10 undef)).toNat
theorem et.keep (O:om Inv b lim) {al:List Nat} {R:DK×Int} {k:Nat} {d:DK} {rs:List UInt8} {B D base:Nat} {rv:Value} {w0 w w':World} (h:et Inv lim w0 al R k d rs B D base rv w) (q:NP [] w w'):et Inv lim w0 al R k d rs B D base rv w':=
 ⟨O.ops.keep h.inv q,(q.block B (by have:=(Array.getElem?_eq_some_iff.1 h.box).1;exact this) _b).trans h.box,ax h.row q _b,(q.block D (Array.getElem?_eq_some_iff.1 h.mark).1 _b).trans h.mark,h.asd.trans (q.j9 lim),h.lB,h.lD,h.lb,h.hk,h.here,h.ops,h.waits,h.rsl⟩
theorem et.at_ {R:DK×Int} {rs:List UInt8} {D:Nat} {rv:Value} (h:et Inv lim w0 al R k d rs B D base rv w) (hk:k<al.length):
  ∃g c,rv=.slice (some ⟨g,0,none⟩) al.length c/\w.cell? B=some (.slice (some ⟨g,0,none⟩) al.length c)/\w.cell? ⟨g,k,none⟩=some (.int .i64 ((al[k]:Nat):Int)):=by
 have hb:=h.box.cell
 rcases h.row.2 with⟨_,h0⟩|⟨g,c,cur,rfl,_⟩
 .omega
 .refine⟨g,c,rfl,hb,?_⟩
  have:=h.row.cells (g:=g) rfl k ((al[k]:Nat):Int) (by simp[fv,hk])
  rwa[nY]at this
theorem zm (x0 x1 x2 x3 x4 x5 x6 x7 x8 x9 x10 x11 x12 x13 x14 x15 x16 x17 x18 x19 x20 x21 x22 x23 x24 x25 x26 x27 x28 x29 x30 x31 x32 x33 x34 x35 x36 x37 x38 x39 x40 x41 x42 x43 x44 x45 x46 x47 x48 x49 x50 x51 x52:Value) (ds:List Deferred):∃u:Nat->Value,({tmps:=#[x0,x1,x2,x3,x4,x5,x6,x7,x8,x9,x10,x11,x12,x13,x14,x15,x16,x17,x18,x19,x20,x21,x22,x23,x24,x25,x26,x27,x28,x29,x30,x31,x32,x33,x34,x35,x36,x37,x38,x39,x40,x41,x42,x43,x44,x45,x46,x47,x48,x49,x50,x51,x52],defers:=ds}:Act)={tmps:=#[x0,x1,x2,(u 3),(u 4),(u 5),(u 6),(u 7),x8,(u 9),x10,x11,x12,(u 13),(u 14),(u 15),(u 16),(u 17),(u 18),(u 19),(u 20),(u 21),(u 22),(u 23),(u 24),(u 25),(u 26),(u 27),(u 28),(u 29),(u 30),(u 31),(u 32),(u 33),(u 34),(u 35),(u 36),(u 37),(u 38),(u 39),(u 40),(u 41),(u 42),(u 43),(u 44),(u 45),(u 46),(u 47),(u 48),(u 49),(u 50),(u 51),(u 52)],defers:=ds}:=
 ⟨fun n=>[x0,x1,x2,x3,x4,x5,x6,x7,x8,x9,x10,x11,x12,x13,x14,x15,x16,x17,x18,x19,x20,x21,x22,x23,x24,x25,x26,x27,x28,x29,x30,x31,x32,x33,x34,x35,x36,x37,x38,x39,x40,x41,x42,x43,x44,x45,x46,x47,x48,x49,x50,x51,x52].getD n undef,rfl⟩
def Kk (Inv:DK->World->Prop) (lim b B D:Nat) (v:Value) (rs:List UInt8) (k:Nat) (nn C:Int) (dn:DK) (w':World) (a':Act) (w3:World):Prop:=
 (∃u':Nat->Value,a'={tmps:=#[b,v,rs,(u' 3),(u' 4),(u' 5),(u' 6),(u' 7),B,(u' 9),(k:Int),(nn:Int),C,(u' 13),(u' 14),(u' 15),(u' 16),(u' 17),(u' 18),(u' 19),(u' 20),(u' 21),(u' 22),(u' 23),(u' 24),(u' 25),(u' 26),(u' 27),(u' 28),(u' 29),(u' 30),(u' 31),(u' 32),(u' 33),(u' 34),(u' 35),(u' 36),(u' 37),(u' 38),(u' 39),(u' 40),(u' 41),(u' 42),(u' 43),(u' 44),(u' 45),(u' 46),(u' 47),(u' 48),(u' 49),(u' 50),(u' 51),(u' 52)],defers:=[{target:=.collected D,args:=#[]}]})/\∃W,NP [] w' W/\bF lim W w3/\Inv dn w3
theorem uN (h:k<al.length) (d:DK) (rs:List UInt8):gN (al.drop k) d rs=if OW d al[k] (aC rs)=0 then gN (al.drop (k+1)) (OJ d al[k] (aC rs)) (rs.drop 128)else(OJ d al[k] (aC rs),OW d al[k] (aC rs)):=by
 rw[List.drop_eq_getElem_cons h,gN]
theorem DU {g c:Nat} (hb:Boxed w B 172 (g,al.length,c)) (hr:w.ownsRow base 3 1 (g,al.length,c) al.length (fv al)) {k:Nat} (hk:k<al.length):
  w.cell? B=(g,al.length,c)/\w.cell? (aa g k)=some (.int .i64 ((al[k]:Nat):Int)):=by
 refine⟨hb.cell,?_⟩
 have:=hr.cells (g:=g) rfl k ((al[k]:Nat):Int) (by simp[fv,hk])
 rwa[nY]at this
section
variable {Inv:DK->World->Prop} {b lim:Nat} {al:List Nat} {R:DK×Int} {k:Nat} {d:DK} {rs:List UInt8} {B D base:Nat} {rv:Value} {w0 w W W3:World}
theorem et.Ke (O:om Inv b lim) (h:et Inv lim w0 al R k d rs B D base rv w) (hlim:lim<=w0.heap.size) (q:NP [] w W) (a:bF lim W W3):Boxed W3 B 172 rv:=a.own ((h.keep O q).box) (by have:=h.lB;omega) _d
theorem et.Jm (O:om Inv b lim) (h:et Inv lim w0 al R k d rs B D base rv w) (hlim:lim<=w0.heap.size) (q:NP [] w W) (a:bF lim W W3):W3.ownsRow base 3 1 rv al.length (fv al):=a.row ((h.keep O q).row) (by have:=h.lb;omega) _d
theorem et.GH (O:om Inv b lim) (h:et Inv lim w0 al R k d rs B D base rv w) (hlim:lim<=w0.heap.size) (q:NP [] w W) (a:bF lim W W3):W3.heap[D]? =some (.deferred (some [])):=a.obj ((h.keep O q).mark) (by have:=h.lD;omega) (fun _ _ _ e=>by cases e)
theorem et.next (O:om Inv b lim) (h:et Inv lim w0 al R k d rs B D base rv w) (hlim:lim<=w0.heap.size) (hk:k<al.length) (q:NP [] w W) (a:bF lim W W3) (hI:Inv (OJ d al[k] (aC rs)) W3) (hC:OW d al[k] (aC rs)=0):
  et Inv lim w0 al R (k+1) (OJ d al[k] (aC rs)) (rs.drop 128) B D base rv W3:=by
 have hh:=h.here
 rw[uN hk,if_pos hC]at hh
 have ho:=fy d (al[k]:Int) (aC rs)
 have h1:=h.ops
 have h2:=h.waits
 exact⟨hI,h.Ke O hlim q a,h.Jm O hlim q a,h.GH O hlim q a,(h.asd.trans (q.j9 lim)).trans a,h.lB,h.lD,h.lb,hk,hh,_a,_a,by rw[MQ];have:=h.rsl;omega⟩
theorem et.stop (O:om Inv b lim) (h:et Inv lim w0 al R k d rs B D base rv w) (hlim:lim<=w0.heap.size) (hk:k<al.length) (q:NP [] w W) (a:bF lim W W3) (hI:Inv (OJ d al[k] (aC rs)) W3) (hC:¬OW d al[k] (aC rs)=0):
  W3.heap[D]? =some (.deferred (some []))/\R=(OJ d al[k] (aC rs),OW d al[k] (aC rs))/\Inv (OJ d al[k] (aC rs)) (W3.putObj D (.deferred none))/\bF lim w0 (W3.putObj D (.deferred none)):=by
 have hh:=h.here
 rw[uN hk,if_neg hC]at hh
 have hm:=h.GH O hlim q a
 exact⟨hm,hh.symm,O.putD hI hm (iI _ _ _) (by have:=h.lD;omega),bF.putD ((h.asd.trans (q.j9 lim)).trans a) h.lD _⟩
theorem et.fin (O:om Inv b lim) (h:et Inv lim w0 al R k d rs B D base rv w) (hlim:lim<=w0.heap.size) (hk:k=al.length) (q:NP [] w W):
  W.heap[D]? =some (.deferred (some []))/\R=(d,0)/\Inv d (W.putObj D (.deferred none))/\bF lim w0 (W.putObj D (.deferred none)):=by
 have hh:=h.here
 rw[hk,List.drop_length]at hh
 have h':=h.keep O q
 exact⟨h'.mark,hh.symm,O.putD h'.inv h'.mark (iI _ _ _) (by have:=h.lD;omega),bF.putD h'.asd h.lD _⟩
end
theorem M32 {A:Prop}(h:A:=by
 refine tS ?_
 refine rD 8 (fun K hK=>?_)
 go_simp
 (with_reducible refine(HPF.out _).mono ?_);rintro e w2 ⟨rfl,k2⟩
 have kk:=kk.trans k2
 go_wp2_with fail
 refine hK.out _ _ (HS.out _ kk) (fun hHeld=>nM ?_)
 clear hK K
 refine rD 9 (fun K hK=>?_)
 go_simp
 (with_reducible refine(HW.out _ kk).mono ?_);rintro e w3 ⟨rfl,hI3,hA3⟩
 go_wp2_with fail
 refine hK.out _ _ (Ut.out _ _ kk hA3) (fun hHeld=>nM ?_)
 clear hK K
 refine tS ?_
 refine Ng _c ?_ _
 exact⟨rfl,zm ..,_,kk,hA3,hI3⟩):A:=h
theorem M29 {A:Prop}(h:A:=by
 rintro a3 w3 ⟨⟨u',rfl⟩,W,kk,hA3,hI3⟩
 by_cases hC:C=0
 .subst hC
  have HN:=tK (RA.out _ _ kk hA3 hI3 rfl)
  clear hI3 hA3 RA Qd
  go_wp2_with fail
  go_step3
  refine⟨rfl,⟨k+1,dn,rs.drop 128,B,D,base,_,_,_,YE.out,(show(k:Int)+1=((k+1:Nat):Int)by omega),(xh ..),HN.out⟩,?_⟩
  have hh:=Of.out
  simp[Gr,intOf];omega
 .have HE:=tK (Qd.out _ _ kk hA3 hI3 hC)
  clear hI3 hA3 RA Qd
  go_wp2_with fail
  simp only[Exit.jump]
  exact sF (v:=C) HE.out.1 (by simp[results,f49,go_sem]) HE.out.2):A:=h
theorem Mt (O:om Inv b lim) (d:DK) (v:Value) (l:List (Int×Int)) (s:List UInt8) (lo hi:Nat) (w:World) (hI:Inv d w) (hlim:lim<=w.heap.size) (h:af w v l lo hi) (hl:l.length<=1000000) (Pj:∀a∈l,aQ a)
  (hs:s.length<=1048576) (ho:d.ops<=90000) (hw:d.waits.length<=1800):
  am! 49 #[b,v,s] w (mW Inv lim d l s w):=by
 have PW:(bs s).size=s.length:=NQ s
 have HC:=DX O.ops d v l s.length lo hi w hI h hl Pj (vY _a)
 have HE:∀W,NP [] w W->am! 105 #[v] W fun e w'=>∃f,e=.returned f/\NP [] W w'/\tA 5 w l f w':=fun W k=>DY 5 _a w v l 0 w W (h.wide.kept0 k) hl Pj (MG _) k.size
 clear h Pj
 by_cases hG:N7 d l s.length=0
 .have hX:dO l d.stand.length s.length/\¬d.down=true:=by
   unfold N7 at hG
   by_cases hf:dO l d.stand.length s.length
   .rw[if_pos hf]at hG
    by_cases hd:d.down=true
    .rw[if_pos hd]at hG;omega
    .exact⟨hf,hd⟩
   .rw[if_neg hf]at hG;omega
  have hPX:OQ d l s=gN (NY l) d s:=by unfold OQ;rw[if_pos hX.1,if_neg hX.2]
  have TN:=hX.1.wC
  have ZD:eM l=NY l:=oZ hX.1
  have hal:(NY l).length<=8192:=by rw[<-ZD];exact lr l
  rw[hG]at HC
  have hHI:=fun W (k:NP [] w W)=>O.ops.keep hI k
  clear hX TN hI hG
  have k0:=NP.refl [] w
  have XZ:=tK hPX
  have⟨i0,q0,q1,q2,q3⟩:=zG
  refine(callsIn_wide (n:=6)).1 ?_
  refine callsIn_of_wp_marks func49 rfl trivial ?_ rfl
  simp only[ntmps49,List.size_toArray,Nj,List.length_nil,Nat.reduceAdd,Nat.reduceSub,Array.replicate_succ,Array.replicate_zero,List.push_toArray,List.append_toArray,NI,List.cons_append]
  refine wpIn_wide.2 ?_
  go_wp2_with fail
  refine lX 0 (My Inv lim b w v (NY l) (gN (NY l) d s)) (Gr (NY l)) rfl ?_ ?_
  .rintro a' w' ⟨k,d',rs,B,D,base,rv,sv,x,rfl,rfl,⟨u,rfl⟩,hP⟩
   have hzr:(bs rs).size=rs.length:=NQ rs
   by_cases NV:k<(NY l).length
   .have afs:rs.length<=1048576:=hP.rsl
    obtain⟨g,c,rfl,cB,cg⟩:=hP.at_ NV
    have Sr:=fun W (q:NP [] w' W)=>O.writeB (((NY l)[k]:Nat):Int) (aC rs) (O.ops.keep hP.inv q) (by have:=hP.ops;omega) (by have:=hP.waits;omega)
    have HS:Hid (∀W,NP [] w' W->W.cell? B=(g,(NY l).length,c)/\W.cell? (aa g k)=some (.int .i64 (((NY l)[k]:Nat):Int))):=tK (fun W q=>DU (hP.keep O q).box (hP.keep O q).row NV)
    have Ut:Hid (∀W W3,NP [] w' W->bF lim W W3->W3.cell? B=(g,(NY l).length,c)/\W3.cell? (aa g k)=some (.int .i64 (((NY l)[k]:Nat):Int))):=tK (fun W W3 q a=>DU (hP.Ke O hlim q a) (hP.Jm O hlim q a) NV)
    have RA:Hid (∀W W3,NP [] w' W->bF lim W W3->Inv (OJ d' (((NY l)[k]:Nat):Int) (aC rs)) W3->OW d' (((NY l)[k]:Nat):Int) (aC rs)=0->et Inv lim w (NY l) (gN (NY l) d s) (k+1) (OJ d' (((NY l)[k]:Nat):Int) (aC rs)) (rs.drop 128) B D base (g,(NY l).length,c) W3):=tK (fun W W3 q a hI hC=>hP.next O hlim NV q a hI hC)
    have Qd:Hid (∀W W3,NP [] w' W->bF lim W W3->Inv (OJ d' (((NY l)[k]:Nat):Int) (aC rs)) W3->¬OW d' (((NY l)[k]:Nat):Int) (aC rs)=0->W3.heap[D]? =some (.deferred (some []))/\mW Inv lim d l s w (.returned (OW d' (((NY l)[k]:Nat):Int) (aC rs):Int)) (W3.putObj D (.deferred none))):=tK (fun W W3 q a hI hC=>by
     have⟨e1,e2,e3,e4⟩:=hP.stop O hlim NV q a hI hC
     exact⟨e1,nw (XZ.out.trans e2) e3 e4⟩)
    generalize OW d' (((NY l)[k]:Nat):Int) (aC rs)=C at*
    generalize OJ d' (((NY l)[k]:Nat):Int) (aC rs)=dn at*
    generalize (NY l)[k]=y at*
    have⟨HW,Of⟩:=_f Sr NV
    have i1:((k:Int)==((NY l).length:Int))=false:=_y
    have i2:(k:Int)<(NY l).length:=_a
    have i3:¬((k:Int)=(NY l).length):=_a
    have HWK:Hid (wrap64 ((k:Int)+1)=(k:Int)+1):=tK (IntWalk.wrap64_in _ _a)
    clear Sr hP
    rcases(by omega:rs.length<=128\/128<rs.length)with g1|g1
    .have Wl:=fun W=>lz ((bs rs).extract 0 rs.length) 128 W k! _a
     have Zu:Pg ((bs rs).extract 0 rs.length).data.toList 128=aC rs:=by
      rw[aY,cC];unfold aC
      rw[Nh g1];simp
     rw[Zu]at Wl
     have HPF:=tK Wl
     have YE:Hid (ByteArray.empty=bs (rs.drop 128)):=by
      show _=_;rw[List.drop_of_length_le g1];rfl
     have g2:(rs.length:Int)<=128:=_a
     have ZX:min (rs.length:Int) 128=rs.length:=_a
     clear Wl Zu
     go_wp2_with fail
     have kk:NP [] w' w'.drew:=(NP.refl _ _).drew
     refine yY (F:=Kk Inv lim b B D v rs k ((rs.length:Nat):Int) C dn w') ?_ ?_
     .refine MK (S:=(fun W=>W.cell? B=(g,(NY l).length,c)/\W.cell? (aa g k)=some (.int .i64 ((y:Nat):Int)))) _c (by first|exact HS.out _ kk|go_keep) (fun hHeld=>?_)
      exact M32
     exact M29
    .have Wl:=fun W=>lz ((bs rs).extract 0 128) 128 W k! _a
     have Zu:Pg ((bs rs).extract 0 128).data.toList 128=aC rs:=by
      rw[aY,cC];unfold aC
      simp
     rw[Zu]at Wl
     have HPF:=tK Wl
     have YE:Hid ((bs rs).extract 128 rs.length=bs (rs.drop 128)):=by
      show _=_;rw[aY,Nh _z]
     have g2:(128:Int)<rs.length:=_a
     have g3:(128:Int)<=rs.length:=_a
     have ZX:min (rs.length:Int) 128=128:=_a
     clear Wl Zu
     go_wp2_with fail
     have kk:NP [] w' w'.drew:=(NP.refl _ _).drew
     refine yY (F:=Kk Inv lim b B D v rs k (128) C dn w') ?_ ?_
     .refine MK (S:=(fun W=>W.cell? B=(g,(NY l).length,c)/\W.cell? (aa g k)=some (.int .i64 ((y:Nat):Int)))) _c (by first|exact HS.out _ kk|go_keep) (fun hHeld=>?_)
      exact M32
     exact M29
   .have hke:k=(NY l).length:=by have:=hP.hk;omega
    have hb:=hP.box.cell
    obtain⟨pu,cu,rfl⟩:=ah hP.row
    have⟨e1,e2,e3,e4⟩:=hP.fin O hlim hke (NP.refl _ _)
    have HE:=tK (nw (XZ.out.trans e2) e3 e4)
    have HM:=tK e1
    subst hke
    clear e1 e2 e3 e4 hP
    go_wp2_with fail
    simp only[Exit.jump]
    exact sF (v:=(0:Int)) HM.out (by simp[results,f49,go_sem]) HE.out
  .intro Y3
   go_wp2_with fail
   refine HC.mono ?_;rintro e w1 ⟨rfl,k1⟩
   go_wp2_with fail
   refine(HE _ (k1.alloc _)).mono ?_;rintro e w2 ⟨f,rfl,k2,B1,B2,rfl,hT⟩
   go_wp2_with fail
   have Wb:=(k1.alloc (.cells #[()] 172)).trans k2
   have o8:ae w2 w1 #[()] 172:=k2.own (ae.new w1 _ _) _b
   have RH:w.heap.size<=w1.heap.size:=k1.size
   have QG:w1.heap.size+1<=w2.heap.size:=_Z
   have hN8:=lr l
   refine(wpIn_wide (n:=6)).1 ?_
   refine wpIn_rangeFunc_ownG rfl _a (gf:=179) (lb:=#[B1,B2]) rfl trivial (enters_of func179 _c rfl)
    hT (fun h k=>ml.trans h k) (ml.Je (w:=w2) _a) (Below.refl _ w2) (fun _=>rfl)
    (fun(pre:List Nat) W=>(∃v,Boxed W w1 172 v/\W.ownsRow w1 3 1 v pre.length (fv pre)/\True)/\Below w1 w2 W)
    (fun c (pre:List Nat) W=>False)
    (OwnFrom.and (Go.Own.from (holdsRow_own w1 w1 172 3 1 (fun pre:List Nat=>pre.length) (fun pre:List Nat=>fv pre) (fun(pre:List Nat) v=>True)) _) (ownFrom_below _a _a))
    (fun c=>ownFrom_pure _ (fun pre:List Nat=>False))
    ⟨⟨_,o8,Nf _ _ _ _,trivial⟩,Below.refl _ w2⟩
    (fun x=>{tmps:=#[.pointer (some ⟨b,0,none⟩),v,.string (bs s),undef,undef,undef,.int .i64 0,.int .i64 0,.pointer (some ⟨w1.heap.size,0,none⟩),.int .i64 ((x:Nat):Int),undef,undef,undef,.pointer (some ⟨b,0,none⟩),v,.string (bs s),.int .i64 (s.length:Int),.int .i64 0,.int .i64 0,.bool false,undef,v,.func (.func 179) #[] #[.pointer (some ⟨B1,0,none⟩),.pointer (some ⟨B2,0,none⟩)],.int .i64 ((x:Nat):Int),undef,undef,undef,undef,undef,undef,undef,undef,undef,undef,undef,undef,undef,undef,undef,undef,undef,undef,undef,undef,undef,undef,undef,undef,undef,undef,undef,undef,undef],defers:=[]}) ?assign ?body ?done ?stop
   case assign=>
    intro l x W K hK
    gi_wp2
    exact hK
   case body=>
    rintro lp pre x W ⟨⟨u,hv,NU,-⟩,hB⟩ NV
    have hc:=hv.cell
    have aeX:=hB.size
    obtain⟨pu,cu,rfl⟩:=ah NU
    gi_wp2_with (gi_at_builtin;refine wpListIn_append_own _ rfl _ _ 172 rfl w1 3 i0 (0:Int) 1 8 underlying172 q0 q1 q2 q3 rfl _d _ _ _ rfl (NU.alloc _) W 1 1 [.int .i64 ((x:Nat):Int)] rfl rfl (cell_one_new _ _ _) (by simp[Value.oneCell']) _m _a _e ?_;intro v' w2 Rj Pi _;obtain⟨g',cap',rfl⟩:=ownsRow_succ Rj;have⟨Ve,hv2,Th,PY,Q3⟩:=hv.appended _d NU _a (MG _) Rj Pi;have RU:=Ve.cell;have hf1:=Ve.frozen)
    exact⟨PY.from _,Be hv _d NU _d Pi (Q3.mono (show w.heap.size<=w1.heap.size by omega)),⟨_,hv2,by simpa[fv]using Th,trivial⟩,hB.trans Q3⟩
   case done=>
    rintro D xs W hD rfl ⟨⟨u,hv,NU,-⟩,hB⟩ hK
    have kW:=nL Wb hB _a
    rw[ZD]at NU
    have hP0:et Inv lim w (NY l) (gN (NY l) d s) 0 d s w1 D w1 u W:=⟨hHI W kW,hv,NU,hK,kW.j9 lim,_a,_a,_a,Nb _,rfl,_a,_a,hs⟩
    have HP0:=tK hP0
    clear hP0 hv NU hK
    go_wp2_with fail
    go_step3
    rename_i hcont
    refine hcont _ _ (Y3 _ _ ⟨0,d,s,w1.heap.size,D,w1.heap.size,u,bs s,0,rfl,rfl,xh ..,HP0.out⟩)
   case stop=>
    rintro D c pre W hD Xu h hK
    exact h.elim
 .have ZM:OQ d l s=(d,N7 d l s.length):=by
   unfold OQ N7 at*
   by_cases hf:dO l d.stand.length s.length
   .rw[if_pos hf]at hG ⊢
    by_cases hd:d.down=true
    .rw[if_pos hd,if_pos hf,if_pos hd]
    .rw[if_neg hd]at hG;exact absurd rfl hG
   .rw[if_neg hf,if_neg hf]
  have Qd:Hid (∀W,NP [] w W->mW Inv lim d l s w (.returned (N7 d l s.length:Int)) W):=tK (fun W q=>nw ZM (O.ops.keep hI q) (q.j9 lim))
  clear ZM HE
  generalize N7 d l s.length=G at*
  have e1:(G != 0)=true:=by simp[hG]
  go_enter func49,ntmps49
  go_wp2_with fail
  go_step3
  go_wp2_with fail
  refine HC.mono ?_;rintro e w1 ⟨rfl,k1⟩
  have HE:=tK (Qd.out _ k1)
  clear Qd
  go_wp2_with fail
  rw[Exit.noGoto_ret]
  go_ret
  exact HE.out
end
section
open Go.Proofs.Tryz Go.RowKit
theorem wz (l:List (Int×Int)) (k:Nat) (h:k<l.length) (j:Nat) (hj:j<=l[k].2.toNat):(NY (l.take k)).length+j<=(NY l).length:=by
 have e:(NY l).length=(NY (l.take (k+1))).length+(NY (l.drop (k+1))).length:=by
  rw[<-tN,<-lq,List.take_append_drop]
 rw[e,kz l k h,tN,MP,List.length_range]
 omega
theorem Le (v:Value) (l:List (Int×Int)) (lo hi:Nat) (w:World) (h:af w v l lo hi) (hl:l.length<=1000000) (Pj:∀a∈l,aQ a):
  am! 218 #[v] w fun e w'=>∃u,e=.returned u/\w'.ownsRow w 3 1 u (eM l).length (fv (eM l))/\NP [] w w':=by
 have HM:∀W,NP [] w W->am! 262 #[v,(0:Int),(8192:Int)] W (ik 0 8192 l W):=fun W k=>IW v l 0 8192 lo hi W (h.kept0 k) hl Pj _a _a _a _a
 have HW:=tK h
 have⟨i0,q0,q1,q2,q3⟩:=zG
 obtain⟨p,c,rfl⟩:=h.shape
 clear h Pj
 go_enter func218,ntmps218
 go_wp2_with fail
 refine(HM _ (NP.refl _ _)).mono ?_;rintro e w1 ⟨r,rfl,hr,k1⟩
 have HR:=tK hr
 clear hr HM
 cases r with
 |false=>
  have e0:eM l=[]:=Eo (fun h=>by have:=HR.out.2 h;cases this)
  have E0:=tK e0
  clear e0
  go_wp2_with fail
  go_ret
  exact⟨_,rfl,by rw[E0.out];exact Nf _ _ _ _,k1⟩
 |true=>
  have hm:dv 0 8192 l:=HR.out.1 rfl
  have e0:eM l=NY l:=uC hm
  have⟨E0,TE⟩:=_f e0 hm
  clear e0 hm HR
  go_wp2_with fail
  go_loopw [4,3] (fun i u wx=>∃k:Nat,k<=l.length/\i=(k:Int)/\wx.ownsRow w 3 1 u (NY (l.take k)).length (fv (NY (l.take k)))/\NP [] w wx) (fun i _ _=>l.length-(intOf i).toNat)
  case atStart=>exact⟨0,_a,rfl,Nf _ _ _ _,k1⟩
  case round=>
   obtain⟨k,hk,rfl,NU,hK⟩:=hrel
   by_cases NV:k<l.length
   .have PF:=kz l k NV
    have hle:=wz l k NV
    have WG:=wB TE.out
    have Pf:=TE.out.1 _ (MJ NV)
    have Rm:∀W,NP [] w W->∃b off,p=some ⟨b,off,none⟩/\W.cell? ⟨b,off+k*2,none⟩=some (.int .i64 l[k].1)/\W.cell? ⟨b,off+k*2+1,none⟩=some (.int .i64 l[k].2)/\b<W.heap.size/\l.length<=c/\c<=maxLen:=fun W kW=>(HW.out.kept0 kW).at_ k NV
    unfold gQ at Pf
    generalize l[k]=r at*
    have⟨ra,rn⟩:=r
    have⟨o1,o2,o3,o4⟩:=Pf
    simp only at o1 o2 o3 o4 PF hle Rm
    obtain⟨a,rfl⟩:=MM o1
    obtain⟨m,rfl⟩:=MM (show 0<=rn by omega)
    simp only[Nw]at PF hle
    have i1:(k:Int)<l.length:=_a
    have UB:wrap64 ((k:Int)+1)=(k:Int)+1:=IntWalk.wrap64_in _ _a
    have HWK:=tK UB
    clear UB
    have⟨Sm,HLE,HL8,Of,HAT⟩:=gi! PF hle WG NV Rm
    have HO:=tK (And.intro o2 o4)
    obtain⟨b,off,rfl,_,_,hb,hlc,PT⟩:=Rm _ hK
    clear PF hle WG NV Rm o1 o2 o3 o4 hk hb hlc PT
    go_wp2_with fail
    go_loopw [5,3] (fun j u wx=>∃q:Nat,q<=m/\j=(q:Int)/\wx.ownsRow w 3 1 u ((NY (l.take k)).length+q) (fv (NY (l.take k))++fv ((List.range q).map fun i=>a+i))/\NP [] w wx) (fun j _ _=>m-(intOf j).toNat)
    case atStart=>exact⟨0,Nb _,rfl,by simpa[fv]using NU,hK⟩
    case round=>
     clear NU hK
     obtain⟨q,hq,rfl,NU,hK⟩:=hrel
     have⟨b',off',e',c0,c1,hb,hlc,PT⟩:=HAT.out _ hK
     obtain⟨rfl,rfl⟩:b=b'/\off=off':=by simpa using e'
     by_cases hqm:q<m
     .obtain⟨pu,cu,rfl⟩:=ah NU
      have aeb:=HLE.out (q+1) _a
      have WG:=HL8.out
      have i2:(q:Int)<m:=_a
      have HWJ:Hid (wrap64 ((q:Int)+1)=(q:Int)+1):=tK (IntWalk.wrap64_in _ O!)
      have HWA:Hid (wrap64 ((a:Int)+(q:Int))=(a:Int)+(q:Int)):=tK (IntWalk.wrap64_in _ O!)
      have HQM:=tK hqm
      clear i2 hqm
      have r3:(NY (l.take k)).length+q+1<=maxLen:=_m
      have r4:((NY (l.take k)).length+q+1)*8<=140737488355328:=_a
      have i2:(q:Int)<m:=by have:=HQM.out;omega
      have QG:=hK.size
      clear hq aeb WG
      have⟨ZJ,Z0⟩:=_f r3 r4
      clear r3 r4
      have hw:=HWA.out
      go_wp2_with (at_builtin;go_must (refine MT _ rfl (.tmp 25) (.tmp 33) 172 rfl w 3 i0 (0:Int) 1 8 underlying172 q0 q1 q2 q3 rfl _d _ _ _ rfl (MH NU _) wr 1 1 [.int .i64 ((a:Int)+(q:Int))] rfl rfl ?_ ?_ ZJ.out Z0.out ?_ ?_))
      .rfl
      .clear hw;first|omega|(simp;omega)
      intro v6 w6 o6 Po _ _
      have k6:NP [] w w6:=(hK.alloc _).grown Po (fun g hg=>Or.inr (ML NU g hg).1)
      have Vn:=tK o6
      clear Po NU o6 hw
      go_wp2_with fail
      go_roundw
      case rel=>exact⟨q+1,HQM.out,by simp,by simpa[fv,List.range_succ,<-Nat.add_assoc]using Vn.out,k6⟩
      case measure=>(have hh:=HQM.out;(try simp only[HWJ.out]);simp[intOf];omega)
     .obtain rfl:q=m:=_a
      have HRW:=tK NU
      clear NU
      go_wp2_with fail
      go_roundw
      case rel=>exact⟨k+1,Of.out,by simp,by rw[Sm.out];simpa[fv]using HRW.out,hK⟩
      case measure=>(have hh:=Of.out;simp[intOf];(try rw[HWK.out]);omega)
   .obtain rfl:k=l.length:=_a
    rw[MU]at NU
    go_wp2_with fail
    go_ret
    exact⟨_,rfl,by rw[E0.out];exact NU,hK⟩
theorem JT {W w1:World} (h:NP [] W w1):∀b o,b<W.heap.size->w1.cell? ⟨b,o,none⟩=W.cell? ⟨b,o,none⟩:=fun b o hb=>h.cell (a:=⟨b,o,none⟩) hb _b
theorem Gb (c:UInt8) (B:Nat) (W:World) (h:W.cell? B=some (.int .u8 (c.toNat:Int))):(convert 61 9 (.slice (some B) 1 1)).run prog W=.ok (.string (bs [c])) W:=by
 have hb:Lib.Bytes W B 0 (bs [c]):=by
  intro i hi
  rw[NQ]at hi
  have:i=0:=by simp at hi;exact hi
  subst this
  rw[Nat.zero_add,h];rfl
 have:=Lib.run_convert_whole (P:=prog) W 61 5 9 underlying61 underlying5 underlying9 B 0 (bs [c]) hb 1
 rw[NQ]at this
 exact this
theorem ry (k:Nat):∀(n:Nat) (w:World),n<18446744073709551616->k<=8->
  am! 214 #[.int .u64 n,(k:Int)] w fun e w'=>e=.returned (.string (bs (NT n k)))/\NP [] w w':=by
 induction k with
 |zero=>
  intro n w hn hk
  go_enter func214,ntmps214
  go_wp2_with fail
  go_ret
  exact⟨rfl,NP.refl _ _⟩
 |succ k ih=>
  intro n w hn hk
  have H:=fun w=>ih (n/256) w _a _a
  have hc0:((UInt8.ofNat n).toNat:Int)=(n:Int)%256:=by rw[UInt8.toNat_ofNat'];rfl
  have e1:IntKind.u8.wrap ((n:Int).tmod 256)=((UInt8.ofNat n).toNat:Int):=by
   rw[hc0,Int.tmod_eq_emod_of_nonneg _a,IntKind.wrap_u8];omega
  have e2:IntKind.u64.wrap ((n:Int)/256)=((n/256:Nat):Int):=by rw[IntKind.wrap_u64];omega
  have e3:IntKind.i64.wrap (k:Int)=(k:Int):=IntWalk.i64_in _ _a
  have Tk:=fun(B:Nat) (W:World) (h:W.cell? B=some (.int .u8 ((UInt8.ofNat n).toNat:Int)))=>Gb (UInt8.ofNat n) B W h
  have hz:(bs (NT (n/256) k)).size<=8:=_X
  have Qc:(bs [UInt8.ofNat n]).size<=1:=by rw[NQ];simp
  have Qx:¬((bs [UInt8.ofNat n]).size+(bs (NT (n/256) k)).size>9223372036854775807):=_a
  have Oy:Hid (bs [UInt8.ofNat n]++bs (NT (n/256) k)=bs (NT n (k+1))):=by
   show bs [UInt8.ofNat n]++bs (NT (n/256) k)=_
   rw[aw];rfl
  clear hc0
  generalize bs [UInt8.ofNat n]=c0 at*
  generalize ((UInt8.ofNat n).toNat:Int)=c1 at*
  generalize NT n (k+1)=N at*
  generalize NT (n/256) k=M at*
  generalize n/256=m at*
  clear ih
  go_enter func214,ntmps214
  go_wp2_with fail
  go_region_with ((go_at_call 214;refine(H _).mono ?_;rintro e w1 ⟨rfl,OP⟩;have Zb:=JT OP))
  all_goals go_wp2_with fail
  all_goals go_ret
  all_goals refine⟨by show Ending.returned (Value.string (c0++bs M))=_;rw[Oy.out],?_⟩
  all_goals first|exact(((NP.refl _ _).alloc _).drew).trans OP|exact((NP.refl _ _).drew.trans OP).alloc _
theorem GA (s:ByteArray) (w:World) (hs:s.size<4294967296):
  am! 264 #[.string s] w fun e w'=>e=.returned (.string (bs (dj s.data.toList)))/\NP [] w w':=by
 have h:∀w,am! 214 #[.int .u64 s.size,(4:Int)] w fun e w'=>e=.returned (.string (bs (NT s.size 4)))/\NP [] w w':=fun w=>ry 4 s.size w _a _a
 have hz:(bs (NT s.size 4)).size<=4:=_X
 have Oy:=tK (tr (NT s.size 4) s)
 go_enter func264,ntmps264
 go_wp2_with fail
 refine(h _).mono ?_;rintro e w1 ⟨rfl,hk⟩
 go_wp2_with fail
 go_ret
 refine⟨?_,hk⟩
 show Ending.returned (Value.string (bs (NT s.size 4)++s))=_
 rw[Oy.out,dj,iT]
theorem KT (s:ByteArray) (n:Int) (w:World) (hs:s.size<=1000000) (hn:n<=1000000):
  am! 261 #[.string s,n] w fun e w'=>e=.returned (.string (bs (Pg s.data.toList n)))/\NP [] w w':=by
 by_cases hle:n<=s.size
 .have e:Pg s.data.toList n=s.data.toList:=by
   unfold Pg;rw[iT,show(n-(s.size:Int)).toNat=0 from by omega];simp
  rw[e,nW]
  clear e
  go_enter func261,ntmps261
  go_wp2_with fail
  go_ret
  exact⟨rfl,NP.refl _ _⟩
 .obtain⟨d,hd⟩:∃d:Nat,n-(s.size:Int)=d:=⟨(n-s.size).toNat,_a⟩
  have e:Pg s.data.toList n=s.data.toList++List.replicate d 0:=by
   unfold Pg;rw[iT,show(n-(s.size:Int)).toNat=d from by omega]
  have hi:(prog.info? 5).map (fun i=>(i.zero,i.size,i.bytes))=some (some (.int .u8 0),1,1):=_c
  have⟨i0,hi0,Rh,Qc,Qx⟩:=info_parts hi
  have RO:∀w:World,(Instr.makeSlice 61 (d:Int) (d:Int)).run prog w=.ok (w.heap.size,d,d) (w.alloc (.cells (fk (List.replicate d 0)) 5)):=fun w=>by
   have h:=run_make (P:=prog) w 61 5 i0 (.int .u8 0) underlying61 hi0 Rh .i64 .i64 d d _a _a (by rw[Qx];omega) _a
   rw[h,Qc]
   congr 3
   apply Array.toList_inj.1
   simp[fk,Value.cells,toList_madeCells_one]
  have Tk:=Lib.run_convert_whole (P:=prog) _ 61 5 9 underlying61 underlying5 underlying9 _ _ _ (uS (ae.new w (fk (List.replicate d 0)) 5)) d
  rw[NQ,Np]at Tk
  have hz:(bs (List.replicate d 0)).size<=1000000:=by rw[NQ];simp;omega
  have Oy:Hid (s++bs (List.replicate d 0)=bs (s.data.toList++List.replicate d 0)):=by
   show s++bs (List.replicate d 0)=_
   rw[<-aw,nW]
  rw[e]
  have NV:(s.size:Int)<n:=_a
  generalize List.replicate d (0:UInt8)=R at*
  clear e hle
  go_enter func261,ntmps261
  go_wp2_with fail
  go_ret
  exact⟨by show Ending.returned (Value.string (s++bs R))=_;rw[Oy.out],(NP.refl _ _).alloc _⟩
end
open Go.Proofs.Tryz Go.RowKit Go.Shelf
theorem Jl {w:World} {base:Nat} {rv:Value} {al:List Nat} (h:w.ownsRow base 3 1 rv al.length (fv al)) {k:Nat} (hk:k<al.length):
  ∃g c,rv=.slice (some ⟨g,0,none⟩) al.length c/\w.cell? ⟨g,k,none⟩=some (.int .i64 ((al[k]:Nat):Int))/\g<w.heap.size/\base<=g/\al.length<=c/\c<=maxLen:=by
 rcases h.2 with⟨_,h0⟩|⟨g,c,cur,rfl,h1,h2,h3,h4,_⟩
 .omega
 .refine⟨g,c,rfl,?_,NK h2,h1,h3,h4⟩
  have:=h.cells (g:=g) rfl k ((al[k]:Nat):Int) (by simp[fv,hk])
  rwa[nY]at this

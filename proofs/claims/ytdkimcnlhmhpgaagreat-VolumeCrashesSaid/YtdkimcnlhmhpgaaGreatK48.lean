/- -/
import Derived.Test.YtdkimcnlhmhpgaaGreatK45
import Derived.Test.YtdkimcnlhmhpgaaGreatK47
set_option maxHeartbeats 16000000
set_option maxRecDepth 100000
namespace Go.Proofs.YtdkimcnlhmhpgaaGreat
open Go.RowKit
theorem wV {T:List Nat} {w:World} {B b sb mb lo:Nat} {v:VS} (h:ay T w B b sb mb lo v) (c:Int):Calls Tryz.prog 51 #[.pointer (some ⟨B,0,none⟩),.int .i64 c] w fun e w'=>e=.returned (.int .i64 c)/\ay T w' B b sb mb lo (Oy (v,c)).1/\aa [B] w w':=by
 exact M21
theorem KO {T:List Nat} {w0 W:World} {B b sb mb lo gv gr:Nat} {v:VS} {l:List VC} {recs:List ag} {qs:List SQ} (h:dM T w0 W B b sb mb lo gv gr v l recs qs) (c:aj) (cb cm cn:Value) (s:List UInt8) (gv2 gt gc:Nat) (rv:Value)
  (Nt:W.ownsRow w0.heap.size 42 1 rv (qs.length+2) ((qs.map (mZ gv gr)).map we++[.func (.func 39) #[.pointer (some ⟨b,0,none⟩)] #[],.func (.func 107) #[] #[.pointer (some ⟨gv2,0,none⟩),.pointer (some ⟨gt,0,none⟩),.pointer (some ⟨gc,0,none⟩)]]))
  (Yt:w0.heap.size<=gv2) (ht:w0.heap.size<=gt) (hc:w0.heap.size<=gc) (ov:ae W gv2 #[.pointer (some ⟨B,0,none⟩)] 27) (ot:ae W gt #[.string (bs s)] 9) (oc:ae W gc #[.int .u32 c.nextBox,.int .u32 c.nextMan,cb,cm,cn] 52)
  (N5:cO T W b sb mb (.agg #[.int .u32 c.nextBox,.int .u32 c.nextMan,cb,cm,cn]) c) (hm:v.s.may) (hq:v.s.seq<=1000000) (hs:s.length<=4000) (ho:v.d.ops<=35000) (hw:v.d.waits.length<=700) (hn:v.d.stand.length<=100) (Rx:1<=v.d.stand.length) (Sp:l.length<=8):
  Calls Tryz.prog 37 #[rv] W fun e w'=>e=.returned (.int .i64 (NK (bX l recs++[aK Ni,Nz c s]) v).2)/\ay T w' B b sb mb lo (NK (bX l recs++[aK Ni,Nz c s]) v).1/\PK [B] b sb mb W w':=by
 refine GP h [Ni] (Nz c s) [(39,#[.pointer (some ⟨b,0,none⟩)],#[]),(107,#[],#[.pointer (some ⟨gv2,0,none⟩),.pointer (some ⟨gt,0,none⟩),.pointer (some ⟨gc,0,none⟩)])] rfl (by simp) (fun u hu=>?_) rv (by rw[Ms];exact Nt) (fun f hf e he=>?_) ho hw hn Sp (fun j hj W' D hV k hF=>?_)
 .simp only[List.mem_cons,List.not_mem_nil,or_false]at hu
  rcases hu with rfl|rfl
  .exact enters_of Tryz.func39 (by kernel_rfl) rfl
  .exact enters_of Tryz.func107 (by kernel_rfl) rfl
 .obtain rfl:=MB.1 hf
  exact(jR e).mono Rx
 .have hFo:=hF.ops
  have hFw:=hF.waits
  match j,hj with
  |0,_=>
   have:=pF (T:=[]) hV.da (by show D.ops<_;omega) (by show D.waits.length<=_;omega)
   exact this.mono fun e w' ⟨a1,a2,a3⟩=>⟨a1,hV.pk a3 a2 (fun x hx=>by cases hx) (by simp),a3.mono (by simp)⟩
  |1,_=>
   have:=EK gv2 gt gc c cb cm cn s hV (fun W'' k2=>by
    have kk:=k.trans k2
    obtain⟨d0,d1,d2,d3,d4⟩:=(kk.own oc (h.off hc)).k5
    exact⟨(kk.own ov (h.off Yt)).cell 0 (by simp),(kk.own ot (h.off ht)).cell 0 (by simp),d0,d1,d2,d3,d4⟩) (N5.pk (k.GR h.vol.hB)) hm hq hs (by show D.ops<=_;omega) (by show D.waits.length<=_;omega)
   exact this
theorem KN {T:List Nat} {w0 W:World} {B b sb mb lo gv gr:Nat} {v:VS} {l:List VC} {recs:List ag} {qs:List SQ} (h:dM T w0 W B b sb mb lo gv gr v l recs qs) (c:aj) (cb cm cn:Value) (s:List UInt8) (R:List (Int×Int)) (ru:Value) (gv2 gt gr2 gc:Nat) (rv:Value)
  (Nt:W.ownsRow w0.heap.size 42 1 rv (qs.length+1) ((qs.map (mZ gv gr)).map we++[.func (.func 113) #[] #[.pointer (some ⟨gv2,0,none⟩),.pointer (some ⟨gt,0,none⟩),.pointer (some ⟨gr2,0,none⟩),.pointer (some ⟨gc,0,none⟩)]]))
  (Yt:w0.heap.size<=gv2) (ht:w0.heap.size<=gt) (QU:w0.heap.size<=gr2) (hc:w0.heap.size<=gc) (ov:ae W gv2 #[.pointer (some ⟨B,0,none⟩)] 27) (ot:ae W gt #[.string (bs s)] 9) (or2:ae W gr2 #[ru] 56) (oc:ae W gc #[.int .u32 c.nextBox,.int .u32 c.nextMan,cb,cm,cn] 52)
  (N5:cO T W b sb mb (.agg #[.int .u32 c.nextBox,.int .u32 c.nextMan,cb,cm,cn]) c) (NT:b8 T W b sb mb ru R) (Oj:Pl 0 R) (hmb:(bZ v.s s.length R).may) (hm:v.s.may) (hq:v.s.seq<=1000000) (hs:s.length<=1048576) (ho:v.d.ops<=35000) (hw:v.d.waits.length<=700) (hn:v.d.stand.length<=100) (Sp:l.length<=8):
  Calls Tryz.prog 37 #[rv] W fun e w'=>e=.returned (.int .i64 (NK (bX l recs++[NO c s R]) v).2)/\ay T w' B b sb mb lo (NK (bX l recs++[NO c s R]) v).1/\PK [B] b sb mb W w':=by
 refine GP h [] (NO c s R) [(113,#[],#[.pointer (some ⟨gv2,0,none⟩),.pointer (some ⟨gt,0,none⟩),.pointer (some ⟨gr2,0,none⟩),.pointer (some ⟨gc,0,none⟩)])] rfl (by simp) (fun u hu=>?_) rv (by rw[Ms];exact Nt) (fun f hf e he=>by cases hf) ho hw hn Sp (fun j hj W' D hV k hF=>?_)
 .obtain rfl:=MB.1 hu
  exact enters_of Tryz.func113 (by kernel_rfl) rfl
 .have hFo:=hF.ops
  have hFw:=hF.waits
  have hFl:=hF.len
  match j,hj with
  |0,_=>
   have:=wX gv2 gt gr2 gc c cb cm cn s ru R hV (fun W'' k2=>by
    have kk:=k.trans k2
    obtain⟨d0,d1,d2,d3,d4⟩:=(kk.own oc (h.off hc)).k5
    exact⟨(kk.own ov (h.off Yt)).cell 0 (by simp),(kk.own ot (h.off ht)).cell 0 (by simp),(kk.own or2 (h.off QU)).cell 0 (by simp),d0,d1,d2,d3,d4⟩) (N5.pk (k.GR h.vol.hB)) (NT.pk (k.GR h.vol.hB)) Oj hmb hm hq hs (by show D.ops<=_;omega) (by show D.waits.length<=_;omega) (by show D.stand.length<=_;omega)
   exact this
end Go.Proofs.YtdkimcnlhmhpgaaGreat

/- -/
import Derived.Test.YtdkimcnlhmhpgaaGreatK36
set_option maxHeartbeats 16000000
set_option maxRecDepth 100000
set_option linter.unusedVariables false
namespace Go.Proofs.YtdkimcnlhmhpgaaGreat
open Go.RowKit
theorem CR {T:List Nat} (gv gr gt:Nat) (rv:Value) (R:List (Int×Int)) (s:List UInt8) {w:World} {B b sb mb lo OD On:Nat} {v:VS} (hV:ay T w B b sb mb lo v)
  (hc:∀W,PK [] b sb mb w W->W.cell? ⟨gv,0,none⟩=some (.pointer (some ⟨B,0,none⟩))/\W.cell? ⟨gr,0,none⟩=some rv/\W.cell? ⟨gt,0,none⟩=some (.string (bs s)))
  (hR:af w rv R OD On) (hl:R.length<=1000000) (Ox:∀a∈R,aU a) (hs:s.length<=1048576) (ho:v.d.ops<=90000) (hw:v.d.waits.length<=1800):
  Calls Tryz.prog 114 #[.pointer (some ⟨gv,0,none⟩),.pointer (some ⟨gr,0,none⟩),.pointer (some ⟨gt,0,none⟩)] w fun e w'=>e=.returned (.int .i64 (aK (fun d=>NF d R s) v).2)/\ay T w' B b sb mb lo (aK (fun d=>NF d R s) v).1/\PK [] b sb mb w w':=by
 have HP:Hid (∀W,aa [] w W->Calls Tryz.prog 49 #[.pointer (some ⟨b,0,none⟩),rv,.string (bs s)] W fun e w'=>e=.returned (.int .i64 (NF v.d R s).2)/\DA w' b sb mb lo (NF v.d R s).1/\PK [] b sb mb W w'):=Mb (fun W k=>He rv R s OD On (hV.da.aJ k) (hR.kept0 k) hl Ox hs ho hw)
 have HS:Hid (∀W,PK [] b sb mb w W->W.cell? ⟨gv,0,none⟩=some (.pointer (some ⟨B,0,none⟩))/\W.cell? ⟨B,0,none⟩=some (.pointer (some ⟨b,0,none⟩))/\W.cell? ⟨gr,0,none⟩=some rv/\W.cell? ⟨gt,0,none⟩=some (.string (bs s))):=Mb (fun W k=>by
  obtain⟨c1,c2,c3⟩:=hc W k
  obtain⟨sv,vb,vm,vn,o,_,_⟩:=hV.vol
  exact⟨c1,(k.own o ⟨by simp,hV.off.2⟩).cell 0 (by simp[bf]),c2,c3⟩)
 have HV:Hid (∀W,PK [] b sb mb w W->DA W b sb mb lo (NF v.d R s).1->ay T W B b sb mb lo (aK (fun d=>NF d R s) v).1):=Mb (fun W k hD=>hV.pk k hD (fun x hx=>by cases hx) (by simp))
 have HB:=Mb hV.aQ
 obtain⟨x0,x1,x2,x3⟩:=HS.out w (PK.refl _ _ _ _ _)
 obtain⟨p1,c1,rfl⟩:=hR.shape
 clear hV hc hR hl Ox hs ho hw
 simp only[aK]at HV ⊢
 generalize NF v.d R s=F at*
 go_enter Tryz.func114,Tryz.ntmps114
 go_upto_region 1 with fail
 refine Ml (S:=(fun W=>W.cell? ⟨gv,0,none⟩=some (.pointer (some ⟨B,0,none⟩))/\W.cell? ⟨B,0,none⟩=some (.pointer (some ⟨b,0,none⟩))/\W.cell? ⟨gr,0,none⟩=some (.slice p1 R.length c1)/\W.cell? ⟨gt,0,none⟩=some (.string (bs s)))) (by kernel_rfl) (by exact HS.out _ ((aa.refl [] w).drew.bM HB.out)) (fun hHeld=>?_)
 refine tk 0 4 ?_
 refine tk 1 5 ?_
 refine tk 2 6 ?_
 refine tk 3 7 ?_
 refine tk 4 8 ?_
 refine tk 5 9 ?_
 refine rd 6 (fun K hK=>?_)
 go_simp
 ((with_reducible refine(HP.out _ ((aa.refl [] w).drew)).mono ?_));rintro e w2 ⟨rfl,hD2,k2⟩
 have kk:=((aa.refl [] w).drew.bM (T:=[]) (sb:=sb) (mb:=mb) HB.out).trans k2
 have KK:=Mb kk
 have Vh:=Mb hD2
 clear hD2 kk k2
 go_wp2_with fail
 refine hK.out _ _ ?_ (fun hHeld=>nm ?_)
 .exact HS.out _ KK.out
 clear hK K
 refine tk 7 3 ?_
 refine MM (by kernel_rfl) ?_ _
 try simp only[List.set_cons_succ,List.set_cons_zero]
 go_wp2_with fail
 go_ret
 exact⟨rfl,HV.out _ KK.out Vh.out,KK.out⟩
theorem EH {T:List Nat} (gv gr gi gx rb ro rn rc i:Nat) (rv:Value) (R:List (Int×Int)) (s:List UInt8) {w:World} {B b sb mb lo OD On:Nat} {v:VS} (hV:ay T w B b sb mb lo v)
  (hc:∀W,PK [] b sb mb w W->W.cell? ⟨gv,0,none⟩=some (.pointer (some ⟨B,0,none⟩))/\W.cell? ⟨gr,0,none⟩=some (.slice (some ⟨rb,ro,none⟩) rn rc)/\W.cell? ⟨gi,0,none⟩=some (.int .i64 i)/\W.cell? ⟨rb,ro+i*5+4,none⟩=some rv/\W.cell? ⟨gx,3,none⟩=some (.string (bs s))) (hi:i<rn) (ZN:rn<=1000000)
  (hR:af w rv R OD On) (hl:R.length<=1000000) (Ox:∀a∈R,aU a) (hs:s.length<=1048576) (ho:v.d.ops<=90000) (hw:v.d.waits.length<=1800):
  Calls Tryz.prog 48 #[.pointer (some ⟨gv,0,none⟩),.pointer (some ⟨gr,0,none⟩),.pointer (some ⟨gi,0,none⟩),.pointer (some ⟨gx,0,none⟩)] w fun e w'=>e=.returned (.int .i64 (aK (fun d=>NF d R s) v).2)/\ay T w' B b sb mb lo (aK (fun d=>NF d R s) v).1/\PK [] b sb mb w w':=by
 have HP:Hid (∀W,aa [] w W->Calls Tryz.prog 49 #[.pointer (some ⟨b,0,none⟩),rv,.string (bs s)] W fun e w'=>e=.returned (.int .i64 (NF v.d R s).2)/\DA w' b sb mb lo (NF v.d R s).1/\PK [] b sb mb W w'):=Mb (fun W k=>He rv R s OD On (hV.da.aJ k) (hR.kept0 k) hl Ox hs ho hw)
 have HS:Hid (∀W,PK [] b sb mb w W->W.cell? ⟨gv,0,none⟩=some (.pointer (some ⟨B,0,none⟩))/\W.cell? ⟨B,0,none⟩=some (.pointer (some ⟨b,0,none⟩))/\W.cell? ⟨gr,0,none⟩=some (.slice (some ⟨rb,ro,none⟩) rn rc)/\W.cell? ⟨gi,0,none⟩=some (.int .i64 i)/\W.cell? ⟨rb,ro+i*5+4,none⟩=some rv/\W.cell? ⟨gx,3,none⟩=some (.string (bs s))):=Mb (fun W k=>by
  obtain⟨c1,c2,c3,c4,c5⟩:=hc W k
  obtain⟨sv,vb,vm,vn,o,_,_⟩:=hV.vol
  exact⟨c1,(k.own o ⟨by simp,hV.off.2⟩).cell 0 (by simp[bf]),c2,c3,c4,c5⟩)
 have HV:Hid (∀W,PK [] b sb mb w W->DA W b sb mb lo (NF v.d R s).1->ay T W B b sb mb lo (aK (fun d=>NF d R s) v).1):=Mb (fun W k hD=>hV.pk k hD (fun x hx=>by cases hx) (by simp))
 have HB:=Mb hV.aQ
 obtain⟨x0,x1,x2,x3,x4,x5⟩:=HS.out w (PK.refl _ _ _ _ _)
 obtain⟨p1,c1,rfl⟩:=hR.shape
 have i1:(i:Int)<rn:=by omega
 clear hV hc hR hl Ox hs ho hw
 simp only[aK]at HV ⊢
 generalize NF v.d R s=F at*
 go_enter Tryz.func48,Tryz.ntmps48
 go_upto_region 1 with fail
 refine Ml (S:=(fun W=>W.cell? ⟨gv,0,none⟩=some (.pointer (some ⟨B,0,none⟩))/\W.cell? ⟨B,0,none⟩=some (.pointer (some ⟨b,0,none⟩))/\W.cell? ⟨gr,0,none⟩=some (.slice (some ⟨rb,ro,none⟩) rn rc)/\W.cell? ⟨gi,0,none⟩=some (.int .i64 i)/\W.cell? ⟨rb,ro+i*5+4,none⟩=some (.slice p1 R.length c1)/\W.cell? ⟨gx,3,none⟩=some (.string (bs s)))) (by kernel_rfl) (by exact HS.out _ ((aa.refl [] w).drew.bM HB.out)) (fun hHeld=>?_)
 refine tk 0 5 ?_
 refine tk 1 6 ?_
 refine tk 2 7 ?_
 refine tk 3 8 ?_
 refine tk 4 9 ?_
 refine tk 5 10 ?_
 refine tk 6 11 ?_
 refine tk 7 12 ?_
 refine tk 8 13 ?_
 refine tk 9 14 ?_
 refine tk 10 15 ?_
 refine rd 11 (fun K hK=>?_)
 go_simp
 ((with_reducible refine(HP.out _ ((aa.refl [] w).drew)).mono ?_));rintro e w2 ⟨rfl,hD2,k2⟩
 have kk:=((aa.refl [] w).drew.bM (T:=[]) (sb:=sb) (mb:=mb) HB.out).trans k2
 have KK:=Mb kk
 have Vh:=Mb hD2
 clear hD2 kk k2
 go_wp2_with fail
 refine hK.out _ _ ?_ (fun hHeld=>nm ?_)
 .exact HS.out _ KK.out
 clear hK K
 refine tk 12 4 ?_
 refine MM (by kernel_rfl) ?_ _
 try simp only[List.set_cons_succ,List.set_cons_zero]
 go_wp2_with fail
 go_ret
 exact⟨rfl,HV.out _ KK.out Vh.out,KK.out⟩
end Go.Proofs.YtdkimcnlhmhpgaaGreat

/- -/
import Derived.Test.YtdkimcnlhmhpgaaGreatK13
set_option maxHeartbeats 16000000
set_option maxRecDepth 100000
namespace Go.Proofs.YtdkimcnlhmhpgaaGreat
open Go.RowKit
variable {A:Prop}
theorem zK (r:ag) (v:Value) (lo hi:Nat) (w:World) (h:af w v r.runs lo hi) (hl:r.runs.length<=1000000) (hf:r.fits) (hI:Qa r.kind=false) (hN:Ob r.kind=false) (hB:NH r.kind=false) (hnm:r.name.isEmpty=true):
  Calls Tryz.prog 98 #[.agg (r.cells v)] w (db (az r) w):=by
 obtain⟨k,id,name,size,runs⟩:=r
 obtain⟨f1,f2,f3,f4⟩:=hf
 simp only at h hl f1 f2 f3 f4 hI hN hB hnm
 obtain⟨p,c,rfl⟩:=h.shape
 unfold ag.cells az
 simp only
 have hh:=fun W=>fx k W
 obtain⟨Uu,id1⟩:=bP f2
 have hsb:=fA f4
 have O4:(bs name).size=name.length:=Nj name
 unfold maxLen at f3
 have k0:aa [] w (w.alloc (.cells #[.int .i64 k,.int .u32 id,.string (bs name),.int .i64 size,.slice p runs.length c] 102)):=(aa.refl _ _).alloc _
 have Oj:=fun W (kk:aa [] w W)=>dO _ runs size lo hi W (h.kept0 kk) hl f4
 unfold cZ at Oj
 have HH:=Mb hh
 have HP:=Mb Oj
 clear hh Oj h f1 f2 f4
 rw[hI,hN,hB]at HH ⊢
 clear hI hN hB
 generalize Pu:eX runs size=P at*
 have QW:=Mb Pu
 clear Pu
 rcases bN name with⟨nm1,nm2,nm3,nm4⟩|⟨nm1,nm2,nm3⟩
 rotate_left
 .rw[nm1]at hnm;cases hnm
 clear hnm
 subst nm1
 have hm:aA false false false id [] size runs=false:=by
  unfold aA
  try simp[]
 have HM:=Mb hm
 clear hm
 go_enter Tryz.func98,Tryz.ntmps98
 go_wp2_with fail
 refine(HH.out _).mono ?_;rintro e w' ⟨rfl,rfl⟩
 go_wp2_with fail
 go_ret
 exact aD HM.out k0
theorem zJ (r:ag) (v:Value) (lo hi:Nat) (w:World) (h:af w v r.runs lo hi) (hl:r.runs.length<=1000000) (hf:r.fits) (hI:Qa r.kind=false) (hN:Ob r.kind=false) (hB:NH r.kind=false) (hnm:r.name.isEmpty=false):
  Calls Tryz.prog 98 #[.agg (r.cells v)] w (db (az r) w):=by
 obtain⟨k,id,name,size,runs⟩:=r
 obtain⟨f1,f2,f3,f4⟩:=hf
 simp only at h hl f1 f2 f3 f4 hI hN hB hnm
 obtain⟨p,c,rfl⟩:=h.shape
 unfold ag.cells az
 simp only
 have hh:=fun W=>fx k W
 obtain⟨Uu,id1⟩:=bP f2
 have hsb:=fA f4
 have O4:(bs name).size=name.length:=Nj name
 unfold maxLen at f3
 have k0:aa [] w (w.alloc (.cells #[.int .i64 k,.int .u32 id,.string (bs name),.int .i64 size,.slice p runs.length c] 102)):=(aa.refl _ _).alloc _
 have Oj:=fun W (kk:aa [] w W)=>dO _ runs size lo hi W (h.kept0 kk) hl f4
 unfold cZ at Oj
 have HH:=Mb hh
 have HP:=Mb Oj
 clear hh Oj h f1 f2 f4
 rw[hI,hN,hB]at HH ⊢
 clear hI hN hB
 generalize Pu:eX runs size=P at*
 have QW:=Mb Pu
 clear Pu
 rcases bN name with⟨nm1,nm2,nm3,nm4⟩|⟨nm1,nm2,nm3⟩
 .rw[nm1]at hnm;cases hnm
 clear hnm
 have hm:aA false false false id name size runs=false:=by
  unfold aA
  try simp[]
 have HM:=Mb hm
 clear hm
 go_enter Tryz.func98,Tryz.ntmps98
 go_wp2_with fail
 refine(HH.out _).mono ?_;rintro e w' ⟨rfl,rfl⟩
 go_wp2_with fail
 go_ret
 exact aD HM.out k0
theorem zI (r:ag) (v:Value) (lo hi:Nat) (w:World) (h:af w v r.runs lo hi) (hl:r.runs.length<=1000000) (hf:r.fits) (hI:Qa r.kind=false) (hN:Ob r.kind=false) (hB:NH r.kind=true) (hnm:r.name.isEmpty=true):
  Calls Tryz.prog 98 #[.agg (r.cells v)] w (db (az r) w):=by
 obtain⟨k,id,name,size,runs⟩:=r
 obtain⟨f1,f2,f3,f4⟩:=hf
 simp only at h hl f1 f2 f3 f4 hI hN hB hnm
 obtain⟨p,c,rfl⟩:=h.shape
 unfold ag.cells az
 simp only
 have hh:=fun W=>fx k W
 obtain⟨Uu,id1⟩:=bP f2
 have hsb:=fA f4
 have O4:(bs name).size=name.length:=Nj name
 unfold maxLen at f3
 have k0:aa [] w (w.alloc (.cells #[.int .i64 k,.int .u32 id,.string (bs name),.int .i64 size,.slice p runs.length c] 102)):=(aa.refl _ _).alloc _
 have Oj:=fun W (kk:aa [] w W)=>dO _ runs size lo hi W (h.kept0 kk) hl f4
 unfold cZ at Oj
 have HH:=Mb hh
 have HP:=Mb Oj
 clear hh Oj h f1 f2 f4
 rw[hI,hN,hB]at HH ⊢
 clear hI hN hB
 generalize Pu:eX runs size=P at*
 have QW:=Mb Pu
 clear Pu
 rcases bN name with⟨nm1,nm2,nm3,nm4⟩|⟨nm1,nm2,nm3⟩
 rotate_left
 .rw[nm1]at hnm;cases hnm
 clear hnm
 subst nm1
 have hm:aA false false true id [] size runs=false:=by
  unfold aA
  try simp[]
 have HM:=Mb hm
 clear hm
 go_enter Tryz.func98,Tryz.ntmps98
 go_wp2_with fail
 refine(HH.out _).mono ?_;rintro e w' ⟨rfl,rfl⟩
 go_wp2_with fail
 go_ret
 exact aD HM.out k0
theorem zH (r:ag) (v:Value) (lo hi:Nat) (w:World) (h:af w v r.runs lo hi) (hl:r.runs.length<=1000000) (hf:r.fits) (hI:Qa r.kind=false) (hN:Ob r.kind=false) (hB:NH r.kind=true) (hnm:r.name.isEmpty=false):
  Calls Tryz.prog 98 #[.agg (r.cells v)] w (db (az r) w):=by
 obtain⟨k,id,name,size,runs⟩:=r
 obtain⟨f1,f2,f3,f4⟩:=hf
 simp only at h hl f1 f2 f3 f4 hI hN hB hnm
 obtain⟨p,c,rfl⟩:=h.shape
 unfold ag.cells az
 simp only
 have hh:=fun W=>fx k W
 obtain⟨Uu,id1⟩:=bP f2
 have hsb:=fA f4
 have O4:(bs name).size=name.length:=Nj name
 unfold maxLen at f3
 have k0:aa [] w (w.alloc (.cells #[.int .i64 k,.int .u32 id,.string (bs name),.int .i64 size,.slice p runs.length c] 102)):=(aa.refl _ _).alloc _
 have Oj:=fun W (kk:aa [] w W)=>dO _ runs size lo hi W (h.kept0 kk) hl f4
 unfold cZ at Oj
 have HH:=Mb hh
 have HP:=Mb Oj
 clear hh Oj h f1 f2 f4
 rw[hI,hN,hB]at HH ⊢
 clear hI hN hB
 generalize Pu:eX runs size=P at*
 have QW:=Mb Pu
 clear Pu
 rcases bN name with⟨nm1,nm2,nm3,nm4⟩|⟨nm1,nm2,nm3⟩
 .rw[nm1]at hnm;cases hnm
 clear hnm
 have hm:aA false false true id name size runs=false:=by
  unfold aA
  try simp[]
 have HM:=Mb hm
 clear hm
 go_enter Tryz.func98,Tryz.ntmps98
 go_wp2_with fail
 refine(HH.out _).mono ?_;rintro e w' ⟨rfl,rfl⟩
 go_wp2_with fail
 go_ret
 exact aD HM.out k0
theorem M6 (h:A:=by
 have HM:=Mb hm
 clear hm
 go_enter Tryz.func98,Tryz.ntmps98
 go_wp2_with fail
 refine(HH.out _).mono ?_;rintro e w' ⟨rfl,rfl⟩
 go_wp2_with fail
 go_ret
 exact aD HM.out k0):A:=h
theorem zG (r:ag) (v:Value) (lo hi:Nat) (w:World) (h:af w v r.runs lo hi) (hl:r.runs.length<=1000000) (hf:r.fits) (hI:Qa r.kind=false) (hN:Ob r.kind=true) (hB:NH r.kind=false) (hnm:r.name.isEmpty=true):
  Calls Tryz.prog 98 #[.agg (r.cells v)] w (db (az r) w):=by
 obtain⟨k,id,name,size,runs⟩:=r
 obtain⟨f1,f2,f3,f4⟩:=hf
 simp only at h hl f1 f2 f3 f4 hI hN hB hnm
 obtain⟨p,c,rfl⟩:=h.shape
 unfold ag.cells az
 simp only
 have hh:=fun W=>fx k W
 obtain⟨Uu,id1⟩:=bP f2
 have hsb:=fA f4
 have O4:(bs name).size=name.length:=Nj name
 unfold maxLen at f3
 have k0:aa [] w (w.alloc (.cells #[.int .i64 k,.int .u32 id,.string (bs name),.int .i64 size,.slice p runs.length c] 102)):=(aa.refl _ _).alloc _
 have Oj:=fun W (kk:aa [] w W)=>dO _ runs size lo hi W (h.kept0 kk) hl f4
 unfold cZ at Oj
 have HH:=Mb hh
 have HP:=Mb Oj
 clear hh Oj h f1 f2 f4
 rw[hI,hN,hB]at HH ⊢
 clear hI hN hB
 generalize Pu:eX runs size=P at*
 have QW:=Mb Pu
 clear Pu
 rcases bN name with⟨nm1,nm2,nm3,nm4⟩|⟨nm1,nm2,nm3⟩
 rotate_left
 .rw[nm1]at hnm;cases hnm
 clear hnm
 subst nm1
 rcases(by omega:id=0\/(1<=id/\id<=4294967294)\/id=4294967295)with i1|⟨i1,i2⟩|i1
 .subst i1
  have hm:aA false true false 0 [] size runs=false:=by
   unfold aA
   try simp[]
  exact M6
 .have i3:¬id=0:=by omega
  have i4:(id==0)=false:=by simpa using i3
  have i5:(id != 0)=true:=by simpa using i3
  have hm:aA false true false id [] size runs=false:=by
   unfold aA
   try simp[i3,i2]
  exact M6
 .subst i1
  have hm:aA false true false 4294967295 [] size runs=false:=by
   unfold aA
   try simp[]
  exact M6
theorem M19 (h:A:=by
 go_wp2_with fail
 refine(HH.out _).mono ?_;rintro e w' ⟨rfl,rfl⟩
 go_wp2_with fail
 refine(HP.out _ k0).mono ?_;rintro e w1 ⟨rfl,k1⟩
 go_wp2_with fail
 go_ret
 exact iz HM.out (k0.trans k1)):A:=h
theorem zF (r:ag) (v:Value) (lo hi:Nat) (w:World) (h:af w v r.runs lo hi) (hl:r.runs.length<=1000000) (hf:r.fits) (hI:Qa r.kind=false) (hN:Ob r.kind=true) (hB:NH r.kind=false) (hnm:r.name.isEmpty=false):
  Calls Tryz.prog 98 #[.agg (r.cells v)] w (db (az r) w):=by
 obtain⟨k,id,name,size,runs⟩:=r
 obtain⟨f1,f2,f3,f4⟩:=hf
 simp only at h hl f1 f2 f3 f4 hI hN hB hnm
 obtain⟨p,c,rfl⟩:=h.shape
 unfold ag.cells az
 simp only
 have hh:=fun W=>fx k W
 obtain⟨Uu,id1⟩:=bP f2
 have hsb:=fA f4
 have O4:(bs name).size=name.length:=Nj name
 unfold maxLen at f3
 have k0:aa [] w (w.alloc (.cells #[.int .i64 k,.int .u32 id,.string (bs name),.int .i64 size,.slice p runs.length c] 102)):=(aa.refl _ _).alloc _
 have Oj:=fun W (kk:aa [] w W)=>dO _ runs size lo hi W (h.kept0 kk) hl f4
 unfold cZ at Oj
 have HH:=Mb hh
 have HP:=Mb Oj
 clear hh Oj h f1 f2 f4
 rw[hI,hN,hB]at HH ⊢
 clear hI hN hB
 generalize Pu:eX runs size=P at*
 have QW:=Mb Pu
 clear Pu
 rcases bN name with⟨nm1,nm2,nm3,nm4⟩|⟨nm1,nm2,nm3⟩
 .rw[nm1]at hnm;cases hnm
 clear hnm
 rcases(by omega:id=0\/(1<=id/\id<=4294967294)\/id=4294967295)with i1|⟨i1,i2⟩|i1
 .subst i1
  rcases(by omega:name.length<=48\/48<name.length)with l1|l1
  .rcases(by omega:size=0\/size≠0)with z1|z1
   .subst z1
    rcases List.eq_nil_or_concat runs with e1|⟨ri,rq,e1⟩
    .subst e1
     have hP:P=true:=by rw[<-QW.out];exact sy
     subst hP
     have hm:aA false true false 0 name 0 []=true:=by
      unfold aA
      rw[QW.out]
      try simp[nm1,l1]
     have HM:=Mb hm
     clear hm
     go_enter Tryz.func98,Tryz.ntmps98
     exact M19
    .have e2:1<=runs.length:=by rw[e1];simp
     have e3:(0:Int)<runs.length:=by omega
     have e4:runs.isEmpty=false:=by rw[e1];simp
     clear e1
     have hm:aA false true false 0 name 0 runs=false:=by
      unfold aA
      try simp[nm1,l1,e4]
     exact M6
   .have z2:(size==0)=false:=by simpa using z1
    have z3:(size != 0)=true:=by simpa using z1
    have hm:aA false true false 0 name size runs=false:=by
     unfold aA
     try simp[nm1,l1,z1]
    exact M6
  .have l2:¬name.length<=48:=by omega
   have l3:(48:Int)<name.length:=by omega
   have hm:aA false true false 0 name size runs=false:=by
    unfold aA
    try simp[nm1,l2]
   exact M6
 .have i3:¬id=0:=by omega
  have i4:(id==0)=false:=by simpa using i3
  have i5:(id != 0)=true:=by simpa using i3
  have hm:aA false true false id name size runs=false:=by
   unfold aA
   try simp[i3,i2]
  exact M6
 .subst i1
  have hm:aA false true false 4294967295 name size runs=false:=by
   unfold aA
   try simp[]
  exact M6
theorem zE (r:ag) (v:Value) (lo hi:Nat) (w:World) (h:af w v r.runs lo hi) (hl:r.runs.length<=1000000) (hf:r.fits) (hI:Qa r.kind=false) (hN:Ob r.kind=true) (hB:NH r.kind=true) (hnm:r.name.isEmpty=true):
  Calls Tryz.prog 98 #[.agg (r.cells v)] w (db (az r) w):=by
 obtain⟨k,id,name,size,runs⟩:=r
 obtain⟨f1,f2,f3,f4⟩:=hf
 simp only at h hl f1 f2 f3 f4 hI hN hB hnm
 obtain⟨p,c,rfl⟩:=h.shape
 unfold ag.cells az
 simp only
 have hh:=fun W=>fx k W
 obtain⟨Uu,id1⟩:=bP f2
 have hsb:=fA f4
 have O4:(bs name).size=name.length:=Nj name
 unfold maxLen at f3
 have k0:aa [] w (w.alloc (.cells #[.int .i64 k,.int .u32 id,.string (bs name),.int .i64 size,.slice p runs.length c] 102)):=(aa.refl _ _).alloc _
 have Oj:=fun W (kk:aa [] w W)=>dO _ runs size lo hi W (h.kept0 kk) hl f4
 unfold cZ at Oj
 have HH:=Mb hh
 have HP:=Mb Oj
 clear hh Oj h f1 f2 f4
 rw[hI,hN,hB]at HH ⊢
 clear hI hN hB
 generalize Pu:eX runs size=P at*
 have QW:=Mb Pu
 clear Pu
 rcases bN name with⟨nm1,nm2,nm3,nm4⟩|⟨nm1,nm2,nm3⟩
 rotate_left
 .rw[nm1]at hnm;cases hnm
 clear hnm
 subst nm1
 rcases(by omega:id=0\/(1<=id/\id<=4294967294)\/id=4294967295)with i1|⟨i1,i2⟩|i1
 .subst i1
  have hm:aA false true true 0 [] size runs=false:=by
   unfold aA
   try simp[]
  exact M6
 .have i3:¬id=0:=by omega
  have i4:(id==0)=false:=by simpa using i3
  have i5:(id != 0)=true:=by simpa using i3
  have hm:aA false true true id [] size runs=false:=by
   unfold aA
   try simp[i3,i2]
  exact M6
 .subst i1
  have hm:aA false true true 4294967295 [] size runs=false:=by
   unfold aA
   try simp[]
  exact M6
theorem M18 (h:A:=by
 have HM:=Mb hm
 clear hm
 cases P
 .go_enter Tryz.func98,Tryz.ntmps98
  go_wp2_with fail
  refine(HH.out _).mono ?_;rintro e w' ⟨rfl,rfl⟩
  go_wp2_with fail
  refine(HP.out _ k0).mono ?_;rintro e w1 ⟨rfl,k1⟩
  go_wp2_with fail
  go_ret
  exact aD HM.out (k0.trans k1)
 .go_enter Tryz.func98,Tryz.ntmps98
  go_wp2_with fail
  refine(HH.out _).mono ?_;rintro e w' ⟨rfl,rfl⟩
  go_wp2_with fail
  refine(HP.out _ k0).mono ?_;rintro e w1 ⟨rfl,k1⟩
  go_wp2_with fail
  go_ret
  exact iz HM.out (k0.trans k1)):A:=h
theorem zD (r:ag) (v:Value) (lo hi:Nat) (w:World) (h:af w v r.runs lo hi) (hl:r.runs.length<=1000000) (hf:r.fits) (hI:Qa r.kind=false) (hN:Ob r.kind=true) (hB:NH r.kind=true) (hnm:r.name.isEmpty=false):
  Calls Tryz.prog 98 #[.agg (r.cells v)] w (db (az r) w):=by
 obtain⟨k,id,name,size,runs⟩:=r
 obtain⟨f1,f2,f3,f4⟩:=hf
 simp only at h hl f1 f2 f3 f4 hI hN hB hnm
 obtain⟨p,c,rfl⟩:=h.shape
 unfold ag.cells az
 simp only
 have hh:=fun W=>fx k W
 obtain⟨Uu,id1⟩:=bP f2
 have hsb:=fA f4
 have O4:(bs name).size=name.length:=Nj name
 unfold maxLen at f3
 have k0:aa [] w (w.alloc (.cells #[.int .i64 k,.int .u32 id,.string (bs name),.int .i64 size,.slice p runs.length c] 102)):=(aa.refl _ _).alloc _
 have Oj:=fun W (kk:aa [] w W)=>dO _ runs size lo hi W (h.kept0 kk) hl f4
 unfold cZ at Oj
 have HH:=Mb hh
 have HP:=Mb Oj
 clear hh Oj h f1 f2 f4
 rw[hI,hN,hB]at HH ⊢
 clear hI hN hB
 generalize Pu:eX runs size=P at*
 have QW:=Mb Pu
 clear Pu
 rcases bN name with⟨nm1,nm2,nm3,nm4⟩|⟨nm1,nm2,nm3⟩
 .rw[nm1]at hnm;cases hnm
 clear hnm
 rcases(by omega:id=0\/(1<=id/\id<=4294967294)\/id=4294967295)with i1|⟨i1,i2⟩|i1
 .subst i1
  rcases(by omega:name.length<=48\/48<name.length)with l1|l1
  .have hm:aA false true true 0 name size runs=P:=by
    unfold aA
    rw[QW.out]
    try simp[nm1,l1]
   exact M18
  .have l2:¬name.length<=48:=by omega
   have l3:(48:Int)<name.length:=by omega
   have hm:aA false true true 0 name size runs=false:=by
    unfold aA
    try simp[nm1,l2]
   exact M6
 .have i3:¬id=0:=by omega
  have i4:(id==0)=false:=by simpa using i3
  have i5:(id != 0)=true:=by simpa using i3
  have hm:aA false true true id name size runs=false:=by
   unfold aA
   try simp[i3,i2]
  exact M6
 .subst i1
  have hm:aA false true true 4294967295 name size runs=false:=by
   unfold aA
   try simp[]
  exact M6
end Go.Proofs.YtdkimcnlhmhpgaaGreat

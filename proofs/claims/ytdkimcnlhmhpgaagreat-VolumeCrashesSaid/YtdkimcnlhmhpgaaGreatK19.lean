/- -/
import Derived.Test.YtdkimcnlhmhpgaaGreatK17
import Derived.Test.YtdkimcnlhmhpgaaGreatK18
set_option maxHeartbeats 16000000
set_option maxRecDepth 100000
set_option linter.unusedVariables false
namespace Go.Proofs.YtdkimcnlhmhpgaaGreat
open Go.RowKit
variable {c:aj} {w w':World}
theorem zC (r:ag) (v:Value) (lo hi:Nat) (w:World) (h:af w v r.runs lo hi) (hl:r.runs.length<=1000000) (hf:r.fits) (hI:Qa r.kind=true) (hN:Ob r.kind=false) (hB:NH r.kind=false) (hnm:r.name.isEmpty=true):
  Calls Tryz.prog 98 #[.agg (r.cells v)] w (db (az r) w):=by
 obtain⟨k,id,name,size,runs⟩:=r
 obtain⟨f1,f2,f3,f4⟩:=hf
 simp only at h hl f1 f2 f3 f4 hI hN hB hnm
 obtain⟨p,c,rfl⟩:=h.shape
 unfold ag.cells az
 simp only
 have hh:=fun W=>fx k W
 obtain⟨Uu,id1⟩:=bP f2
 have hsb:=fA f4
 have O4:(bs name).size=name.length:=Nj name
 unfold maxLen at f3
 have k0:aa [] w (w.alloc (.cells #[.int .i64 k,.int .u32 id,.string (bs name),.int .i64 size,.slice p runs.length c] 102)):=(aa.refl _ _).alloc _
 have Oj:=fun W (kk:aa [] w W)=>dO _ runs size lo hi W (h.kept0 kk) hl f4
 unfold cZ at Oj
 have HH:=Mb hh
 have HP:=Mb Oj
 clear hh Oj h f1 f2 f4
 rw[hI,hN,hB]at HH ⊢
 clear hI hN hB
 generalize Pu:eX runs size=P at*
 have QW:=Mb Pu
 clear Pu
 rcases bN name with⟨nm1,nm2,nm3,nm4⟩|⟨nm1,nm2,nm3⟩
 rotate_left
 .rw[nm1]at hnm;cases hnm
 clear hnm
 subst nm1
 rcases(by omega:id=0\/(1<=id/\id<=4294967294)\/id=4294967295)with i1|⟨i1,i2⟩|i1
 .subst i1
  have hm:aA true false false 0 [] size runs=false:=by
   unfold aA
   try simp[]
  exact M6
 .have i3:¬id=0:=by omega
  have i4:(id==0)=false:=by simpa using i3
  have i5:(id != 0)=true:=by simpa using i3
  rcases(by omega:size=0\/size≠0)with z1|z1
  .subst z1
   rcases List.eq_nil_or_concat runs with e1|⟨ri,rq,e1⟩
   .subst e1
    have hP:P=true:=by rw[<-QW.out];exact sy
    subst hP
    have hm:aA true false false id [] 0 []=true:=by
     unfold aA
     rw[QW.out]
     try simp[i3,i2]
    have HM:=Mb hm
    clear hm
    go_enter Tryz.func98,Tryz.ntmps98
    exact M19
   .have e2:1<=runs.length:=by rw[e1];simp
    have e3:(0:Int)<runs.length:=by omega
    have e4:runs.isEmpty=false:=by rw[e1];simp
    clear e1
    have hm:aA true false false id [] 0 runs=false:=by
     unfold aA
     try simp[i3,i2,e4]
    exact M6
  .have z2:(size==0)=false:=by simpa using z1
   have z3:(size != 0)=true:=by simpa using z1
   have hm:aA true false false id [] size runs=false:=by
    unfold aA
    try simp[i3,i2,z1]
   exact M6
 .subst i1
  have hm:aA true false false 4294967295 [] size runs=false:=by
   unfold aA
   try simp[]
  exact M6
theorem zB (r:ag) (v:Value) (lo hi:Nat) (w:World) (h:af w v r.runs lo hi) (hl:r.runs.length<=1000000) (hf:r.fits) (hI:Qa r.kind=true) (hN:Ob r.kind=false) (hB:NH r.kind=false) (hnm:r.name.isEmpty=false):
  Calls Tryz.prog 98 #[.agg (r.cells v)] w (db (az r) w):=by
 obtain⟨k,id,name,size,runs⟩:=r
 obtain⟨f1,f2,f3,f4⟩:=hf
 simp only at h hl f1 f2 f3 f4 hI hN hB hnm
 obtain⟨p,c,rfl⟩:=h.shape
 unfold ag.cells az
 simp only
 have hh:=fun W=>fx k W
 obtain⟨Uu,id1⟩:=bP f2
 have hsb:=fA f4
 have O4:(bs name).size=name.length:=Nj name
 unfold maxLen at f3
 have k0:aa [] w (w.alloc (.cells #[.int .i64 k,.int .u32 id,.string (bs name),.int .i64 size,.slice p runs.length c] 102)):=(aa.refl _ _).alloc _
 have Oj:=fun W (kk:aa [] w W)=>dO _ runs size lo hi W (h.kept0 kk) hl f4
 unfold cZ at Oj
 have HH:=Mb hh
 have HP:=Mb Oj
 clear hh Oj h f1 f2 f4
 rw[hI,hN,hB]at HH ⊢
 clear hI hN hB
 generalize Pu:eX runs size=P at*
 have QW:=Mb Pu
 clear Pu
 rcases bN name with⟨nm1,nm2,nm3,nm4⟩|⟨nm1,nm2,nm3⟩
 .rw[nm1]at hnm;cases hnm
 clear hnm
 rcases(by omega:id=0\/(1<=id/\id<=4294967294)\/id=4294967295)with i1|⟨i1,i2⟩|i1
 .subst i1
  have hm:aA true false false 0 name size runs=false:=by
   unfold aA
   try simp[]
  exact M6
 .have i3:¬id=0:=by omega
  have i4:(id==0)=false:=by simpa using i3
  have i5:(id != 0)=true:=by simpa using i3
  have hm:aA true false false id name size runs=false:=by
   unfold aA
   try simp[i3,i2,nm1]
  exact M6
 .subst i1
  have hm:aA true false false 4294967295 name size runs=false:=by
   unfold aA
   try simp[]
  exact M6
theorem zA (r:ag) (v:Value) (lo hi:Nat) (w:World) (h:af w v r.runs lo hi) (hl:r.runs.length<=1000000) (hf:r.fits) (hI:Qa r.kind=true) (hN:Ob r.kind=false) (hB:NH r.kind=true) (hnm:r.name.isEmpty=true):
  Calls Tryz.prog 98 #[.agg (r.cells v)] w (db (az r) w):=by
 obtain⟨k,id,name,size,runs⟩:=r
 obtain⟨f1,f2,f3,f4⟩:=hf
 simp only at h hl f1 f2 f3 f4 hI hN hB hnm
 obtain⟨p,c,rfl⟩:=h.shape
 unfold ag.cells az
 simp only
 have hh:=fun W=>fx k W
 obtain⟨Uu,id1⟩:=bP f2
 have hsb:=fA f4
 have O4:(bs name).size=name.length:=Nj name
 unfold maxLen at f3
 have k0:aa [] w (w.alloc (.cells #[.int .i64 k,.int .u32 id,.string (bs name),.int .i64 size,.slice p runs.length c] 102)):=(aa.refl _ _).alloc _
 have Oj:=fun W (kk:aa [] w W)=>dO _ runs size lo hi W (h.kept0 kk) hl f4
 unfold cZ at Oj
 have HH:=Mb hh
 have HP:=Mb Oj
 clear hh Oj h f1 f2 f4
 rw[hI,hN,hB]at HH ⊢
 clear hI hN hB
 generalize Pu:eX runs size=P at*
 have QW:=Mb Pu
 clear Pu
 rcases bN name with⟨nm1,nm2,nm3,nm4⟩|⟨nm1,nm2,nm3⟩
 rotate_left
 .rw[nm1]at hnm;cases hnm
 clear hnm
 subst nm1
 rcases(by omega:id=0\/(1<=id/\id<=4294967294)\/id=4294967295)with i1|⟨i1,i2⟩|i1
 .subst i1
  have hm:aA true false true 0 [] size runs=false:=by
   unfold aA
   try simp[]
  exact M6
 .have i3:¬id=0:=by omega
  have i4:(id==0)=false:=by simpa using i3
  have i5:(id != 0)=true:=by simpa using i3
  have hm:aA true false true id [] size runs=P:=by
   unfold aA
   rw[QW.out]
   try simp[i3,i2]
  exact M18
 .subst i1
  have hm:aA true false true 4294967295 [] size runs=false:=by
   unfold aA
   try simp[]
  exact M6
theorem zz (r:ag) (v:Value) (lo hi:Nat) (w:World) (h:af w v r.runs lo hi) (hl:r.runs.length<=1000000) (hf:r.fits) (hI:Qa r.kind=true) (hN:Ob r.kind=false) (hB:NH r.kind=true) (hnm:r.name.isEmpty=false):
  Calls Tryz.prog 98 #[.agg (r.cells v)] w (db (az r) w):=by
 obtain⟨k,id,name,size,runs⟩:=r
 obtain⟨f1,f2,f3,f4⟩:=hf
 simp only at h hl f1 f2 f3 f4 hI hN hB hnm
 obtain⟨p,c,rfl⟩:=h.shape
 unfold ag.cells az
 simp only
 have hh:=fun W=>fx k W
 obtain⟨Uu,id1⟩:=bP f2
 have hsb:=fA f4
 have O4:(bs name).size=name.length:=Nj name
 unfold maxLen at f3
 have k0:aa [] w (w.alloc (.cells #[.int .i64 k,.int .u32 id,.string (bs name),.int .i64 size,.slice p runs.length c] 102)):=(aa.refl _ _).alloc _
 have Oj:=fun W (kk:aa [] w W)=>dO _ runs size lo hi W (h.kept0 kk) hl f4
 unfold cZ at Oj
 have HH:=Mb hh
 have HP:=Mb Oj
 clear hh Oj h f1 f2 f4
 rw[hI,hN,hB]at HH ⊢
 clear hI hN hB
 generalize Pu:eX runs size=P at*
 have QW:=Mb Pu
 clear Pu
 rcases bN name with⟨nm1,nm2,nm3,nm4⟩|⟨nm1,nm2,nm3⟩
 .rw[nm1]at hnm;cases hnm
 clear hnm
 rcases(by omega:id=0\/(1<=id/\id<=4294967294)\/id=4294967295)with i1|⟨i1,i2⟩|i1
 .subst i1
  have hm:aA true false true 0 name size runs=false:=by
   unfold aA
   try simp[]
  exact M6
 .have i3:¬id=0:=by omega
  have i4:(id==0)=false:=by simpa using i3
  have i5:(id != 0)=true:=by simpa using i3
  have hm:aA true false true id name size runs=false:=by
   unfold aA
   try simp[i3,i2,nm1]
  exact M6
 .subst i1
  have hm:aA true false true 4294967295 name size runs=false:=by
   unfold aA
   try simp[]
  exact M6
theorem zx (r:ag) (v:Value) (lo hi:Nat) (w:World) (h:af w v r.runs lo hi) (hl:r.runs.length<=1000000) (hf:r.fits) (hI:Qa r.kind=true) (hN:Ob r.kind=true) (hB:NH r.kind=false) (hnm:r.name.isEmpty=true):
  Calls Tryz.prog 98 #[.agg (r.cells v)] w (db (az r) w):=by
 obtain⟨k,id,name,size,runs⟩:=r
 obtain⟨f1,f2,f3,f4⟩:=hf
 simp only at h hl f1 f2 f3 f4 hI hN hB hnm
 obtain⟨p,c,rfl⟩:=h.shape
 unfold ag.cells az
 simp only
 have hh:=fun W=>fx k W
 obtain⟨Uu,id1⟩:=bP f2
 have hsb:=fA f4
 have O4:(bs name).size=name.length:=Nj name
 unfold maxLen at f3
 have k0:aa [] w (w.alloc (.cells #[.int .i64 k,.int .u32 id,.string (bs name),.int .i64 size,.slice p runs.length c] 102)):=(aa.refl _ _).alloc _
 have Oj:=fun W (kk:aa [] w W)=>dO _ runs size lo hi W (h.kept0 kk) hl f4
 unfold cZ at Oj
 have HH:=Mb hh
 have HP:=Mb Oj
 clear hh Oj h f1 f2 f4
 rw[hI,hN,hB]at HH ⊢
 clear hI hN hB
 generalize Pu:eX runs size=P at*
 have QW:=Mb Pu
 clear Pu
 rcases bN name with⟨nm1,nm2,nm3,nm4⟩|⟨nm1,nm2,nm3⟩
 rotate_left
 .rw[nm1]at hnm;cases hnm
 clear hnm
 subst nm1
 rcases(by omega:id=0\/(1<=id/\id<=4294967294)\/id=4294967295)with i1|⟨i1,i2⟩|i1
 .subst i1
  have hm:aA true true false 0 [] size runs=false:=by
   unfold aA
   try simp[]
  exact M6
 .have i3:¬id=0:=by omega
  have i4:(id==0)=false:=by simpa using i3
  have i5:(id != 0)=true:=by simpa using i3
  have hm:aA true true false id [] size runs=false:=by
   unfold aA
   try simp[i3,i2]
  exact M6
 .subst i1
  have hm:aA true true false 4294967295 [] size runs=false:=by
   unfold aA
   try simp[]
  exact M6
theorem zw (r:ag) (v:Value) (lo hi:Nat) (w:World) (h:af w v r.runs lo hi) (hl:r.runs.length<=1000000) (hf:r.fits) (hI:Qa r.kind=true) (hN:Ob r.kind=true) (hB:NH r.kind=false) (hnm:r.name.isEmpty=false):
  Calls Tryz.prog 98 #[.agg (r.cells v)] w (db (az r) w):=by
 obtain⟨k,id,name,size,runs⟩:=r
 obtain⟨f1,f2,f3,f4⟩:=hf
 simp only at h hl f1 f2 f3 f4 hI hN hB hnm
 obtain⟨p,c,rfl⟩:=h.shape
 unfold ag.cells az
 simp only
 have hh:=fun W=>fx k W
 obtain⟨Uu,id1⟩:=bP f2
 have hsb:=fA f4
 have O4:(bs name).size=name.length:=Nj name
 unfold maxLen at f3
 have k0:aa [] w (w.alloc (.cells #[.int .i64 k,.int .u32 id,.string (bs name),.int .i64 size,.slice p runs.length c] 102)):=(aa.refl _ _).alloc _
 have Oj:=fun W (kk:aa [] w W)=>dO _ runs size lo hi W (h.kept0 kk) hl f4
 unfold cZ at Oj
 have HH:=Mb hh
 have HP:=Mb Oj
 clear hh Oj h f1 f2 f4
 rw[hI,hN,hB]at HH ⊢
 clear hI hN hB
 generalize Pu:eX runs size=P at*
 have QW:=Mb Pu
 clear Pu
 rcases bN name with⟨nm1,nm2,nm3,nm4⟩|⟨nm1,nm2,nm3⟩
 .rw[nm1]at hnm;cases hnm
 clear hnm
 rcases(by omega:id=0\/(1<=id/\id<=4294967294)\/id=4294967295)with i1|⟨i1,i2⟩|i1
 .subst i1
  have hm:aA true true false 0 name size runs=false:=by
   unfold aA
   try simp[]
  exact M6
 .have i3:¬id=0:=by omega
  have i4:(id==0)=false:=by simpa using i3
  have i5:(id != 0)=true:=by simpa using i3
  rcases(by omega:name.length<=48\/48<name.length)with l1|l1
  .rcases(by omega:size=0\/size≠0)with z1|z1
   .subst z1
    rcases List.eq_nil_or_concat runs with e1|⟨ri,rq,e1⟩
    .subst e1
     have hP:P=true:=by rw[<-QW.out];exact sy
     subst hP
     have hm:aA true true false id name 0 []=true:=by
      unfold aA
      rw[QW.out]
      try simp[i3,i2,nm1,l1]
     have HM:=Mb hm
     clear hm
     go_enter Tryz.func98,Tryz.ntmps98
     exact M19
    .have e2:1<=runs.length:=by rw[e1];simp
     have e3:(0:Int)<runs.length:=by omega
     have e4:runs.isEmpty=false:=by rw[e1];simp
     clear e1
     have hm:aA true true false id name 0 runs=false:=by
      unfold aA
      try simp[i3,i2,nm1,l1,e4]
     exact M6
   .have z2:(size==0)=false:=by simpa using z1
    have z3:(size != 0)=true:=by simpa using z1
    have hm:aA true true false id name size runs=false:=by
     unfold aA
     try simp[i3,i2,nm1,l1,z1]
    exact M6
  .have l2:¬name.length<=48:=by omega
   have l3:(48:Int)<name.length:=by omega
   have hm:aA true true false id name size runs=false:=by
    unfold aA
    try simp[i3,i2,nm1,l2]
   exact M6
 .subst i1
  have hm:aA true true false 4294967295 name size runs=false:=by
   unfold aA
   try simp[]
  exact M6
theorem zv (r:ag) (v:Value) (lo hi:Nat) (w:World) (h:af w v r.runs lo hi) (hl:r.runs.length<=1000000) (hf:r.fits) (hI:Qa r.kind=true) (hN:Ob r.kind=true) (hB:NH r.kind=true) (hnm:r.name.isEmpty=true):
  Calls Tryz.prog 98 #[.agg (r.cells v)] w (db (az r) w):=by
 obtain⟨k,id,name,size,runs⟩:=r
 obtain⟨f1,f2,f3,f4⟩:=hf
 simp only at h hl f1 f2 f3 f4 hI hN hB hnm
 obtain⟨p,c,rfl⟩:=h.shape
 unfold ag.cells az
 simp only
 have hh:=fun W=>fx k W
 obtain⟨Uu,id1⟩:=bP f2
 have hsb:=fA f4
 have O4:(bs name).size=name.length:=Nj name
 unfold maxLen at f3
 have k0:aa [] w (w.alloc (.cells #[.int .i64 k,.int .u32 id,.string (bs name),.int .i64 size,.slice p runs.length c] 102)):=(aa.refl _ _).alloc _
 have Oj:=fun W (kk:aa [] w W)=>dO _ runs size lo hi W (h.kept0 kk) hl f4
 unfold cZ at Oj
 have HH:=Mb hh
 have HP:=Mb Oj
 clear hh Oj h f1 f2 f4
 rw[hI,hN,hB]at HH ⊢
 clear hI hN hB
 generalize Pu:eX runs size=P at*
 have QW:=Mb Pu
 clear Pu
 rcases bN name with⟨nm1,nm2,nm3,nm4⟩|⟨nm1,nm2,nm3⟩
 rotate_left
 .rw[nm1]at hnm;cases hnm
 clear hnm
 subst nm1
 rcases(by omega:id=0\/(1<=id/\id<=4294967294)\/id=4294967295)with i1|⟨i1,i2⟩|i1
 .subst i1
  have hm:aA true true true 0 [] size runs=false:=by
   unfold aA
   try simp[]
  exact M6
 .have i3:¬id=0:=by omega
  have i4:(id==0)=false:=by simpa using i3
  have i5:(id != 0)=true:=by simpa using i3
  have hm:aA true true true id [] size runs=false:=by
   unfold aA
   try simp[i3,i2]
  exact M6
 .subst i1
  have hm:aA true true true 4294967295 [] size runs=false:=by
   unfold aA
   try simp[]
  exact M6
theorem zu (r:ag) (v:Value) (lo hi:Nat) (w:World) (h:af w v r.runs lo hi) (hl:r.runs.length<=1000000) (hf:r.fits) (hI:Qa r.kind=true) (hN:Ob r.kind=true) (hB:NH r.kind=true) (hnm:r.name.isEmpty=false):
  Calls Tryz.prog 98 #[.agg (r.cells v)] w (db (az r) w):=by
 obtain⟨k,id,name,size,runs⟩:=r
 obtain⟨f1,f2,f3,f4⟩:=hf
 simp only at h hl f1 f2 f3 f4 hI hN hB hnm
 obtain⟨p,c,rfl⟩:=h.shape
 unfold ag.cells az
 simp only
 have hh:=fun W=>fx k W
 obtain⟨Uu,id1⟩:=bP f2
 have hsb:=fA f4
 have O4:(bs name).size=name.length:=Nj name
 unfold maxLen at f3
 have k0:aa [] w (w.alloc (.cells #[.int .i64 k,.int .u32 id,.string (bs name),.int .i64 size,.slice p runs.length c] 102)):=(aa.refl _ _).alloc _
 have Oj:=fun W (kk:aa [] w W)=>dO _ runs size lo hi W (h.kept0 kk) hl f4
 unfold cZ at Oj
 have HH:=Mb hh
 have HP:=Mb Oj
 clear hh Oj h f1 f2 f4
 rw[hI,hN,hB]at HH ⊢
 clear hI hN hB
 generalize Pu:eX runs size=P at*
 have QW:=Mb Pu
 clear Pu
 rcases bN name with⟨nm1,nm2,nm3,nm4⟩|⟨nm1,nm2,nm3⟩
 .rw[nm1]at hnm;cases hnm
 clear hnm
 rcases(by omega:id=0\/(1<=id/\id<=4294967294)\/id=4294967295)with i1|⟨i1,i2⟩|i1
 .subst i1
  have hm:aA true true true 0 name size runs=false:=by
   unfold aA
   try simp[]
  exact M6
 .have i3:¬id=0:=by omega
  have i4:(id==0)=false:=by simpa using i3
  have i5:(id != 0)=true:=by simpa using i3
  rcases(by omega:name.length<=48\/48<name.length)with l1|l1
  .have hm:aA true true true id name size runs=P:=by
    unfold aA
    rw[QW.out]
    try simp[i3,i2,nm1,l1]
   exact M18
  .have l2:¬name.length<=48:=by omega
   have l3:(48:Int)<name.length:=by omega
   have hm:aA true true true id name size runs=false:=by
    unfold aA
    try simp[i3,i2,nm1,l2]
   exact M6
 .subst i1
  have hm:aA true true true 4294967295 name size runs=false:=by
   unfold aA
   try simp[]
  exact M6
theorem tV (r:ag) (v:Value) (lo hi:Nat) (w:World) (h:af w v r.runs lo hi) (hl:r.runs.length<=1000000) (hf:r.fits):
  Calls Tryz.prog 98 #[.agg (r.cells v)] w (db (az r) w):=by
 cases hI:Qa r.kind<;>cases hN:Ob r.kind<;>cases hB:NH r.kind<;>cases hn:r.name.isEmpty
 .exact zJ r v lo hi w h hl hf hI hN hB hn
 .exact zK r v lo hi w h hl hf hI hN hB hn
 .exact zH r v lo hi w h hl hf hI hN hB hn
 .exact zI r v lo hi w h hl hf hI hN hB hn
 .exact zF r v lo hi w h hl hf hI hN hB hn
 .exact zG r v lo hi w h hl hf hI hN hB hn
 .exact zD r v lo hi w h hl hf hI hN hB hn
 .exact zE r v lo hi w h hl hf hI hN hB hn
 .exact zB r v lo hi w h hl hf hI hN hB hn
 .exact zC r v lo hi w h hl hf hI hN hB hn
 .exact zz r v lo hi w h hl hf hI hN hB hn
 .exact zA r v lo hi w h hl hf hI hN hB hn
 .exact zw r v lo hi w h hl hf hI hN hB hn
 .exact zx r v lo hi w h hl hf hI hN hB hn
 .exact zu r v lo hi w h hl hf hI hN hB hn
 .exact zv r v lo hi w h hl hf hI hN hB hn
def ir (p:Nf->Bool) (l:List Nf) (w:World) (e:Ending) (w':World):Prop:=((∃i,∃h:i<l.length,p l[i]=true/\(∀j (hj:j<l.length),j<i->p l[j]=false)/\e=.returned (.int .i64 i))\/((∀j (hj:j<l.length),p l[j]=false)/\e=.returned (.int .i64 (-1))))/\aa [] w w'
theorem M8 {A:Prop}(h:A:=by
 obtain⟨k,hk,rfl,OF,hK⟩:=hrel
 by_cases Ns:k<l.length
 .obtain⟨b,off,kv,rfl,hia,hb,Rt,Th,HA⟩:=H.out.jJ k Ns
  have Pe:=HP.out wr hK k Ns kv (hia.kept0 hK)
  obtain⟨x0,x1,x2,x3⟩:=HA wr hK
  obtain⟨R,hR⟩:∃R,p (l[k]'Ns)=R:=⟨_,rfl⟩
  rw[hR]at Pe
  unfold Nf.cells at Pe
  have i1:(k:Int)<l.length:=by omega
  have Sn:=Mb Pe
  have YR:=Mb hR
  have Pk:=Mb OF
  have Sg:=Mb hK
  have NU:=Mb Ns
  clear hia Pe hR OF HA hb
  generalize hLA:l[k]'Ns=A at x0 x1 x2 x3 Sn
  clear hLA
  go_wp2_with fail
  refine Sn.out.mono ?_;rintro e w2 ⟨rfl,k2⟩
  have KK:=Mb (Sg.out.trans k2)
  cases R with
  |true=>
   go_wp2_with fail
   go_ret
   exact⟨Or.inl ⟨k,NU.out,YR.out,Pk.out,rfl⟩,KK.out⟩
  |false=>
   go_wp2_with fail
   go_roundw
   case rel=>exact⟨k+1,NU.out,by go_num,fun j hj Vs=>by
    by_cases e:j=k
    .subst e;exact YR.out
    .exact Pk.out j hj (by omega),KK.out⟩
   case measure=>(have h:=NU.out;simp[intOf];omega)
 .obtain rfl:k=l.length:=by omega
  have Pk:=Mb OF
  clear OF
  go_wp2_with fail
  go_ret
  exact⟨Or.inr ⟨fun j hj=>Pk.out j hj hj,rfl⟩,hK⟩):A:=h
theorem AT (p:Nf->Bool) (cv:Value) (v:Value) (l:List Nf) (w:World) (h:aS w v l) (hl:l.length<=1000000)
  (hp:∀W,aa [] w W->∀i (hi:i<l.length) kv,bd W (l[i],kv)->Calls Tryz.prog 230 #[.agg (l[i].cells kv),cv] W fun e w'=>e=.returned (.bool (p l[i]))/\aa [] W w'):
  Calls Tryz.prog 187 #[v,.func (.func 230) #[] #[cv]] w (ir p l w):=by
 obtain⟨pa,ca,rfl⟩:=h.shape
 have H:=Mb h
 have HP:=Mb hp
 have QZ:(l.length:Int)<=1000000:=by omega
 clear h hp
 go_enter Tryz.func187,Tryz.ntmps187
 go_wp2_with fail
 go_loopw [8] (fun i wr=>∃k:Nat,k<=l.length/\i=.int .i64 k/\(∀j (hj:j<l.length),j<k->p l[j]=false)/\aa [] w wr) (fun i _=>l.length-(intOf i).toNat)
 case atStart=>exact⟨0,Mu _,rfl,fun j hj h=>absurd h (Nat.not_lt_zero j),aa.refl _ _⟩
 case round=>
  exact M8
theorem LP (k:Int) (kb:Nat) (x:Nf) (xv:Value) (w:World) (hk:w.cell? ⟨kb,0,none⟩=some (.int .i64 k)) (hx:bd w (x,xv)) (hl:x.runs.length<=1000000) (hkw:(Lit.int .i64 k).wf=true):
  Calls Tryz.prog 230 #[.agg (x.cells xv),.pointer (some ⟨kb,0,none⟩)] w fun e w'=>e=.returned (.bool (!az (x.told k)))/\aa [] w w':=by
 have ht:=fun W=>GK k x xv W hx.iN
 have hc:=fun W (q:aa [] w W)=>tV (x.told k) xv _ _ W (hx.1.kept0 q) hl (Nf.gB hx.2.1 hkw)
 unfold db at hc
 obtain⟨p,n,c,rfl⟩:=hx.iN
 obtain⟨M,hM⟩:∃M,az (x.told k)=M:=⟨_,rfl⟩
 rw[hM]
 simp only[hM]at hc
 have oX:=ae.new w (x.cells (.slice p n c)) 113
 have k0:aa [] w (w.alloc (.cells (x.cells (.slice p n c)) 113)):=(aa.refl _ _).alloc _
 have YA:kb<w.heap.size:=World.block_lt_of_cell? _ _ hk
 have c0:(w.alloc (.cells (x.cells (.slice p n c)) 113)).cell? ⟨kb,0,none⟩=some (.int .i64 k):=Lib.cell?_alloc_some _ hk
 unfold Nf.told ag.cells at hc ht
 unfold Nf.cells at oX k0 c0 ht ⊢
 obtain⟨x0,x1,x2,x3⟩:=oX.c4
 have K0:=Mb k0
 have HC:=Mb hc
 have HT:=Mb ht
 clear oX k0 hc ht hM YA hk hx
 go_enter Tryz.func230,Tryz.ntmps230
 go_wp2_with fail
 refine(HT.out _).mono ?_;rintro e w2 ⟨rfl,k2⟩
 have K2:=Mb (K0.out.trans k2)
 go_wp2_with fail
 refine(HC.out _ K2.out).mono ?_;rintro e w3 ⟨rfl,k3⟩
 have K3:=Mb (K2.out.trans k3)
 cases M
 .go_wp2_with fail
  go_ret
  exact⟨rfl,K3.out⟩
 .go_wp2_with fail
  go_ret
  exact⟨rfl,K3.out⟩
theorem CE (p:Nf->Bool) (cv:Value) (v:Value) (l:List Nf) (w:World) (h:aS w v l) (hl:l.length<=1000000)
  (hp:∀W,aa [] w W->∀i (hi:i<l.length) kv,bd W (l[i],kv)->Calls Tryz.prog 230 #[.agg (l[i].cells kv),cv] W fun e w'=>e=.returned (.bool (p l[i]))/\aa [] W w'):
  Calls Tryz.prog 231 #[v,.func (.func 230) #[] #[cv]] w (dr (∃a∈l,p a=true) w):=by
 have hi:=AT p cv v l w h hl hp
 unfold ir at hi
 obtain⟨pa,ca,rfl⟩:=h.shape
 have HI:=Mb hi
 clear hi h hp hl
 go_enter Tryz.func231,Tryz.ntmps231
 go_wp2_with fail
 refine HI.out.mono ?_;rintro e w2 ⟨⟨i,hi,h1,h2,rfl⟩|⟨h2,rfl⟩,k2⟩
 .have hx:∃a∈l,p a=true:=⟨_,Mh hi,h1⟩
  have HX:=Mb hx
  have i1:(0:Int)<=(i:Int):=by omega
  clear hx h1 h2 hi
  go_wp2_with fail
  go_ret
  exact kS HX.out k2
 .have hx:¬ ∃a∈l,p a=true:=by
   rintro⟨a,ha,hpa⟩
   obtain⟨j,hj,rfl⟩:=MO.1 ha
   rw[h2 j hj]at hpa;cases hpa
  have HX:=Mb hx
  clear hx h2
  go_wp2_with fail
  go_ret
  exact eP HX.out k2
theorem uE (k:Int) (v:Value) (l:List Nf) (most:Nat) (w:World) (h:aS w v l) (hl:kj l) (hkw:(Lit.int .i64 k).wf=true) (hm:most<=1000000):
  Calls Tryz.prog 167 #[.int .i64 k,v,.int .i64 most] w (dr (fZ k l most) w):=by
 have o0:=ae.new w #[.int .i64 k] 31
 have k0:aa [] w (w.alloc (.cells #[.int .i64 k] 31)):=(aa.refl _ _).alloc _
 have c0:=o0.cell 0 (by simp)
 have hco:=CE (fun x=> !az (x.told k)) (.pointer (some ⟨w.heap.size,0,none⟩)) v l _ (h.kept0 k0) hl.1 (fun W q i hi kv hx=>LP k w.heap.size _ kv W ((q.cell (by exact o0.lt) (by simp)).trans c0) hx (hl.2 _ (Mh hi)) hkw)
 have hri:=fun W (q:aa [] w W)=>Kx v l W (h.kept0 q) hl.1
 unfold dr at hco
 unfold oZ at hri
 obtain⟨pa,ca,rfl⟩:=h.shape
 have j1:(l.length:Int)<=1000000:=by have:=hl.1;omega
 have HC:=Mb hco
 have HR:=Mb hri
 have K0:=Mb k0
 simp only[List.getElem_toArray,List.getElem_cons_zero]at c0
 clear hco hri k0 o0 h hl
 by_cases hlen:l.length<=most
 .have i1:(l.length:Int)<=most:=by omega
  go_enter Tryz.func167,Tryz.ntmps167
  go_wp2_with fail
  refine HC.out.mono ?_;rintro e w2 ⟨b,rfl,hb,k2⟩
  have K2:=Mb (K0.out.trans k2)
  have HB:=Mb hb
  clear hb
  cases b with
  |true=>
   go_wp2_with fail
   go_ret
   exact eP (fun hml=>by
    obtain⟨a,ha,hna⟩:=HB.out.1 (by simp)
    rw[hml.2.1 a ha]at hna;cases hna) K2.out
  |false=>
   go_wp2_with fail
   refine(HR.out _ K2.out).mono ?_;rintro e w3 ⟨q,rfl,hq,k3⟩
   have K3:=Mb (K2.out.trans k3)
   have HQ:=Mb hq
   clear hq
   go_wp2_with fail
   go_ret
   refine⟨q,rfl,⟨fun hq1=>⟨hlen,fun a ha=>?_,HQ.out.1 hq1⟩,fun hml=>HQ.out.2 hml.2.2⟩,K3.out⟩
   cases g:az (a.told k)
   .have:=HB.out.2 ⟨a,ha,by simp[g]⟩
    cases this
   .rfl
 .have i1:¬(l.length:Int)<=most:=by omega
  go_enter Tryz.func167,Tryz.ntmps167
  go_wp2_with fail
  go_ret
  exact eP (fun hml=>hlen hml.1) K0.out
theorem CG (next:Int) (v:Value) (l:List Nf) (w:World) (h:aS w v l) (hr:cV l) (hl:l.length<=1000000):
  Calls Tryz.prog 168 #[.int .u32 next,v] w (dr (ki next l) w):=by
 obtain⟨p,c,rfl⟩:=h.shape
 have hq:=Ct (next:=next) (k:=0) hr
 have HQ:=Mb hq
 have j1:(l.length:Int)<=1000000:=by omega
 clear hq hr
 by_cases h1:1<=next
 .by_cases h0:l.length=0
  .have i0:(l.length:Int)=0:=by omega
   have hy:ki next l:=HQ.out.2 ⟨h1,Or.inl h0⟩
   have HY:=Mb hy
   rw[h0]
   clear hy h h0 i0 j1 hl
   go_enter Tryz.func168,Tryz.ntmps168
   go_wp2_with fail
   go_ret
   exact kS HY.out (aa.refl _ _)
  .have i0:¬(l.length:Int)=0:=by omega
   have Ot:¬l=[]:=fun e=>h0 (by rw[e];rfl)
   have U8:((l.length:Int)==0)=false:=by simpa using Ot
   obtain⟨m,hm⟩:∃m,l.length-1=m:=⟨_,rfl⟩
   have Sq:m<l.length:=by omega
   have e1:(l.length:Int)-1=(m:Int):=by omega
   have w1:IntKind.i64.wrap (m:Int)=(m:Int):=by rw[IntKind.wrap_i64];omega
   have i1:(m:Int)<l.length:=by omega
   have i2:(0:Int)<=m:=by omega
   obtain⟨b,off,kv,rfl,_,hb,Rt,Th,HA⟩:=h.jJ m Sq
   obtain⟨x0,x1,x2,x3⟩:=HA w (aa.refl _ _)
   have Q8:ki next l↔(l[m]'Sq).id<next:=by
    rw[HQ.out]
    subst hm
    constructor
    .rintro⟨_,h|⟨_,h⟩⟩
     .exact absurd h h0
     .exact h
    .intro h;exact⟨h1,Or.inr ⟨Sq,h⟩⟩
   have Va:=Mb Q8
   clear Q8 HQ hm h0 HA h
   generalize l[m]'Sq=A at*
   by_cases Ns:A.id<next
   .go_enter Tryz.func168,Tryz.ntmps168
    go_wp2_with fail
    go_ret
    exact kS (Va.out.2 Ns) (aa.refl _ _)
   .have NU:=Mb Ns
    go_enter Tryz.func168,Tryz.ntmps168
    go_wp2_with fail
    go_ret
    exact eP (fun q=>absurd (Va.out.1 q) (by have:=NU.out;omega)) (aa.refl _ _)
 .have H1:=Mb h1
  go_enter Tryz.func168,Tryz.ntmps168
  go_wp2_with fail
  go_ret
  exact eP (fun q=>absurd q.1 (by have:=H1.out;omega)) (aa.refl _ _)
open Classical in
noncomputable def lT (c:aj):Int:=if aM c then 0 else 110
def iE (c:aj) (w:World) (e:Ending) (w':World):Prop:=e=.returned (.int .i64 (lT c))/\aa [] w w'
theorem jA (h:¬aM c) (k:aa [] w w'):iE c w (.returned (.int .i64 110)) w':=by
 unfold iE lT;rw[if_neg h];exact⟨rfl,k⟩
theorem z8 (h:aM c) (k:aa [] w w'):iE c w (.returned (.int .i64 0)) w':=by
 unfold iE lT;rw[if_pos h];exact⟨rfl,k⟩
theorem CF (v:Value) (c:aj) (w:World) (h:cC w v c) (hl:iq c):
  Calls Tryz.prog 97 #[v] w (iE c w):=by
 obtain⟨vb,vm,vn,rfl,hb,hm,hn,_⟩:=h
 have HB:Hid (∀W,aa [] w W->Calls Tryz.prog 167 #[.int .i64 1,vb,.int .i64 2048] W (dr (fZ 1 c.boxes 2048) W)):=Mb (fun W q=>uE 1 vb _ 2048 W (hb.kept0 q) hl.1 (by decide) (by decide))
 have HM:Hid (∀W,aa [] w W->Calls Tryz.prog 167 #[.int .i64 2,vm,.int .i64 2048] W (dr (fZ 2 c.mans 2048) W)):=Mb (fun W q=>uE 2 vm _ 2048 W (hm.kept0 q) hl.2.1 (by decide) (by decide))
 have HN:Hid (∀W,aa [] w W->Calls Tryz.prog 167 #[.int .i64 3,vn,.int .i64 256] W (dr (fZ 3 c.names 256) W)):=Mb (fun W q=>uE 3 vn _ 256 W (hn.kept0 q) hl.2.2 (by decide) (by decide))
 have Xm:Hid (∀W,aa [] w W->fZ 1 c.boxes 2048->Calls Tryz.prog 168 #[.int .u32 c.nextBox,vb] W (dr (ki c.nextBox c.boxes) W)):=Mb (fun W q hr=>CG _ vb _ W (hb.kept0 q) hr.2.2 hl.1.1)
 have HAM:Hid (∀W,aa [] w W->fZ 2 c.mans 2048->Calls Tryz.prog 168 #[.int .u32 c.nextMan,vm] W (dr (ki c.nextMan c.mans) W)):=Mb (fun W q hr=>CG _ vm _ W (hm.kept0 q) hr.2.2 hl.2.1.1)
 obtain⟨p1,c1,rfl⟩:=hb.shape
 obtain⟨p2,c2,rfl⟩:=hm.shape
 obtain⟨p3,c3,rfl⟩:=hn.shape
 unfold dr at HB HM HN Xm HAM
 clear hb hm hn hl
 generalize c.boxes.length=l1 at*
 generalize c.mans.length=l2 at*
 generalize c.names.length=l3 at*
 generalize RH:c.nextBox=nb at*
 generalize hnm:c.nextMan=nm at*
 have X8:=Mb RH
 have Ye:=Mb hnm
 have oA:=ae.new w #[.int .u32 nb,.int .u32 nm,.slice p1 l1 c1,.slice p2 l2 c2,.slice p3 l3 c3] 52
 have k0:aa [] w (w.alloc (.cells #[.int .u32 nb,.int .u32 nm,.slice p1 l1 c1,.slice p2 l2 c2,.slice p3 l3 c3] 52)):=(aa.refl [] w).alloc _
 have K0:=Mb k0
 obtain⟨x0,x1,x2,x3,x4⟩:=oA.k5
 have OA:=Mb oA
 clear k0 oA RH hnm
 go_enter Tryz.func97,Tryz.ntmps97
 go_wp2_with fail
 refine(HB.out _ K0.out).mono ?_;rintro e w2 ⟨r1,rfl,e1,k2⟩
 have K2:=Mb (K0.out.trans k2)
 have E1:=Mb e1
 have Z4:=k2.own OA.out (by simp)
 obtain⟨x0,x1,x2,x3,x4⟩:=Z4.k5
 have UA:=Mb Z4
 clear e1 Z4
 cases r1 with
 |false=>
  go_wp2_with fail
  go_ret
  exact jA (fun q=>by have:=E1.out.2 q.boxes;cases this) K2.out
 |true=>
  have G1:=Mb (E1.out.1 rfl)
  go_wp2_with fail
  refine(Xm.out _ K2.out G1.out).mono ?_;rintro e w3 ⟨r2,rfl,e2,k3⟩
  have K3:=Mb (K2.out.trans k3)
  have E2:=Mb e2
  have oA3:=k3.own UA.out (by simp)
  obtain⟨x0,x1,x2,x3,x4⟩:=oA3.k5
  have OA3:=Mb oA3
  clear e2 oA3
  cases r2 with
  |false=>
   go_wp2_with fail
   go_ret
   exact jA (fun q=>by have:=E2.out.2 (by rw[<-X8.out];exact q.nb);cases this) K3.out
  |true=>
   have G2:=Mb (E2.out.1 rfl)
   go_wp2_with fail
   refine(HM.out _ K3.out).mono ?_;rintro e w4 ⟨r3,rfl,e3,k4⟩
   have K4:=Mb (K3.out.trans k4)
   have E3:=Mb e3
   have Qq:=k4.own OA3.out (by simp)
   obtain⟨x0,x1,x2,x3,x4⟩:=Qq.k5
   have Vp:=Mb Qq
   clear e3 Qq
   cases r3 with
   |false=>
    go_wp2_with fail
    go_ret
    exact jA (fun q=>by have:=E3.out.2 q.mans;cases this) K4.out
   |true=>
    have G3:=Mb (E3.out.1 rfl)
    go_wp2_with fail
    refine(HAM.out _ K4.out G3.out).mono ?_;rintro e w5 ⟨r4,rfl,e4,k5⟩
    have K5:=Mb (K4.out.trans k5)
    have E4:=Mb e4
    have oA5:=k5.own Vp.out (by simp)
    obtain⟨x0,x1,x2,x3,x4⟩:=oA5.k5
    clear e4 oA5
    cases r4 with
    |false=>
     go_wp2_with fail
     go_ret
     exact jA (fun q=>by have:=E4.out.2 (by rw[<-Ye.out];exact q.nm);cases this) K5.out
    |true=>
     have G4:=Mb (E4.out.1 rfl)
     go_wp2_with fail
     refine(HN.out _ K5.out).mono ?_;rintro e w6 ⟨r5,rfl,e5,k6⟩
     have K6:=Mb (K5.out.trans k6)
     have E5:=Mb e5
     clear e5
     cases r5 with
     |false=>
      go_wp2_with fail
      go_ret
      exact jA (fun q=>by have:=E5.out.2 q.names;cases this) K6.out
     |true=>
      have G5:=Mb (E5.out.1 rfl)
      go_wp2_with fail
      go_ret
      exact z8 ⟨G1.out,by rw[X8.out];exact G2.out,G3.out,by rw[Ye.out];exact G4.out,G5.out⟩ K6.out
end Go.Proofs.YtdkimcnlhmhpgaaGreat
namespace Go.Proofs.YtdkimcnlhmhpgaaGreat
open Go.RowKit
variable {w w':World} {g base i:Nat} {S:Nat->Prop} {l:List Nf} {v:Value} {vs:List (Nf×Value)} {x y:Nf}
theorem ae.iQ {b:Nat} {cs:Array Value} {t:TypeId} (h:ae w b cs t) (hb:b≠g) (x y z u:Value):ae ((((w.setCell ⟨g,0,none⟩ x).setCell ⟨g,1,none⟩ y).setCell ⟨g,2,none⟩ z).setCell ⟨g,3,none⟩ u) b cs t:=
 (((h.other (p:=⟨g,0,none⟩) hb x).other (p:=⟨g,1,none⟩) hb y).other (p:=⟨g,2,none⟩) hb z).other (p:=⟨g,3,none⟩) hb u
theorem aa.dU {S:List Nat} {w0:World} (h:aa S w0 w) (hg:g∈S\/w0.heap.size<=g) (x y z u:Value):aa S w0 ((((w.setCell ⟨g,0,none⟩ x).setCell ⟨g,1,none⟩ y).setCell ⟨g,2,none⟩ z).setCell ⟨g,3,none⟩ u):=
 (((h.setCell (p:=⟨g,0,none⟩) hg x).setCell (p:=⟨g,1,none⟩) hg y).setCell (p:=⟨g,2,none⟩) hg z).setCell (p:=⟨g,3,none⟩) hg u
def cN (S:Nat->Prop) (L:List Nf×Int) (w:World) (e:Ending) (w':World):Prop:=∃v,e=.returned (.tuple #[v,.int .i64 L.2])/\ax S w' v L.1/\aa [] w w'
theorem fz {L:List Nf×Int} {C:Int} (h:L=(l,C)) (h1:ax S w' v l) (k:aa [] w w'):cN S L w (.returned (.tuple #[v,.int .i64 C])) w':=by
 subst h;exact⟨v,rfl,h1,k⟩
theorem aS.J4 {xv:Value} (hi:i<vs.length) (h:w'.ownsRow base 113 4 v vs.length ((Nx vs).take (i*4)++PZ x xv++(Nx vs).drop ((i+1)*4))) (hS:∀x,S x->x<base) (h3:∀y∈vs,bd w y/\bJ S y.2 y.1.runs.length) (hx:bd w' (x,xv)/\bJ S xv x.runs.length) (k:aa [] w w'):ax S w' v (jd (vs.map (·.1)) i x):=by
 have em:(vs.take i++[(x,xv)]++vs.drop (i+1)).map (·.1)=jd (vs.map (·.1)) i x:=by
  unfold jd
  rw[Ms,Ms,List.map_take,List.map_drop]
  simp
 rw[<-em]
 refine ax.bo (base:=base) ?_ hS (fun y hy=>?_)
 .have e1:(vs.take i++[(x,xv)]++vs.drop (i+1)).length=vs.length:=by
   rw[Mc,Mc,Mp,Mq,MT];omega
  rw[e1,fK,fK,<-mR,<-jY]
  exact h
 .rcases Mj.1 hy with hy|hy
  .rcases Mj.1 hy with hy|hy
   .have:=h3 y (List.mem_of_mem_take hy);exact⟨this.1.kept0 k,this.2⟩
   .have:y=(x,xv):=by simpa using hy
    subst this;exact hx
  .have:=h3 y (Nb hy);exact⟨this.1.kept0 k,this.2⟩
theorem Ij {cap n:Nat} {cur:List Value} (o:ae w g cur.toArray 113) (hb:base<=g) (hn:n<=cap) (hc:cap<=maxLen) (hl:cur.length=cap*4) (hi:i<n) (a b c d:Value):
  (w.setCells g (i*4) [a,b,c,d]).ownsRow base 113 4 (.slice (some ⟨g,0,none⟩) n cap) n ((cur.take (n*4)).take (i*4)++[a,b,c,d]++(cur.take (n*4)).drop ((i+1)*4)):=by
 have N4:i*4+[a,b,c,d].length<=cur.length:=by rw[hl];show _+4<=_;omega
 have h1:=kK (base:=base) (n:=n) (cap:=cap) (o.pM [a,b,c,d] (i*4) N4) hb hn hc (by rw[gZ N4,hl])
 have e:(cF cur (i*4) [a,b,c,d]).take (n*4)=(cur.take (n*4)).take (i*4)++[a,b,c,d]++(cur.take (n*4)).drop ((i+1)*4):=by
  have UI:(cur.take (i*4)).length=i*4:=by rw[Mp];omega
  have hn4:n*4=i*4+4+(n*4-(i*4+4)):=by omega
  unfold cF
  rw[List.take_take,Nat.min_eq_left (by omega),<-Mi,List.take_append,Mk (by rw[Mc,UI];show _+4<=_;omega),List.drop_take]
  congr 1
  rw[Mc,UI,show(i+1)*4=i*4+[a,b,c,d].length from by show _=_+4;omega]
 rw[e]at h1
 exact h1
def nA (q turns:Bool) (l:List Nf) (x:Nf) (next:Int) (most:Nat):List Nf×Int:=if q&&turns then(jd l (NP l x) x,0)else if q||decide (x.id<next)then([],252)else if decide (most<=l.length)then([],240)else(P0 l x,0)
theorem Ee {next:Int} {most:Nat} {turns q:Bool} (hr:cV l) (hq:q=true↔dV l x):NL l x next most turns=nA q turns l x next most:=by
 unfold NL nA
 cases q with
 |true=>
  have hh:=hq.1 rfl
  cases turns with
  |true=>rw[if_pos ⟨hh,rfl⟩,lH hr hh];rfl
  |false=>rw[if_neg (by simp),if_pos (Or.inl hh)];rfl
 |false=>
  have hh:¬dV l x:=fun h=>by have:=hq.2 h;cases this
  rw[if_neg (by simp[hh])]
  by_cases h1:x.id<next
  .rw[if_pos (Or.inr h1)];simp[h1]
  .rw[if_neg (by simp[hh,h1])]
   simp[h1]
theorem M67 {A:Prop}(h:A:=by
 go_wp2_with fail
 go_ret2
 exact fz HE.out (ax.nil _ _) K3.out):A:=h
theorem wQ (v:Value) (l:List Nf) (r:ag) (rv:Value) (next:Int) (most:Nat) (turns:Bool) (w:World) (h:ax S w v l) (hS:∀x,S x->x<w.heap.size) (hl:l.length<=100000) (hr:cV l) (OQ:af w rv r.runs 0 w.heap.size) (hf:r.fits) (Ox:∀a∈r.runs,aU a) (Po:r.runs.length<=1000000) (hmo:most<=1000000):
  Calls Tryz.prog 171 #[v,.agg (r.cells rv),.int .u32 next,.int .i64 most,.bool turns] w (cN S (NL l r.item next most turns) w):=by
 have HC:Hid (∀W,aa [] w W->Calls Tryz.prog 69 #[rv] W (bG r.runs W)):=Mb (fun W q=>lj rv r.runs _ _ W (OQ.kept0 q) Po)
 have Z9:Hid (∀W u,W.ownsRow w.heap.size 128 2 u r.runs.length (No r.runs)->bd W (r.item,u)/\bJ S u r.runs.length):=Mb (fun W u ho=>⟨⟨(af.bo ho).jK,ag.jk hf,Ox⟩,bJ.row ho hS _⟩)
 have HS:Hid (∀W u,aa [] w W->Calls Tryz.prog 234 #[v,.agg (r.item.cells u),.func (.func 233) #[] #[]] W (gJ l r.item W)):=Mb (fun W u q=>AO v l r.item u W (h.plain.kept0 q) (by omega) hr)
 have HI:Hid (∀W u,aa [] w W->bd W (r.item,u)/\bJ S u r.runs.length->Calls Tryz.prog 235 #[v,.agg (r.item.cells u),.func (.func 233) #[] #[]] W (nK S (P0 l r.item) W)):=Mb (fun W u q hx=>LN v l r.item u W (h.kept0 q) (fun x hx=>Mo (hS x hx) q.size) hl hr hx)
 have HT:Hid (∀q:Bool,(q=true↔dV l r.item)->NL l r.item next most turns=nA q turns l r.item next most):=Mb (fun q hq=>Ee hr hq)
 have HSX:=Mb hS
 have Rw:Hid (dV l r.item->NP l r.item<l.length):=Mb (fun hh=>by rw[lH hr hh];exact hh)
 obtain⟨vs,hvs,Qe,OJ,_⟩:=h
 have hlv:vs.length=l.length:=by rw[<-hvs,Mm]
 have Q1:∀y∈vs,iF y.2:=fun y hy=>(OJ y hy).1.iN
 have Sn:Hid (∀W,aa [] w W->Calls Tryz.prog 127 #[v] W fun e w'=>∃v',e=.returned v'/\w'.ownsRow W.heap.size 113 4 v' l.length (Nx vs)/\aa [] W w'):=Mb (fun W q=>by rw[<-hlv];exact td v vs.length (Nx vs) W (Qe.kept0 q) (iA Q1) (by omega))
 obtain⟨pv,cv,rfl⟩:=Qe.shape
 rw[hlv]at HS HI Sn ⊢
 obtain⟨Q7,crr,rfl⟩:=OQ.shape
 have WO:Hid (∀w' base v' u,(∀x,S x->x<base)->NP l r.item<l.length->w'.ownsRow base 113 4 v' l.length ((Nx vs).take (NP l r.item*4)++PZ r.item u++(Nx vs).drop ((NP l r.item+1)*4))->bd w' (r.item,u)/\bJ S u r.runs.length->aa [] w w'->ax S w' v' (jd l (NP l r.item) r.item)):=Mb (fun w' base v' u hSb hp ho hx k=>by
  rw[<-hvs]at hp ho ⊢
  rw[Mm]at hp ho
  exact aS.J4 hp ho hSb OJ hx k)
 have oR:=ae.new w (r.cells (.slice Q7 r.runs.length crr)) 102
 have k0:aa [] w (w.alloc (.cells (r.cells (.slice Q7 r.runs.length crr)) 102)):=(aa.refl _ _).alloc _
 unfold ag.cells at oR k0 ⊢
 unfold Nf.cells at HS HI
 have er1:r.item.id=r.id:=rfl
 have er2:r.item.name=r.name:=rfl
 have er3:r.item.size=r.size:=rfl
 rw[er1,er2,er3]at HS HI
 obtain⟨x0,x1,x2,x3,x4⟩:=oR.k5
 have OR:=Mb oR
 have K0:=Mb k0
 have j1:(l.length:Int)<=1000000:=by omega
 have j2:(most:Int)<=1000000:=by omega
 clear oR k0 Qe OJ Q1 hlv hvs OQ hf Ox hr er1 er2 er3 hS
 unfold bG at HC
 unfold gJ at HS
 unfold nK at HI
 go_enter Tryz.func171,Tryz.ntmps171
 go_upto_region 1 with fail
 go_cut [12]from 16 to 25 (fun v12 wx=>∃xb u,v12=.pointer (some ⟨xb,0,none⟩)/\ae wx xb #[.int .u32 r.id,.string (bs r.name),.int .i64 r.size,u] 113/\(bd wx (r.item,u)/\bJ S u r.runs.length)/\ae wx w.heap.size #[.int .i64 r.kind,.int .u32 r.id,.string (bs r.name),.int .i64 r.size,.slice Q7 r.runs.length crr] 102/\aa [] w wx/\w.heap.size<=xb)
 case first=>
  refine Ml (S:=(fun W=>W.cell? ⟨w.heap.size,0,none⟩=some (.int .i64 r.kind)/\W.cell? ⟨w.heap.size,1,none⟩=some (.int .u32 r.id)/\W.cell? ⟨w.heap.size,2,none⟩=some (.string (bs r.name))/\W.cell? ⟨w.heap.size,3,none⟩=some (.int .i64 r.size)/\W.cell? ⟨w.heap.size,4,none⟩=some (.slice Q7 r.runs.length crr))) (by kernel_rfl) (by exact OR.out.drew.k5) (fun hHeld=>?_)
  refine tk 0 16 ?_
  refine tk 1 17 ?_
  refine tk 2 18 ?_
  refine tk 3 19 ?_
  refine tk 4 20 ?_
  refine tk 5 21 ?_
  refine tk 6 22 ?_
  refine tk 7 23 ?_
  refine wpAnyH_ready (rs:=[8,10]) (by kernel_rfl) (by simp) ?_
  refine(AllReadyH.cons rfl (fun K hK=>?_) (AllReadyH.cons rfl (fun K hK=>?_) AllReadyH.nil))
  .go_simp
   ((with_reducible refine(HC.out _ K0.out.drew).mono ?_));rintro e w5 ⟨u5,rfl,r5,k5⟩
   have K5:=Mb ((K0.out.drew).trans k5)
   have o5:=k5.own OR.out.drew (by simp)
   have O5:=Mb o5
   have R5:=Mb r5
   clear r5 o5
   obtain⟨pu,cu,rfl⟩:=ai R5.out
   go_wp2_with fail
   refine hK.out _ _ ?_ (fun hHeld=>nm ?_)
   .exact O5.out.k5
   clear hK K
   refine tk 9 25 ?_
   refine rd 10 (fun K hK=>?_)
   go_simp
   refine hK.out _ _ ?_ (fun hHeld=>nm ?_)
   .go_keep
   clear hK K
   refine rd 11 (fun K hK=>?_)
   go_simp
   refine hK.out _ _ ?_ (fun hHeld=>nm ?_)
   .go_keep
   clear hK K
   refine MM (by kernel_rfl) ?_ _
   go_wp2_with fail
   go_meet
   exact⟨_,_,rfl,ae.new _ _ _,⟨(Z9.out _ _ (aH R5.out K0.out.size)).1.kept0 ((aa.refl _ _).alloc _),(Z9.out _ _ (aH R5.out K0.out.size)).2⟩,O5.out.alloc _,K5.out.alloc _,K5.out.size⟩
  .go_simp
   refine hK.out _ _ ?_ (fun hHeld=>nm ?_)
   .go_keep
   clear hK K
   have KB:=Mb ((K0.out.alloc (.cells #[.int .u32 0,.string {data:=#[]},.int .i64 0,.slice none 0 0] 113)).drew)
   have OXB:=Mb ((ae.new (w.alloc (.cells #[.int .i64 r.kind,.int .u32 r.id,.string (bs r.name),.int .i64 r.size,.slice Q7 r.runs.length crr] 102)).drew #[.int .u32 0,.string {data:=#[]},.int .i64 0,.slice none 0 0] 113))
   have OB:=Mb ((OR.out.alloc (.cells #[.int .u32 0,.string {data:=#[]},.int .i64 0,.slice none 0 0] 113)).drew)
   refine rd 8 (fun K hK=>?_)
   go_simp
   ((with_reducible refine(HC.out _ KB.out).mono ?_));rintro e w5 ⟨u5,rfl,r5,k5⟩
   have K5:=Mb ((KB.out).trans k5)
   have o5:=k5.own OB.out (by simp)
   have O5:=Mb o5
   have R5:=Mb r5
   clear r5 o5
   obtain⟨pu,cu,rfl⟩:=ai R5.out
   go_wp2_with fail
   refine hK.out _ _ ?_ (fun hHeld=>nm ?_)
   .exact O5.out.k5
   clear hK K
   have XV:=k5.own OXB.out (by simp)
   simp only[MK,World.size_drew]at XV
   have OX5:=Mb XV
   obtain⟨z0,z1,z2,z3⟩:=XV.c4
   obtain⟨y0,y1,y2,y3⟩:=XV.z4
   refine tk 9 25 ?_
   refine rd 11 (fun K hK=>?_)
   go_simp
   refine hK.out _ _ ?_ (fun hHeld=>nm ?_)
   .exact(O5.out.iQ (Nat.ne_of_lt (Nat.lt_succ_self _)) _ _ _ _).k5
   clear hK K
   refine MM (by kernel_rfl) ?_ _
   go_wp2_with fail
   go_meet
   exact⟨_,_,rfl,OX5.out.dU _ _ _ _,Z9.out _ _ (cw (aH R5.out KB.out.size) ((aa.refl [w.heap.size+1] w5).dU (Or.inl (by simp)) _ _ _ _) OX5.out (by decide)),O5.out.iQ (Nat.ne_of_lt (Nat.lt_succ_self _)) _ _ _ _,K5.out.dU (Or.inr (Nat.le_succ _)) _ _ _ _,Nat.le_succ _⟩
 case rest=>
  obtain⟨xb,u,rfl,hX,hIO,hR,hK,hxb⟩:=hcut
  have HX:=Mb hX
  have Zn:=Mb hIO
  have HR:=Mb hR
  have HK:=Mb hK
  obtain⟨pu,nu,cu,rfl⟩:iF u:=hIO.1.iN
  obtain⟨x0,x1,x2,x3⟩:=hX.c4
  clear hX hIO hR hK
  go_wp2_with fail
  refine(HS.out _ _ HK.out).mono ?_;rintro e w3 ⟨q,rfl,hq,k3⟩
  have HT2:=Mb (HT.out q hq)
  have HP2:Hid (q=true->NP l r.item<l.length):=Mb (fun hh=>Rw.out (hq.1 hh))
  have K3:=Mb (HK.out.trans k3)
  have X3:=Mb (k3.own HX.out (by simp))
  have R3:=Mb (k3.own HR.out (by simp))
  have I3:=Mb (And.intro (Zn.out.1.kept0 k3) Zn.out.2)
  obtain⟨x0,x1,x2,x3⟩:=X3.out.c4
  obtain⟨y0,y1,y2,y3,y4⟩:=R3.out.k5
  clear hq HT Rw
  cases q with
  |true=>
   have hp:=HP2.out rfl
   cases turns with
   |true=>
    have HE:Hid (NL l r.item next most true=(jd l (NP l r.item) r.item,0)):=Mb (by rw[HT2.out];rfl)
    go_wp2_with fail
    refine(Sn.out _ K3.out).mono ?_;rintro e w4 ⟨v4,rfl,r4,k4⟩
    have K4:=Mb (K3.out.trans k4)
    have X4:=Mb (k4.own X3.out (by simp))
    have I4:=Mb (I3.out.1.kept0 k4)
    obtain⟨x0,x1,x2,x3⟩:=X4.out.c4
    rcases r4.2 with⟨_,h0⟩|⟨g,cap,cur0,rfl,hb,hg,hnc,Pb,SK,htake⟩
    .omega
    .obtain⟨cur,rfl⟩:∃cur:List Value,cur0=cur.toArray:=⟨cur0.toList,by simp⟩
     have o4:ae w4 g cur.toArray 113:=hg
     have Pe:cur.length=cap*4:=by simpa using SK
     have Pc:cur.take (l.length*4)=Nx vs:=by simpa using htake
     have QI:=Ij o4 hb hnc Pb Pe hp (.int .u32 r.id) (.string (bs r.name)) (.int .i64 r.size) (.slice pu nu cu)
     rw[Pc]at QI
     have hgx:xb≠g:=fun e=>by
      have h1:=X3.out.lt
      omega
     have QC:aa [] w (w4.setCells g (NP l r.item*4) [.int .u32 r.id,.string (bs r.name),.int .i64 r.size,.slice pu nu cu]):=fU (Or.inr (by have:=K3.out.size;omega)) _ _ K4.out
     have UY:bd (w4.setCells g (NP l r.item*4) [.int .u32 r.id,.string (bs r.name),.int .i64 r.size,.slice pu nu cu]) (r.item,.slice pu nu cu):=by
      have Rp:aa [g] w4 (w4.setCells g (NP l r.item*4) [.int .u32 r.id,.string (bs r.name),.int .i64 r.size,.slice pu nu cu]):=fU (Or.inl (by simp)) _ _ (aa.refl _ _)
      have h1:af w4 (.slice pu nu cu) r.item.runs 0 w3.heap.size:=af.kept0 I3.out.1.1 k4
      exact⟨(h1.kept Rp (fun x hx=>by
        have:x=g:=by simpa using hx
        subst this;exact Or.inr hb)).jK,I3.out.1.2⟩
     have R2:=WO.out _ w3.heap.size _ (.slice pu nu cu) (fun x hx=>Mo (HSX.out x hx) K3.out.size) hp QI ⟨UY,I3.out.2⟩ QC
     have acT:=Mb R2
     have Sg:=Mb QC
     have VK:∀j,j<4->NP l r.item*4+j<cur.length:=fun j hj=>by omega
     obtain⟨q0,z0⟩:∃q,w4.cell? ⟨g,NP l r.item*4,none⟩=some q:=⟨_,o4.gm (NP l r.item*4) (by have:=VK 0 (by omega);omega)⟩
     obtain⟨q1,z1⟩:∃q,w4.cell? ⟨g,NP l r.item*4+1,none⟩=some q:=⟨_,o4.gm (NP l r.item*4+1) (VK 1 (by omega))⟩
     obtain⟨q2,z2⟩:∃q,w4.cell? ⟨g,NP l r.item*4+2,none⟩=some q:=⟨_,o4.gm (NP l r.item*4+2) (VK 2 (by omega))⟩
     obtain⟨q3,z3⟩:∃q,w4.cell? ⟨g,NP l r.item*4+3,none⟩=some q:=⟨_,o4.gm (NP l r.item*4+3) (VK 3 (by omega))⟩
     have f0:=o4.free (NP l r.item*4)
     have f1:=o4.free (NP l r.item*4+1)
     have f2:=o4.free (NP l r.item*4+2)
     have f3:=o4.free (NP l r.item*4+3)
     have i1:(NP l r.item:Int)<l.length:=by omega
     have i2:(l.length:Int)<=cap:=by omega
     clear R2 QC UY QI VK o4 hg r4 Pc htake SK Pe
     go_wp2_with fail
     go_ret2
     exact fz HE.out acT.out Sg.out
   |false=>
    have HE:Hid (NL l r.item next most false=([],252)):=Mb (by rw[HT2.out];rfl)
    exact M67
  |false=>
   by_cases g1:r.id<next
   .have HE:Hid (NL l r.item next most turns=([],252)):=Mb (by rw[HT2.out];unfold nA;rw[show(decide (r.item.id<next))=true from MQ g1];rfl)
    exact M67
   .by_cases g2:most<=l.length
    .have HE:Hid (NL l r.item next most turns=([],240)):=Mb (by rw[HT2.out];unfold nA;rw[show(decide (r.item.id<next))=false from MN g1,MQ g2];rfl)
     have i1:(most:Int)<=l.length:=by omega
     exact M67
    .have HE:Hid (NL l r.item next most turns=(P0 l r.item,0)):=Mb (by rw[HT2.out];unfold nA;rw[show(decide (r.item.id<next))=false from MN g1,MN g2];rfl)
     have i1:¬(most:Int)<=l.length:=by omega
     go_wp2_with fail
     refine(HI.out _ _ K3.out I3.out).mono ?_;rintro e w4 ⟨v4,rfl,h4,k4⟩
     have H4:=Mb h4
     have K4:=Mb (K3.out.trans k4)
     clear h4
     go_wp2_with fail
     go_ret2
     exact fz HE.out H4.out K4.out
theorem Bu (h:fa x y=true) (l:List Nf):NP l x=NP l y:=by
 unfold NP
 congr 2
 funext a
 exact mO h
theorem BU (h:fa x y=true) (l:List Nf):gA l x=gA l y:=by
 unfold gA
 congr 2
 funext a
 rw[zV h]
theorem BY (h:fa x y=true) (l:List Nf):dV l x↔dV l y:=by
 unfold dV;rw[BU h]
theorem aS.Kg (hi:i<vs.length) (h:w'.ownsRow base 113 4 v (vs.length-1) ((Nx vs).take (i*4)++(Nx vs).drop ((i+1)*4))) (hS:∀x,S x->x<base) (h3:∀y∈vs,bd w y/\bJ S y.2 y.1.runs.length) (k:aa [] w w'):ax S w' v (ik (vs.map (·.1)) i):=by
 have em:(vs.take i++vs.drop (i+1)).map (·.1)=ik (vs.map (·.1)) i:=by
  unfold ik
  rw[Ms,List.map_take,List.map_drop]
 rw[<-em]
 refine ax.bo (base:=base) ?_ hS (fun y hy=>?_)
 .have e1:(vs.take i++vs.drop (i+1)).length=vs.length-1:=by
   rw[Mc,Mp,Mq];omega
  rw[e1,fK,<-mR,<-jY]
  exact h
 .rcases Mj.1 hy with hy|hy
  .have:=h3 y (List.mem_of_mem_take hy);exact⟨this.1.kept0 k,this.2⟩
  .have:=h3 y (Nb hy);exact⟨this.1.kept0 k,this.2⟩
theorem AU (v:Value) (l:List Nf) (r:ag) (rv:Value) (w:World) (h:ax S w v l) (hS:∀x,S x->x<w.heap.size) (hl:l.length<=100000) (hr:cV l) (hs:iF rv):
  Calls Tryz.prog 172 #[v,.agg (r.cells rv)] w (cN S (Of l r.item) w):=by
 have hek:fa (⟨r.id,r.name,0,[]⟩:Nf) r.item=true:=by unfold fa ag.item;simp
 have HS:Hid (∀W,aa [] w W->Calls Tryz.prog 234 #[v,.agg #[.int .u32 r.id,.string (bs r.name),.int .i64 0,.slice none 0 0],.func (.func 233) #[] #[]] W fun e w'=>∃q,e=.returned (.tuple #[.int .i64 (NP l r.item),.bool q])/\(q=true↔dV l r.item)/\aa [] W w'):=Mb (fun W q=>by
  have hh:=AO v l ⟨r.id,r.name,0,[]⟩ (.slice none 0 0) W (h.plain.kept0 q) (by omega) hr
  unfold gJ at hh
  rw[Bu hek,BY hek]at hh
  exact hh)
 have HSX:=Mb hS
 have HG0:Hid (¬dV l r.item->Of l r.item=([],6)):=Mb (fun hh=>by unfold Of;rw[if_neg hh])
 have HG1:Hid (dV l r.item->Of l r.item=(ik l (NP l r.item),0)/\NP l r.item<l.length):=Mb (fun hh=>by
  unfold Of;rw[if_pos hh,lH hr hh];exact⟨rfl,hh⟩)
 obtain⟨vs,hvs,Qe,OJ,_⟩:=h
 have hlv:vs.length=l.length:=by rw[<-hvs,Mm]
 have Q1:∀y∈vs,iF y.2:=fun y hy=>(OJ y hy).1.iN
 have Sn:Hid (∀W,aa [] w W->Calls Tryz.prog 127 #[v] W fun e w'=>∃v',e=.returned v'/\w'.ownsRow W.heap.size 113 4 v' l.length (Nx vs)/\aa [] W w'):=Mb (fun W q=>by rw[<-hlv];exact td v vs.length (Nx vs) W (Qe.kept0 q) (iA Q1) (by omega))
 have HD:Hid (∀W v' base,W.ownsRow base 113 4 v' l.length (Nx vs)->NP l r.item<l.length->Calls Tryz.prog 236 #[v',.int .i64 (NP l r.item),.int .i64 ((NP l r.item+1:Nat):Int)] W (iD base v' (l.length-1) ((Nx vs).take (NP l r.item*4)++(Nx vs).drop ((NP l r.item+1)*4)) W)):=Mb (fun W v' base ho hp=>Hj base v' l.length (Nx vs) _ _ W ho (iA Q1) hp rfl)
 have V4:Hid (∀w' base v',(∀x,S x->x<base)->NP l r.item<l.length->w'.ownsRow base 113 4 v' (l.length-1) ((Nx vs).take (NP l r.item*4)++(Nx vs).drop ((NP l r.item+1)*4))->aa [] w w'->ax S w' v' (ik l (NP l r.item))):=Mb (fun w' base v' hSb hp ho k=>by
  rw[<-hvs]at hp ho ⊢
  rw[Mm]at hp ho
  exact aS.Kg hp ho hSb OJ k)
 obtain⟨pv,cv,rfl⟩:=Qe.shape
 rw[hlv]at HS Sn ⊢
 obtain⟨Q7,nrr,crr,rfl⟩:=hs
 have oR:=ae.new w (r.cells (.slice Q7 nrr crr)) 102
 have k0:aa [] w (w.alloc (.cells (r.cells (.slice Q7 nrr crr)) 102)):=(aa.refl _ _).alloc _
 unfold ag.cells at oR k0 ⊢
 obtain⟨x0,x1,x2,x3,x4⟩:=oR.k5
 have K0:=Mb k0
 have j1:(l.length:Int)<=1000000:=by omega
 clear oR k0 Qe OJ Q1 hlv hvs hr hek hS
 unfold iD at HD
 go_enter Tryz.func172,Tryz.ntmps172
 go_wp2_with fail
 refine(HS.out _ K0.out).mono ?_;rintro e w3 ⟨q,rfl,hq,k3⟩
 have K3:=Mb (K0.out.trans k3)
 have HQ:=Mb hq
 clear hq
 cases q with
 |false=>
  have HE:=Mb (HG0.out (fun hh=>by have:=HQ.out.2 hh;cases this))
  exact M67
 |true=>
  obtain⟨he,hp⟩:=HG1.out (HQ.out.1 rfl)
  have HE:=Mb he
  have HP:=Mb hp
  have adY:((NP l r.item:Nat):Int)+1=((NP l r.item+1:Nat):Int):=by omega
  have Su:IntKind.i64.wrap ((NP l r.item+1:Nat):Int)=((NP l r.item+1:Nat):Int):=by rw[IntKind.wrap_i64];omega
  clear he hp
  generalize NP l r.item+1=P1 at*
  go_wp2_with fail
  refine(Sn.out _ K3.out).mono ?_;rintro e w4 ⟨v4,rfl,r4,k4⟩
  have K4:=Mb (K3.out.trans k4)
  have R4:=Mb r4
  obtain⟨p4,c4,rfl⟩:=ai r4
  clear r4
  go_wp2_with fail
  refine(HD.out _ _ _ R4.out HP.out).mono ?_;rintro e w5 ⟨v5,rfl,r5,Ri⟩
  have Ps:=oE K4.out (fun g hg=>by have h1:=(Mn R4.out g hg).1;have h2:=K3.out.size;omega) Ri
  have h5:=V4.out _ w3.heap.size _ (fun x hx=>Mo (HSX.out x hx) K3.out.size) HP.out r5 Ps
  have H5:=Mb h5
  have K6:=Mb Ps
  clear h5 Ps r5 Ri
  go_wp2_with fail
  go_ret2
  exact fz HE.out H5.out K6.out
end Go.Proofs.YtdkimcnlhmhpgaaGreat

/- -/
import Derived.Test.YtdkimcnlhmhpgaaGreatK23
import Derived.Test.YtdkimcnlhmhpgaaGreatK24
set_option maxHeartbeats 16000000
set_option maxRecDepth 100000
set_option linter.unusedVariables false
namespace Go.Proofs.YtdkimcnlhmhpgaaGreat
open Go.RowKit
variable {T:List Nat} {w:World} {b sb mb lo:Nat} {n:Int}
theorem mw (m:Nat):∀(fs:List (DK->DK×Int)),(∀f∈fs,∀d,(f d).1.ops<=d.ops+m/\(f d).1.waits.length<=d.waits.length+m/\(f d).1.stand.length=d.stand.length)->∀d,(ah fs d).1.ops<=d.ops+fs.length*m/\(ah fs d).1.waits.length<=d.waits.length+fs.length*m/\(ah fs d).1.stand.length=d.stand.length
 |[],_,d=>⟨by simp[ah],by simp[ah],rfl⟩
 |f::fs,h,d=>by
  have h1:=h f (by simp) d
  have h2:=mw m fs (fun g hg=>h g (by simp[hg])) (f d).1
  unfold ah
  rw[Mz,Nat.add_mul]
  split
  .exact⟨by omega,by omega,h2.2.2.trans h1.2.2⟩
  .exact⟨by omega,by omega,h1.2.2⟩
theorem gY (i:Int) (s:List UInt8) (d:DK):(Nq i s d).1.ops<=d.ops+1/\(Nq i s d).1.waits.length<=d.waits.length+1/\(Nq i s d).1.stand.length=d.stand.length:=fk d i s
theorem fO (d:DK):(Ni d).1.ops<=d.ops+1/\(Ni d).1.waits.length<=d.waits.length+1/\(Ni d).1.stand.length=d.stand.length:=by
 obtain⟨h1,h2,h3⟩:=D8 d
 exact⟨h1,by show(bL d).waits.length<=_;omega,h3⟩
theorem jQ (s:SB) (d:DK):(aE s d).1.ops<=d.ops+2/\(aE s d).1.waits.length<=d.waits.length+2/\(aE s d).1.stand.length=d.stand.length:=by
 refine mw 1 [Nq ((s.seq%2:Nat):Int) s.sector,Ni] (fun f hf d=>?_) d
 simp only[List.mem_cons,List.not_mem_nil,or_false]at hf
 rcases hf with rfl|rfl
 .exact gY _ _ _
 .exact fO _
structure VS where
 d:DK
 s:SB
 c:aj
 dead:Bool
def bf (b:Nat) (s:SB) (sv:Value) (c:aj) (vb vm vn:Value) (dead:Bool):Array Value:=#[.pointer (some ⟨b,0,none⟩),.int .u64 s.seq,.int .i64 s.sectors,.int .i64 s.journal,.int .i64 s.used,.int .i64 s.size,sv,.int .u32 c.nextBox,.int .u32 c.nextMan,vb,vm,vn,.bool dead]
structure ay (T:List Nat) (w:World) (B b sb mb lo:Nat) (v:VS):Prop where
 da:DA w b sb mb lo v.d
 vol:∃sv vb vm vn,ae w B (bf b v.s sv v.c vb vm vn v.dead) 90/\b8 T w b sb mb sv v.s.runs/\cO T w b sb mb (.agg #[.int .u32 v.c.nextBox,.int .u32 v.c.nextMan,vb,vm,vn]) v.c
 hB:B∈T
 hT:∀x∈T,x<w.heap.size
 off:aW [] w b sb mb B
theorem ay.pk {S:List Nat} {w':World} {B:Nat} {v:VS} {d':DK} (h:ay T w B b sb mb lo v) (k:PK S b sb mb w w') (hD:DA w' b sb mb lo d') (hS:∀x∈S,x∈T) (hBS:B∉S):ay T w' B b sb mb lo ⟨d',v.s,v.c,v.dead⟩:=by
 obtain⟨sv,vb,vm,vn,h1,h2,h3⟩:=h.vol
 have ON:aW S w b sb mb B:=⟨hBS,h.off.2⟩
 exact⟨hD,⟨sv,vb,vm,vn,k.own h1 ON,h2.pk (k.mono hS),h3.pk (k.mono hS)⟩,h.hB,fun x hx=>Mo (h.hT x hx) k.size,⟨by simp,(ON.pk k h1.lt).2⟩⟩
def bW (n j:Int):SB:=⟨1,n,j,0,0,[]⟩
theorem lf {j:Int} (h1:1<=j) (h2:4<=n) (h3:j<=n-2) (h4:n<=8192):(bW n j).may:=
 ⟨⟨Md _,h2,h4,h1,h3,Int.le_refl _,by show(0:Int)<=j*128;omega,Int.le_refl _,by show(0:Int)<=1048576;omega,by show 0<=16;omega⟩,rfl,rfl⟩
def cz (j:Int) (d:DK):DK×Int:=ah [Nq 0 Nl,Nq 1 Nl,Ni,aE (bW d.stand.length j)] d
theorem Hx {T:List Nat} (n g1 g2 g3 g4 g5 g6 gS gD:Nat) (j:Int) (rv:Value) {w:World} {b sb mb lo:Nat} {d:DK} (hD:DA w b sb mb lo d) (hT:∀x∈T,x<w.heap.size)
  (on:ae w n #[.func (.func 87) #[] #[.pointer (some ⟨g1,0,none⟩),.pointer (some ⟨g2,0,none⟩),.pointer (some ⟨g3,0,none⟩)],.func (.func 87) #[] #[.pointer (some ⟨g4,0,none⟩),.pointer (some ⟨g5,0,none⟩),.pointer (some ⟨g6,0,none⟩)],.func (.func 39) #[.pointer (some ⟨b,0,none⟩)] #[],.func (.func 92) #[] #[.pointer (some ⟨gS,0,none⟩),.pointer (some ⟨gD,0,none⟩)]] 42)
  (h1:ae w g1 #[.pointer (some ⟨b,0,none⟩)] 23) (h2:ae w g2 #[.int .i64 0] 3) (h3:ae w g3 #[.string (bs Nl)] 9)
  (h4:ae w g4 #[.pointer (some ⟨b,0,none⟩)] 23) (h5:ae w g5 #[.int .i64 1] 3) (h6:ae w g6 #[.string (bs Nl)] 9)
  (hS:ae w gS ((bW d.stand.length j).cells (.slice none 0 0)) 58) (hd:ae w gD #[.pointer (some ⟨b,0,none⟩)] 23)
  (f0:aW T w b sb mb n) (f1:aW T w b sb mb g1) (f2:aW T w b sb mb g2) (f3:aW T w b sb mb g3) (f4:aW T w b sb mb g4) (f5:aW T w b sb mb g5) (f6:aW T w b sb mb g6) (fS:aW T w b sb mb gS) (fD:aW T w b sb mb gD)
  (hm:(bW d.stand.length j).may) (ho:d.ops<=80000) (hw:d.waits.length<=8000):
  Calls Tryz.prog 37 #[.slice (some ⟨n,0,none⟩) 4 4] w fun e w'=>e=.returned (.int .i64 (cz j d).2)/\DA w' b sb mb lo (cz j d).1/\PK T b sb mb w w':=by
 refine wG [Nq 0 Nl,Nq 1 Nl,Ni,aE (bW d.stand.length j)] [(87,#[],#[.pointer (some ⟨g1,0,none⟩),.pointer (some ⟨g2,0,none⟩),.pointer (some ⟨g3,0,none⟩)]),(87,#[],#[.pointer (some ⟨g4,0,none⟩),.pointer (some ⟨g5,0,none⟩),.pointer (some ⟨g6,0,none⟩)]),(39,#[.pointer (some ⟨b,0,none⟩)],#[]),(92,#[],#[.pointer (some ⟨gS,0,none⟩),.pointer (some ⟨gD,0,none⟩)])] rfl n 0 4 hD (by simp) (fun k h=>?_) on.lt f0 (fun k h=>?_) (fun k h W hW hk _=>?_)
 .match k,h with
  |0,_=>exact enters_of Tryz.func87 (by kernel_rfl) rfl
  |1,_=>exact enters_of Tryz.func87 (by kernel_rfl) rfl
  |2,_=>exact enters_of Tryz.func39 (by kernel_rfl) rfl
  |3,_=>exact enters_of Tryz.func92 (by kernel_rfl) rfl
 .match k,h with
  |0,_=>exact on.cell 0 (by simp)
  |1,_=>exact on.cell 1 (by simp)
  |2,_=>exact on.cell 2 (by simp)
  |3,_=>exact on.cell 3 (by simp)
 .have e1:=gY 0 Nl d
  have e2:=gY 1 Nl (Nq 0 Nl d).1
  have e3:=fO (Nq 1 Nl (Nq 0 Nl d).1).1
  match k,h with
  |0,_=>
   have:=uH (T:=T) g1 g2 g3 0 Nl hW (hk.own h1 f1) (hk.own h2 f2) (hk.own h3 f3) (by show d.ops<_;omega) (by show d.waits.length<=_;omega)
   exact this
  |1,_=>
   have:=uH (T:=T) g4 g5 g6 1 Nl hW (hk.own h4 f4) (hk.own h5 f5) (hk.own h6 f6) (by show(Nq 0 Nl d).1.ops<_;omega) (by show(Nq 0 Nl d).1.waits.length<=_;omega)
   exact this
  |2,_=>exact pF hW (by show(Nq 1 Nl (Nq 0 Nl d).1).1.ops<_;omega) (by show(Nq 1 Nl (Nq 0 Nl d).1).1.waits.length<=_;omega)
  |3,_=>
   have:=wZ (T:=T) gS gD (bW d.stand.length j) (.slice none 0 0) hW (fun x hx=>Mo (hT x hx) hk.size) (hk.own hS fS) (hk.own hd fD) (b8.nil none 0) hm (by show 1<_;omega) (fS.pk hk hS.lt) (fD.pk hk hd.lt) (by show(Ni (Nq 1 Nl (Nq 0 Nl d).1).1).1.ops<=_;omega) (by show(Ni (Nq 1 Nl (Nq 0 Nl d).1).1).1.waits.length<=_;omega)
   exact this
def vd (T:List Nat) (b sb mb lo:Nat) (d:DK) (j:Int) (w:World) (e:Ending) (w':World):Prop:=
 ((j<1\/(d.stand.length:Int)<4\/(d.stand.length:Int)-2<j)/\e=.returned (.tuple #[.pointer none,.int .i64 1])/\w=w')\/
 ((1<=j/\4<=(d.stand.length:Int)/\j<=(d.stand.length:Int)-2)/\DA w' b sb mb lo (cz j d).1/\PK T b sb mb w w'/\
  (((cz j d).2≠0/\e=.returned (.tuple #[.pointer none,.int .i64 (cz j d).2]))\/
  ((cz j d).2=0/\∃B,w.heap.size<=B/\aW [] w' b sb mb B/\ae w' B (bf b (bW d.stand.length j) (.slice none 0 0) ⟨1,1,[],[],[]⟩ (.slice none 0 0) (.slice none 0 0) (.slice none 0 0) false) 90/\e=.returned (.tuple #[.pointer (some ⟨B,0,none⟩),.int .i64 0]))))
theorem M45 {A:Prop}(h:A:=by
 go_wp2_with fail
 refine HDL.out.mono ?_;rintro e w' ⟨rfl,rfl⟩
 go_wp2_with fail
 go_ret2
 exact Or.inl ⟨by omega,rfl,rfl⟩):A:=h
theorem Ag (j:Int) {d:DK} (hD:DA w b sb mb lo d) (hT:∀x∈T,x<w.heap.size) (hj:(Lit.int .i64 j).wf=true) (ho:d.ops<=80000) (hw:d.waits.length<=8000):
  Calls Tryz.prog 10 #[.pointer (some ⟨b,0,none⟩),.int .i64 j] w (vd T b sb mb lo d j w):=by
 have hlen:=hD.len
 have Rk:=Vx b sb mb lo d w hD.disk
 obtain⟨j1,j2⟩:=fA hj
 obtain⟨n,hn⟩:∃n,d.stand.length=n:=⟨_,rfl⟩
 have HA:Hid (1<=j->4<=(n:Int)->j<=(n:Int)-2->∀W,aa [] w W->∀n1 g1 g2 g3 g4 g5 g6 gS gD,w.heap.size<=n1->w.heap.size<=g1->w.heap.size<=g2->w.heap.size<=g3->w.heap.size<=g4->w.heap.size<=g5->w.heap.size<=g6->w.heap.size<=gS->w.heap.size<=gD->
   ae W n1 #[.func (.func 87) #[] #[.pointer (some ⟨g1,0,none⟩),.pointer (some ⟨g2,0,none⟩),.pointer (some ⟨g3,0,none⟩)],.func (.func 87) #[] #[.pointer (some ⟨g4,0,none⟩),.pointer (some ⟨g5,0,none⟩),.pointer (some ⟨g6,0,none⟩)],.func (.func 39) #[.pointer (some ⟨b,0,none⟩)] #[],.func (.func 92) #[] #[.pointer (some ⟨gS,0,none⟩),.pointer (some ⟨gD,0,none⟩)]] 42->
   ae W g1 #[.pointer (some ⟨b,0,none⟩)] 23->ae W g2 #[.int .i64 0] 3->ae W g3 #[.string (bs Nl)] 9->
   ae W g4 #[.pointer (some ⟨b,0,none⟩)] 23->ae W g5 #[.int .i64 1] 3->ae W g6 #[.string (bs Nl)] 9->
   ae W gS #[.int .u64 1,.int .i64 n,.int .i64 j,.int .i64 0,.int .i64 0,.slice none 0 0] 58->ae W gD #[.pointer (some ⟨b,0,none⟩)] 23->
   Calls Tryz.prog 37 #[.slice (some ⟨n1,0,none⟩) 4 4] W fun e w'=>e=.returned (.int .i64 (cz j d).2)/\DA w' b sb mb lo (cz j d).1/\PK T b sb mb W w'):=Mb (fun c1 c2 c3 W k n1 g1 g2 g3 g4 g5 g6 gS gD a0 a1 a2 a3 a4 a5 a6 a7 a8 o0 o1 o2 o3 o4 o5 o6 o7 o8=>
  Hx n1 g1 g2 g3 g4 g5 g6 gS gD j (.slice none 0 0) (hD.aJ k) (fun x hx=>Mo (hT x hx) k.size) o0 o1 o2 o3 o4 o5 o6 (by rw[hn];exact o7) o8 (hD.bh hT k a0) (hD.bh hT k a1) (hD.bh hT k a2) (hD.bh hT k a3) (hD.bh hT k a4) (hD.bh hT k a5) (hD.bh hT k a6) (hD.bh hT k a7) (hD.bh hT k a8) (by rw[hn];exact lf c1 c2 c3 (by omega)) ho hw)
 have HW:Hid (∀i W,Calls Tryz.prog 38 #[.pointer (some ⟨b,0,none⟩),.int .i64 i,.string (bs Nl)] W fun e w'=>e=.returned (.func (.func 87) #[] #[.pointer (some ⟨W.heap.size,0,none⟩),.pointer (some ⟨W.heap.size+1,0,none⟩),.pointer (some ⟨W.heap.size+2,0,none⟩)])/\((W.alloc (.cells #[.pointer (some ⟨b,0,none⟩)] 23)).alloc (.cells #[.int .i64 i] 3)).alloc (.cells #[.string (bs Nl)] 9)=w'):=Mb (fun i W=>CQ b i Nl W)
 have HL:Hid (∀W,Calls Tryz.prog 40 #[.pointer (some ⟨b,0,none⟩),.agg #[.int .u64 1,.int .i64 n,.int .i64 j,.int .i64 0,.int .i64 0,.slice none 0 0]] W fun e w'=>e=.returned (.func (.func 92) #[] #[.pointer (some ⟨W.heap.size+1,0,none⟩),.pointer (some ⟨W.heap.size,0,none⟩)])/\(W.alloc (.cells #[.pointer (some ⟨b,0,none⟩)] 23)).alloc (.cells #[.int .u64 1,.int .i64 n,.int .i64 j,.int .i64 0,.int .i64 0,.slice none 0 0] 58)=w'):=Mb (fun W=>Ba b (bW n j) (.slice none 0 0) W)
 have HD:=Mb hD
 have HT:=Mb hT
 rw[hn]at Rk
 have i1:(1:Int)<=n:=by omega
 have i2:(n:Int)<=8192:=by omega
 have g0:((n:Int)==0)=false:=by rw[ME];omega
 unfold vd
 rw[hn]
 have HDL:=Mb Rk
 have UC:=rE
 have YP:=yV
 have hHN:=Mb hn
 clear hD hT Rk hj hlen hn ho hw
 generalize hF:cz j d=F at*
 generalize Nl=Z at*
 rcases(by omega:j<1\/(1<=j/\(n:Int)<4)\/(1<=j/\4<=(n:Int)/\(n:Int)-2<j)\/(1<=j/\4<=(n:Int)/\j<=(n:Int)-2))with c1|⟨c1,c2⟩|⟨c1,c2,c3⟩|⟨c1,c2,c3⟩
 .go_enter Tryz.func10,Tryz.ntmps10
  exact M45
 .go_enter Tryz.func10,Tryz.ntmps10
  exact M45
 .go_enter Tryz.func10,Tryz.ntmps10
  exact M45
 .have QL:=Mb (HA.out c1 c2 c3)
  have abH:=YP (w.alloc (.cells #[.int .u64 1,.int .i64 n,.int .i64 j,.int .i64 0,.int .i64 0,.slice none 0 0] 58))
  rw[MK]at abH
  clear HA
  go_enter Tryz.func10,Tryz.ntmps10
  go_wp2_with fail
  refine HDL.out.mono ?_;rintro e w' ⟨rfl,rfl⟩
  go_upto_region 8 with fail
  have Q6:((w.alloc (.cells #[.int .u64 1,.int .i64 n,.int .i64 j,.int .i64 0,.int .i64 0,.slice none 0 0] 58)).alloc (.cells (Array.replicate 128 (.int .u8 0)) 5)).heap.size=w.heap.size+1+1:=by simp only[MK]
  have YZ:ae ((w.alloc (.cells #[.int .u64 1,.int .i64 n,.int .i64 j,.int .i64 0,.int .i64 0,.slice none 0 0] 58)).alloc (.cells (Array.replicate 128 (.int .u8 0)) 5)) w.heap.size #[.int .u64 1,.int .i64 n,.int .i64 j,.int .i64 0,.int .i64 0,.slice none 0 0] 58:=(cQ w #[.int .u64 1,.int .i64 n,.int .i64 j,.int .i64 0,.int .i64 0,.slice none 0 0] (Array.replicate 128 (.int .u8 0)) _ _).1
  have k1:aa [] w ((w.alloc (.cells #[.int .u64 1,.int .i64 n,.int .i64 j,.int .i64 0,.int .i64 0,.slice none 0 0] 58)).alloc (.cells (Array.replicate 128 (.int .u8 0)) 5)):=((aa.refl [] w).alloc _).alloc _
  generalize ((w.alloc (.cells #[.int .u64 1,.int .i64 n,.int .i64 j,.int .i64 0,.int .i64 0,.slice none 0 0] 58)).alloc (.cells (Array.replicate 128 (.int .u8 0)) 5))=w1 at*
  have ON:aW T w1 b sb mb w.heap.size:=HD.out.bh HT.out k1 (Md _)
  have Ua:Hid (b<w1.heap.size):=Mb (Mo HD.out.aQ k1.size)
  have T6:Hid (∀W,PK T b sb mb w1 W->ae W w.heap.size #[.int .u64 1,.int .i64 n,.int .i64 j,.int .i64 0,.int .i64 0,.slice none 0 0] 58):=Mb (fun W k=>k.own YZ ON)
  obtain⟨x0,x1,x2,x3,x4,x5⟩:=YZ.c6
  have K1:=Mb k1
  have Rz:=Mb Q6
  have X7:=Mb ON
  clear k1 Q6 YZ ON UC YP abH
  go_cut [9]from 33 to 45 (fun v9 wx=>v9=.int .i64 F.2/\DA wx b sb mb lo F.1/\PK T b sb mb w wx/\ae wx w.heap.size #[.int .u64 1,.int .i64 n,.int .i64 j,.int .i64 0,.int .i64 0,.slice none 0 0] 58)
  case first=>
   refine Ml (S:=(fun W=>W.cell? ⟨w.heap.size,0,none⟩=some (.int .u64 1)/\W.cell? ⟨w.heap.size,1,none⟩=some (.int .i64 n)/\W.cell? ⟨w.heap.size,2,none⟩=some (.int .i64 j)/\W.cell? ⟨w.heap.size,3,none⟩=some (.int .i64 0)/\W.cell? ⟨w.heap.size,4,none⟩=some (.int .i64 0)/\W.cell? ⟨w.heap.size,5,none⟩=some (.slice none 0 0))) (by kernel_rfl) (by exact(T6.out _ (((aa.refl [] w1).drew).bM Ua.out)).c6) (fun hHeld=>?_)
   refine tk 0 33 ?_
   refine tk 1 34 ?_
   refine tk 3 36 ?_
   refine tk 4 37 ?_
   refine tk 6 39 ?_
   refine tk 7 40 ?_
   refine tk 8 41 ?_
   refine tk 9 42 ?_
   refine rd 2 (fun K hK=>?_)
   go_simp
   ((with_reducible refine(HW.out _ _).mono ?_));rintro e w2 ⟨rfl,rfl⟩
   go_wp2_with fail
   refine hK.out _ _ ?_ (fun hHeld=>nm ?_)
   .exact(T6.out _ (((((aa.refl [] w1).alloc (.cells #[.pointer (some ⟨b,0,none⟩)] 23)).alloc (.cells #[.int .i64 0] 3)).alloc (.cells #[.string (bs Z)] 9)).drew.bM Ua.out)).c6
   clear hK K
   refine rd 5 (fun K hK=>?_)
   go_simp
   ((with_reducible refine(HW.out _ _).mono ?_));rintro e w2 ⟨rfl,rfl⟩
   go_wp2_with fail
   refine hK.out _ _ ?_ (fun hHeld=>nm ?_)
   .exact(T6.out _ ((((((((aa.refl [] w1).alloc (.cells #[.pointer (some ⟨b,0,none⟩)] 23)).alloc (.cells #[.int .i64 0] 3)).alloc (.cells #[.string (bs Z)] 9)).alloc (.cells #[.pointer (some ⟨b,0,none⟩)] 23)).alloc (.cells #[.int .i64 1] 3)).alloc (.cells #[.string (bs Z)] 9)).drew.bM Ua.out)).c6
   clear hK K
   refine rd 10 (fun K hK=>?_)
   go_simp
   ((with_reducible refine(HL.out _).mono ?_));rintro e w2 ⟨rfl,rfl⟩
   go_wp2_with fail
   refine hK.out _ _ ?_ (fun hHeld=>nm ?_)
   .exact(T6.out _ ((((((((((aa.refl [] w1).alloc (.cells #[.pointer (some ⟨b,0,none⟩)] 23)).alloc (.cells #[.int .i64 0] 3)).alloc (.cells #[.string (bs Z)] 9)).alloc (.cells #[.pointer (some ⟨b,0,none⟩)] 23)).alloc (.cells #[.int .i64 1] 3)).alloc (.cells #[.string (bs Z)] 9)).alloc (.cells #[.pointer (some ⟨b,0,none⟩)] 23)).alloc (.cells #[.int .u64 1,.int .i64 n,.int .i64 j,.int .i64 0,.int .i64 0,.slice none 0 0] 58)).drew.bM Ua.out)).c6
   clear hK K
   refine rd 11 (fun K hK=>?_)
   go_simp
   refine hK.out _ _ ?_ (fun hHeld=>nm ?_)
   .exact(T6.out _ (((((((((((aa.refl [] w1).alloc (.cells #[.pointer (some ⟨b,0,none⟩)] 23)).alloc (.cells #[.int .i64 0] 3)).alloc (.cells #[.string (bs Z)] 9)).alloc (.cells #[.pointer (some ⟨b,0,none⟩)] 23)).alloc (.cells #[.int .i64 1] 3)).alloc (.cells #[.string (bs Z)] 9)).alloc (.cells #[.pointer (some ⟨b,0,none⟩)] 23)).alloc (.cells #[.int .u64 1,.int .i64 n,.int .i64 j,.int .i64 0,.int .i64 0,.slice none 0 0] 58)).alloc (.cells #[.func (.func 87) #[] #[.pointer (some ⟨w1.heap.size,0,none⟩),.pointer (some ⟨w1.heap.size+1,0,none⟩),.pointer (some ⟨w1.heap.size+1+1,0,none⟩)],.func (.func 87) #[] #[.pointer (some ⟨w1.heap.size+1+1+1,0,none⟩),.pointer (some ⟨w1.heap.size+1+1+1+1,0,none⟩),.pointer (some ⟨w1.heap.size+1+1+1+1+1,0,none⟩)],.func (.func 39) #[.pointer (some ⟨b,0,none⟩)] #[],.func (.func 92) #[] #[.pointer (some ⟨w1.heap.size+1+1+1+1+1+1+1,0,none⟩),.pointer (some ⟨w1.heap.size+1+1+1+1+1+1,0,none⟩)]] 42)).drew.bM Ua.out)).c6
   clear hK K
   obtain⟨o1,o2,o3,o4,o5,o6,o7,o8⟩:=vI w1 #[.pointer (some ⟨b,0,none⟩)] #[.int .i64 0] #[.string (bs Z)] #[.pointer (some ⟨b,0,none⟩)] #[.int .i64 1] #[.string (bs Z)] #[.pointer (some ⟨b,0,none⟩)] #[.int .u64 1,.int .i64 n,.int .i64 j,.int .i64 0,.int .i64 0,.slice none 0 0] 23 3 9 23 3 9 23 58
   have o9:ae (((((((((w1.alloc (.cells #[.pointer (some ⟨b,0,none⟩)] 23)).alloc (.cells #[.int .i64 0] 3)).alloc (.cells #[.string (bs Z)] 9)).alloc (.cells #[.pointer (some ⟨b,0,none⟩)] 23)).alloc (.cells #[.int .i64 1] 3)).alloc (.cells #[.string (bs Z)] 9)).alloc (.cells #[.pointer (some ⟨b,0,none⟩)] 23)).alloc (.cells #[.int .u64 1,.int .i64 n,.int .i64 j,.int .i64 0,.int .i64 0,.slice none 0 0] 58)).alloc (.cells #[.func (.func 87) #[] #[.pointer (some ⟨w1.heap.size,0,none⟩),.pointer (some ⟨w1.heap.size+1,0,none⟩),.pointer (some ⟨w1.heap.size+1+1,0,none⟩)],.func (.func 87) #[] #[.pointer (some ⟨w1.heap.size+1+1+1,0,none⟩),.pointer (some ⟨w1.heap.size+1+1+1+1,0,none⟩),.pointer (some ⟨w1.heap.size+1+1+1+1+1,0,none⟩)],.func (.func 39) #[.pointer (some ⟨b,0,none⟩)] #[],.func (.func 92) #[] #[.pointer (some ⟨w1.heap.size+1+1+1+1+1+1+1,0,none⟩),.pointer (some ⟨w1.heap.size+1+1+1+1+1+1,0,none⟩)]] 42)) (w1.heap.size+1+1+1+1+1+1+1+1) #[.func (.func 87) #[] #[.pointer (some ⟨w1.heap.size,0,none⟩),.pointer (some ⟨w1.heap.size+1,0,none⟩),.pointer (some ⟨w1.heap.size+1+1,0,none⟩)],.func (.func 87) #[] #[.pointer (some ⟨w1.heap.size+1+1+1,0,none⟩),.pointer (some ⟨w1.heap.size+1+1+1+1,0,none⟩),.pointer (some ⟨w1.heap.size+1+1+1+1+1,0,none⟩)],.func (.func 39) #[.pointer (some ⟨b,0,none⟩)] #[],.func (.func 92) #[] #[.pointer (some ⟨w1.heap.size+1+1+1+1+1+1+1,0,none⟩),.pointer (some ⟨w1.heap.size+1+1+1+1+1+1,0,none⟩)]] 42:=by have:=ae.new ((((((((w1.alloc (.cells #[.pointer (some ⟨b,0,none⟩)] 23)).alloc (.cells #[.int .i64 0] 3)).alloc (.cells #[.string (bs Z)] 9)).alloc (.cells #[.pointer (some ⟨b,0,none⟩)] 23)).alloc (.cells #[.int .i64 1] 3)).alloc (.cells #[.string (bs Z)] 9)).alloc (.cells #[.pointer (some ⟨b,0,none⟩)] 23)).alloc (.cells #[.int .u64 1,.int .i64 n,.int .i64 j,.int .i64 0,.int .i64 0,.slice none 0 0] 58)) #[.func (.func 87) #[] #[.pointer (some ⟨w1.heap.size,0,none⟩),.pointer (some ⟨w1.heap.size+1,0,none⟩),.pointer (some ⟨w1.heap.size+1+1,0,none⟩)],.func (.func 87) #[] #[.pointer (some ⟨w1.heap.size+1+1+1,0,none⟩),.pointer (some ⟨w1.heap.size+1+1+1+1,0,none⟩),.pointer (some ⟨w1.heap.size+1+1+1+1+1,0,none⟩)],.func (.func 39) #[.pointer (some ⟨b,0,none⟩)] #[],.func (.func 92) #[] #[.pointer (some ⟨w1.heap.size+1+1+1+1+1+1+1,0,none⟩),.pointer (some ⟨w1.heap.size+1+1+1+1+1+1,0,none⟩)]] 42;simpa only[MK]using this
   refine rd 12 (fun K hK=>?_)
   go_simp
   ((with_reducible refine(QL.out _ ((K1.out.trans ((((((((((aa.refl [] w1).alloc (.cells #[.pointer (some ⟨b,0,none⟩)] 23)).alloc (.cells #[.int .i64 0] 3)).alloc (.cells #[.string (bs Z)] 9)).alloc (.cells #[.pointer (some ⟨b,0,none⟩)] 23)).alloc (.cells #[.int .i64 1] 3)).alloc (.cells #[.string (bs Z)] 9)).alloc (.cells #[.pointer (some ⟨b,0,none⟩)] 23)).alloc (.cells #[.int .u64 1,.int .i64 n,.int .i64 j,.int .i64 0,.int .i64 0,.slice none 0 0] 58)).alloc (.cells #[.func (.func 87) #[] #[.pointer (some ⟨w1.heap.size,0,none⟩),.pointer (some ⟨w1.heap.size+1,0,none⟩),.pointer (some ⟨w1.heap.size+1+1,0,none⟩)],.func (.func 87) #[] #[.pointer (some ⟨w1.heap.size+1+1+1,0,none⟩),.pointer (some ⟨w1.heap.size+1+1+1+1,0,none⟩),.pointer (some ⟨w1.heap.size+1+1+1+1+1,0,none⟩)],.func (.func 39) #[.pointer (some ⟨b,0,none⟩)] #[],.func (.func 92) #[] #[.pointer (some ⟨w1.heap.size+1+1+1+1+1+1+1,0,none⟩),.pointer (some ⟨w1.heap.size+1+1+1+1+1+1,0,none⟩)]] 42))).drew) _ w1.heap.size (w1.heap.size+1) (w1.heap.size+1+1) (w1.heap.size+1+1+1) (w1.heap.size+1+1+1+1) (w1.heap.size+1+1+1+1+1) (w1.heap.size+1+1+1+1+1+1+1) (w1.heap.size+1+1+1+1+1+1) (by have:=Rz.out;omega) (by have:=Rz.out;omega) (by have:=Rz.out;omega) (by have:=Rz.out;omega) (by have:=Rz.out;omega) (by have:=Rz.out;omega) (by have:=Rz.out;omega) (by have:=Rz.out;omega) (by have:=Rz.out;omega) o9.drew (o1.alloc _).drew (o2.alloc _).drew (o3.alloc _).drew (o4.alloc _).drew (o5.alloc _).drew (o6.alloc _).drew (o8.alloc _).drew (o7.alloc _).drew).mono ?_));rintro e w5 ⟨rfl,Yj,k5⟩
   have TQ:=((((((((((((aa.refl [] w1).alloc (.cells #[.pointer (some ⟨b,0,none⟩)] 23)).alloc (.cells #[.int .i64 0] 3)).alloc (.cells #[.string (bs Z)] 9)).alloc (.cells #[.pointer (some ⟨b,0,none⟩)] 23)).alloc (.cells #[.int .i64 1] 3)).alloc (.cells #[.string (bs Z)] 9)).alloc (.cells #[.pointer (some ⟨b,0,none⟩)] 23)).alloc (.cells #[.int .u64 1,.int .i64 n,.int .i64 j,.int .i64 0,.int .i64 0,.slice none 0 0] 58)).alloc (.cells #[.func (.func 87) #[] #[.pointer (some ⟨w1.heap.size,0,none⟩),.pointer (some ⟨w1.heap.size+1,0,none⟩),.pointer (some ⟨w1.heap.size+1+1,0,none⟩)],.func (.func 87) #[] #[.pointer (some ⟨w1.heap.size+1+1+1,0,none⟩),.pointer (some ⟨w1.heap.size+1+1+1+1,0,none⟩),.pointer (some ⟨w1.heap.size+1+1+1+1+1,0,none⟩)],.func (.func 39) #[.pointer (some ⟨b,0,none⟩)] #[],.func (.func 92) #[] #[.pointer (some ⟨w1.heap.size+1+1+1+1+1+1+1,0,none⟩),.pointer (some ⟨w1.heap.size+1+1+1+1+1+1,0,none⟩)]] 42)).drew).bM (T:=T) (sb:=sb) (mb:=mb) Ua.out).trans k5
   have KK1:=Mb TQ
   have HD5:=Mb Yj
   clear Yj TQ k5 o1 o2 o3 o4 o5 o6 o7 o8 o9
   go_wp2_with fail
   refine hK.out _ _ ?_ (fun hHeld=>nm ?_)
   .exact(T6.out _ KK1.out).c6
   clear hK K
   refine tk 13 9 ?_
   refine MM (by kernel_rfl) ?_ _
   try simp only[List.set_cons_succ,List.set_cons_zero]
   go_wp2_with fail
   go_meet
   exact⟨rfl,HD5.out,(K1.out.bM HD.out.aQ).trans KK1.out,T6.out _ KK1.out⟩
  case rest=>
   obtain⟨rfl,hD2,kk,os2⟩:=hcut
   rename World=>w2
   have Vh:=Mb hD2
   have KK:=Mb kk
   have aaN:Hid (∀W,aa [] w2 W->ae W w.heap.size #[.int .u64 1,.int .i64 n,.int .i64 j,.int .i64 0,.int .i64 0,.slice none 0 0] 58):=Mb (fun W k=>k.own os2 (by simp))
   have HEM:Hid (∀W,Calls Tryz.prog 41 #[] W fun e w'=>e=.returned (.agg #[.int .u32 1,.int .u32 1,.slice none 0 0,.slice none 0 0,.slice none 0 0])/\aa [] W w'):=Mb (fun W=>CD W)
   have HC:Hid (1<=j/\4<=(n:Int)/\j<=(n:Int)-2):=Mb ⟨c1,c2,c3⟩
   clear hD2 kk x0 x1 x2 x3 x4 x5 QL HW HL HDL HT T6 K1 Rz X7 Ua c1 c2 c3
   by_cases h0:F.2=0
   .have e0:(F.2==0)=true:=by rw[h0];rfl
    have H0:=Mb h0
    clear h0
    have Qy:∀x∈([]:List Nat),x<w2.heap.size:=fun x hx=>by cases hx
    have Xp:=Mb Qy
    clear Qy
    obtain⟨x0,x1,x2,x3,x4,x5⟩:=os2.c6
    clear os2
    go_upto_region 11 with fail
    refine Ml (S:=(fun W=>W.cell? ⟨w.heap.size,0,none⟩=some (.int .u64 1)/\W.cell? ⟨w.heap.size,1,none⟩=some (.int .i64 n)/\W.cell? ⟨w.heap.size,2,none⟩=some (.int .i64 j)/\W.cell? ⟨w.heap.size,3,none⟩=some (.int .i64 0)/\W.cell? ⟨w.heap.size,4,none⟩=some (.int .i64 0)/\W.cell? ⟨w.heap.size,5,none⟩=some (.slice none 0 0))) (by kernel_rfl) (by exact(aaN.out _ (aa.refl [] w2).drew).c6) (fun hHeld=>?_)
    refine tk 0 49 ?_
    refine tk 1 50 ?_
    refine rd 2 (fun K hK=>?_)
    go_simp
    ((with_reducible refine(HEM.out _).mono ?_));rintro e w3 ⟨rfl,k3⟩
    have TL:=((aa.refl [] w2).drew).trans k3
    have K3:=Mb TL
    clear k3 TL
    go_wp2_with fail
    refine hK.out _ _ ?_ (fun hHeld=>nm ?_)
    .exact(aaN.out _ K3.out).c6
    clear hK K
    refine tk 3 52 ?_
    refine rd 4 (fun K hK=>?_)
    go_simp
    refine hK.out _ _ ?_ (fun hHeld=>nm ?_)
    .exact(aaN.out _ ((K3.out.drew).alloc _)).c6
    clear hK K
    refine tk 5 4 ?_
    refine tk 6 5 ?_
    refine MM (by kernel_rfl) ?_ _
    try simp only[List.set_cons_succ,List.set_cons_zero]
    go_wp2_with fail
    go_ret2
    have k4:=(K3.out).alloc (.cells (bf b (bW n j) (.slice none 0 0) ⟨1,1,[],[],[]⟩ (.slice none 0 0) (.slice none 0 0) (.slice none 0 0) false) 90)
    refine Or.inr ⟨HC.out,Vh.out.aJ k4,KK.out.trans (k4.bM Vh.out.aQ),Or.inr ⟨H0.out,_,MA KK.out.size K3.out.size,Vh.out.bh (T:=[]) (w':=_) Xp.out k4 K3.out.size,ae.new _ _ _,rfl⟩⟩
   .have e0:(F.2==0)=false:=by rw[ME];exact h0
    have H0:=Mb h0
    clear h0 os2
    go_wp2_with fail
    go_ret2
    exact Or.inr ⟨HC.out,Vh.out,KK.out,Or.inl ⟨H0.out,rfl⟩⟩
theorem jL {n:Nat} {l:List UInt8} {x:Int} (h:(NS n l x).2.2=0):x=0/\(NS n l x).1.length=n/\(NS n l x).1++(NS n l x).2.1=l:=by
 unfold NS at h ⊢
 split at h
 .exact absurd h (by assumption)
 .split at h
  .simp at h
  .split at h
   .simp at h
   .rename_i h1 h2 h3
    rw[if_neg h1,if_neg h2,if_neg h3]
    refine⟨by simpa using h1,by simp;omega,by simp⟩
theorem pI (a r:List UInt8) (n:Nat) (h:a.length=n):NS n (a++r) 0=(a,r,0):=by
 subst h
 unfold NS
 rw[if_neg (by simp),if_neg (by omega),if_neg (by simp;omega)]
 simp
theorem xL (n k:Nat) (r:List UInt8):Ny k (Nh n k++r) 0=(n%256^k,r,0):=by
 unfold Ny
 rw[pI _ _ _ (aq n k),xT]
theorem FV (m n:Nat) (r:List UInt8) (hm:m<=65536) (h:n<=m):OO m (Nh n 4++r) 0=(n,r,0):=by
 unfold OO
 rw[xL,Nat.mod_eq_of_lt (by omega)]
 simp only
 rw[if_neg (by omega)]
theorem CW (a r:List UInt8) (h:a.length<=65536):gk (dF a++r) 0=(a,r,0):=by
 unfold gk dF
 rw[Mi,FV _ _ _ (by omega) h]
 exact pI a r _ rfl
def aV (l:List (Int×Int)):List UInt8:=(l.map fun r=>Nh r.1.toNat 2++Nh r.2.toNat 2).flatten
theorem mP (l:List (Int×Int)) (k:Nat) (h:k<l.length):aV (l.take (k+1))=aV (l.take k)++(Nh l[k].1.toNat 2++Nh l[k].2.toNat 2):=by
 unfold aV;rw[Mf h,Ms,MR]
 congr 1
theorem kN (l:List (Int×Int)):(aV l).length=4*l.length:=by
 induction l with
 |nil=>rfl
 |cons a l ih=>simp only[aV,List.map_cons,List.flatten_cons,Mc,aq,Mz]at*;omega
def fP (l:List (Int×Int)):List UInt8:=Nh l.length 2++aV l
def bk (r:ag):List UInt8:=Nh r.kind.toNat 1++((if Qa r.kind then Nh r.id.toNat 4 else[])++((if Ob r.kind then dF r.name else[])++(if NH r.kind then Nh r.size.toNat 4++fP r.runs else[])))
theorem oH (n:Nat) (h:n<4294967296):IntKind.u32.wrap (n:Int)=n:=by
 have:IntKind.u32.wrap (n:Int)=(n:Int)%4294967296:=by simp[IntKind.wrap,IntKind.bits,IntKind.signed]
 rw[this];omega
theorem gg (n:Nat) (h:n<65536):IntKind.u16.wrap (n:Int)=n:=by
 have:IntKind.u16.wrap (n:Int)=(n:Int)%65536:=by simp[IntKind.wrap,IntKind.bits,IntKind.signed]
 rw[this];omega
def iC (l:List (Int×Int)):Prop:=l.length<=16/\∀k (hk:k<l.length),0<=l[k].1/\l[k].1<65536/\0<=l[k].2/\l[k].2<65536
structure jF (r:ag):Prop where
 k1:1<=r.kind
 k6:r.kind<=6
 i0:0<=r.id
 i1:r.id<=4294967294
 nm:r.name.length<=48
 s0:0<=r.size
 s1:r.size<=1048576
 rf:iC r.runs
theorem It {l:List (Int×Int)} (h:eX l n=true):0<=n/\n<=1048576/\iC l:=by
 unfold eX at h
 simp only[MJ,decide_eq_true_eq]at h
 obtain⟨h1,h2,h3,h4,_⟩:=h
 refine⟨h2,h3,h1,fun k hk=>?_⟩
 have:=eM.1 (ie (Md _) h4 k hk)
 omega
theorem j7 {r:ag} (h:az r=true) (hf:r.fits):jF r:=by
 unfold az aA at h
 simp only[MJ,decide_eq_true_eq]at h
 obtain⟨h1,h2,h3,h4,h5,h6,h7⟩:=h
 obtain⟨p1,p2,p3⟩:=It h7
 obtain⟨i0,_⟩:=bP hf.2.1
 have hk:1<=r.kind/\r.kind<=6:=by
  unfold Qa Ob at h1
  simp only[Bool.or_eq_true,beq_iff_eq]at h1
  omega
 exact⟨hk.1,hk.2,i0,h3,h5,p1,p2,p3⟩
end Go.Proofs.YtdkimcnlhmhpgaaGreat

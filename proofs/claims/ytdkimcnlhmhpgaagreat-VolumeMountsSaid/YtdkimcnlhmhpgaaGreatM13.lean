/- -/
import Derived.Test.YtdkimcnlhmhpgaaGreatM12
set_option maxHeartbeats 32000000
set_option maxRecDepth 100000
namespace Go.Proofs.YtdkimcnlhmhpgaaGreat
section
open Go.Proofs.Tryz Go.RowKit Go.Maps
variable {w' w0 w:World} {T:List Nat} {b sb lo:Nat}
theorem NM:type_of% @List.getElem_append_left:=@List.getElem_append_left
structure DA (w:World) (b sb mb lo:Nat) (d:DK):Prop where
 disk:aD w b sb mb lo d
 fit:dS d
section
variable {w:World} {b sb mb lo:Nat} {d:DK}
theorem DA.aJ (h:DA w b sb mb lo d) (k:NP [] w w'):DA w' b sb mb lo d:=⟨h.disk.keep k (fun x hx=>by cases hx),h.fit⟩
theorem DA.bH (h:DA w b sb mb lo d):b<w.heap.size:=h.disk.bH
theorem DA.sC (h:DA w b sb mb lo d):sb<w.heap.size:=by have⟨_,_,_,os,_⟩:=h.disk;exact os.lt
theorem DA.vP (h:DA w b sb mb lo d):mb<w.heap.size:=by have⟨_,_,_,_,_,hm,_⟩:=h.disk;exact hm.lt
theorem DA.len (h:DA w b sb mb lo d):1<=d.stand.length/\d.stand.length<=8192:=by
 have⟨_,_,_,_,_,_,_,_,_,_,_,_,h7,h8,_⟩:=h.disk
 exact⟨h7,h8⟩
theorem DA.read (h:DA w b sb mb lo d) (i:Int):am! 62 #[b,i] w fun e w'=>e=.returned (.tuple #[.string (bs (Pc d i)),(OM d i:Int)])/\w=w':=by
 by_cases hz:OM d i=0
 .have⟨h1,h2,h3⟩:=dh hz
  obtain⟨n,rfl⟩:=MM h2
  refine(Lx b sb mb lo d n w h.disk h1 _a).mono fun e w' ⟨h4,h5⟩=>⟨?_,h5⟩
  rw[h4];unfold Pc;rw[if_pos hz,hz];rfl
 .refine(F8 b sb mb lo d i w h.disk hz).mono fun e w' ⟨h4,h5⟩=>⟨?_,h5⟩
  rw[h4];unfold Pc;rw[if_neg hz];rfl
theorem DA.write (h:DA w b sb mb lo d) (i:Int) (s:List UInt8) (ho:d.ops<100000) (hw:d.waits.length<=10000):
  am! 88 #[b,i,s] w fun e w'=>e=(OW d i s:Int)/\DA w' b sb mb lo (OJ d i s)/\PK [] b sb mb w w':=by
 by_cases hz:OM d i=0
 .by_cases hs:s.length=128
  .have⟨h1,h2,h3⟩:=dh hz
   obtain⟨n,rfl⟩:=MM h2
   have e1:OJ d (n:Int) s=cW d n s:=by unfold OJ;rw[if_pos ⟨hz,hs⟩];rfl
   have e2:OW d (n:Int) s=if d.fuse=0 then 90 else 0:=by unfold OW;rw[if_neg _a,if_neg _a]
   have hf:=h.fit.write (n:Int) s
   rw[e1]at hf ⊢
   rw[e2]
   exact(Iu b sb mb lo d n s w h.disk h1 _a hs ho hw).mono fun e w' ⟨h4,h5,h6⟩=>⟨h4,⟨h5,hf⟩,h6⟩
  .have e1:OJ d i s=d:=by unfold OJ;rw[if_neg (fun hh=>hs hh.2)]
   have e2:OW d i s=1:=by unfold OW;rw[if_neg _a,if_pos hs]
   rw[e1,e2]
   exact(Bs b sb mb lo d i (bs s) w h.disk hz (by rw[NQ];exact hs)).mono fun e w' ⟨h4,h5⟩=>⟨h4,by subst h5;exact h,by subst h5;exact PK.refl _ _ _ _ _⟩
 .have e1:OJ d i s=d:=by unfold OJ;rw[if_neg (fun hh=>hz hh.1)]
  have e2:OW d i s=OM d i:=by unfold OW;rw[if_pos hz]
  rw[e1,e2]
  exact(DG b sb mb lo d i (bs s) w h.disk hz).mono fun e w' ⟨h4,h5⟩=>⟨h4,by subst h5;exact h,by subst h5;exact PK.refl _ _ _ _ _⟩
theorem DA.flush (h:DA w b sb mb lo d) (ho:d.ops<100000) (hw:d.waits.length<=10000):
  am! 39 #[b] w fun e w'=>e=(qv d:Int)/\DA w' b sb mb lo (iO d)/\PK [] b sb mb w w':=by
 have hf:=h.fit.flush
 unfold qv iO at*
 by_cases hd:d.down=true
 .rw[if_pos hd]at hf ⊢
  rw[if_pos hd]
  exact(yS b sb mb lo d w h.disk hd).mono fun e w' ⟨h4,h5⟩=>⟨h4,by subst h5;exact h,by subst h5;exact PK.refl _ _ _ _ _⟩
 .have hd':d.down=false:=by simpa using hd
  rw[if_neg hd]at hf ⊢
  rw[if_neg hd]
  by_cases h0:d.fuse=0
  .rw[if_pos h0]at hf ⊢
   rw[if_pos h0]
   exact(yT b sb mb lo d w h.disk hd' h0 ho).mono fun e w' ⟨h4,h5,h6⟩=>⟨h4,⟨h5,hf⟩,h6⟩
  .rw[if_neg h0]at hf ⊢
   rw[if_neg h0]
   exact(Iv b sb mb lo d w h.disk hd' h0 ho (fun x hx=>(h.fit.fine x hx).1) hw).mono fun e w' ⟨h4,h5,h6⟩=>⟨h4,⟨h5,hf⟩,h6⟩
theorem DA.image (h:DA w b sb mb lo d):am! 26 #[b] w fun e w'=>e=.returned d.stand.flatten/\DA w' b sb mb lo d/\NP [] w w':=
 (J9 b sb mb lo d w h.disk (fun s hs=>by rw[h.fit.all s hs];omega)).mono fun e w' ⟨h4,h5⟩=>⟨h4,h.aJ h5,h5⟩
end
theorem Lw (n:Nat) (w:World) (h1:1<=n) (h2:n<=8192):
  am! 9 #[(n:Int)] w fun e w'=>∃b sb mb lo,e=.returned (.tuple #[.pointer (some ⟨b,0,none⟩),(0:Int)])/\DA w' b sb mb lo (QP (List.replicate n N9))/\NP [] w w'/\w.heap.size<=b/\w.heap.size<=sb/\w.heap.size<=mb/\w.heap.size<=lo:=
 (Mw n w h1 h2).mono fun _ _ ⟨b,sb,mb,lo,he,hA⟩=>⟨b,sb,mb,lo,he,⟨hA.disk,hA.fit⟩,hA.kept,hA.hb,hA.hsb,hA.hmb,hA.hlo⟩
theorem PK.GN {S:List Nat} {mb:Nat} (h:PK T b sb mb w0 w) (k:NP S w w') (hb:b<w0.heap.size) (hl:∀x∈S,x∈T\/w0.heap.size<=x) (Xq:b∉S):PK T b sb mb w0 w':=
 ⟨k.os.trans h.os,k.tape.trans h.tape,k.output.trans h.output,Nk h.size k.size,fun i hi h1 h2 h3 h4 h5=>(k.block i (MR hi h.size) (fun hx=>by
  rcases hl i hx with h6|h6
  .exact h1 h6
  .omega)).trans (h.block i hi h1 h2 h3 h4 h5),fun i hi=>h.wb i ((WB.iw (k.cell (a:=(aa b 1)) (MR hb h.size) Xq)).1 hi)⟩
theorem PK.LO {mb D:Nat} (h:PK T b sb mb w0 w) (k:NP [D] w w') (hb:b<w0.heap.size) (hl:w0.heap.size<=D):PK T b sb mb w0 w':=
 h.GN k hb (fun y hy=>by
  simp only[List.mem_cons,List.not_mem_nil,or_false]at hy
  exact Or.inr _a) (fun hy=>by
  simp only[List.mem_cons,List.not_mem_nil,or_false]at hy
  omega)
def Gt (w0:World) (b sb mb lo:Nat) (d:DK) (w:World):Prop:=DA w b sb mb lo d/\PK [] b sb mb w0 w
theorem DA.Br {mb:Nat} {d:DK} (h:DA w b sb mb lo d):Gt w b sb mb lo d w:=⟨h,PK.refl _ _ _ _ _⟩
theorem qw (w0:World) (b sb mb lo:Nat):r7 (Gt w0 b sb mb lo) b where
 len:=fun h=>h.1.len
 fit:=fun h=>h.1.fit
 keep:=fun h k=>⟨h.1.aJ k,h.2.trans (k.eH h.1.bH)⟩
 lenC:=fun h=>XH b sb mb lo _ _ h.1.disk
 downC:=fun h=>Bt b sb mb lo _ _ h.1.disk
 readC:=fun i h=>h.1.read i
 writeC:=fun i s h ho hw=>(h.1.write i s ho hw).mono fun _ _ hh=>⟨hh.1,hh.2.1,h.2.trans hh.2.2⟩
theorem Lv {mb:Nat} {d0:DK} (h0:DA w0 b sb mb lo d0):om (Gt w0 b sb mb lo) b w0 where
 ops:=qw w0 b sb mb lo
 writeB:=fun i s h ho hw=>(h.1.write i s ho hw).mono fun _ _ hh=>⟨hh.1,⟨hh.2.1,h.2.trans hh.2.2⟩,((hh.2.2.Lu h.1.disk).both b).j9 h0.bH h0.sC h0.vP h0.bH⟩
 putD:=fun{_ _ _ _ _} h ho k hl=>⟨⟨h.1.disk.putD ho k,h.1.fit⟩,h.2.LO k h0.bH hl⟩
theorem LP (v:Value) (l:List (Int×Int)) (s:List UInt8) (PU PC:Nat) {w:World} {b sb mb lo:Nat} {d:DK} (hD:DA w b sb mb lo d) (h:af w v l PU PC) (hl:l.length<=1000000) (Pj:∀a∈l,aQ a)
  (hs:s.length<=1048576) (ho:d.ops<=90000) (hw:d.waits.length<=1800):
  am! 49 #[b,v,s] w fun e w'=>e=.returned (.int .i64 (OQ d l s).2)/\DA w' b sb mb lo (OQ d l s).1/\PK [] b sb mb w w':=
 (Mt (Lv hD) d v l s PU PC w hD.Br (MG _) h hl Pj hs ho hw).mono fun _ _ hh=>⟨hh.1,hh.2.1.1,hh.2.1.2⟩
theorem GO (v:Value) (l:List (Int×Int)) (size:Int) (PU PC:Nat) {w:World} {b sb mb lo:Nat} {d:DK} (hD:DA w b sb mb lo d) (h:af w v l PU PC) (hl:l.length<=1000000) (Pj:∀a∈l,aQ a)
  (PW:(Lit.int .i64 size).wf=true):
  am! 60 #[b,v,size] w fun e w'=>e=.returned (.tuple #[.string (bs (PV d l size)),(N7 d l size:Int)])/\NP [] w w':=
 Mu (qw w b sb mb lo) d v l size PU PC w hD.Br h hl Pj PW
theorem FT (j u:Int) (s:List UInt8) {w:World} {b sb mb lo:Nat} {d:DK} (hD:DA w b sb mb lo d) (hj:(Lit.int .i64 j).wf=true) (hu:(Lit.int .i64 u).wf=true) (hs:s.length<=4000) (ho:d.ops<=40000) (hw:d.waits.length<=5000):
  am! 109 #[b,j,u,s] w fun e w'=>e=.returned (.tuple #[(jb d j u s:Int),.int .i64 (Oa d j u s).2])/\DA w' b sb mb lo (Oa d j u s).1/\PK [] b sb mb w w':=
 (Im (qw w b sb mb lo) hD.Br j u s hj hu hs ho hw).mono fun _ _ hh=>⟨hh.1,hh.2.1,hh.2.2⟩
theorem JU (j u:Int) {w:World} {b sb mb lo:Nat} {d:DK} (hD:DA w b sb mb lo d) (hj:(Lit.int .i64 j).wf=true) (hu:(Lit.int .i64 u).wf=true):
  am! 123 #[b,j,u] w fun e w'=>e=.returned (.tuple #[.string (bs (Pq d j u)),(Oi d j u:Int)])/\w=w':=
 JV (qw w b sb mb lo) hD.Br j u hj hu
end
open Go.Proofs.Tryz Go.RowKit
variable {k next:Int} {i most o n:Nat} {A:Prop} {cur vs xs:List Value} {v:Value} {w:World}
theorem Jc (us:List (Nat×Array Value×Array Value)) (cs:Nat->Int) (I:Nat->World->Prop) (g off c:Nat) (w:World) (hn:us.length<=1000)
  (hen:∀(i:Nat) (h:i<us.length),Enters prog us[i].1)
  (h0:I 0 w) (Ou:∀k W,I k W->∀(i:Nat) (h:i<us.length),W.cell? (aa g (off+i))=some (.func (.func us[i].1) us[i].2.1 us[i].2.2))
  (Ox:∀(k:Nat) (h:k<us.length) W,I k W->(∀i,i<k->cs i=0)->am! us[k].1 (us[k].2.1++us[k].2.2) W fun e W'=>e=(cs k:Int)/\I (k+1) W'):
  am! 37 #[.slice (some (aa g off)) us.length c] w fun e w'=>(∃k,k<us.length/\(∀i,i<k->cs i=0)/\cs k≠0/\e=.returned (.int .i64 (cs k))/\I (k+1) w')\/((∀i,i<us.length->cs i=0)/\e=(0:Int)/\I us.length w'):=by
 have⟨HEN,HC,HS⟩:=gg! hen Ou Ox
 clear hen Ou Ox
 have hn':(us.length:Int)<=1000:=_a
 go_enter func37,ntmps37
 go_wp2_with fail
 go_step3
 go_wp2_with fail
 go_step3
 go_wp2_with fail
 refine wp_loop_rounds 1 ?_
 rw[rounds_succ]
 go_wp2_with fail
 go_loopw [3,8] (fun e i wr=>∃k:Nat,k<=us.length/\i=(k:Int)/\e=(0:Int)/\(∀j,j<k->cs j=0)/\I k wr) (fun _ i _=>us.length-(intOf i).toNat)
 case atStart=>exact⟨0,_a,rfl,rfl,(fun j hj=>by omega),h0⟩
 case round=>
  obtain⟨k,hk,rfl,rfl,hz,hI⟩:=hrel
  by_cases NV:k<us.length
  .have Qg:=HC.out k _ hI k NV
   have Oo:=HS.out k NV _ hI hz
   have he:=HEN.out k NV
   unfold Enters at he
   have⟨HZ,Of⟩:=_f hz NV
   generalize us[k].1=f at*
   generalize us[k].2.1=A at*
   generalize us[k].2.2=B at*
   have hlen:(k:Int)<us.length:=_a
   clear hz hI
   go_wp2_with fail
   refine Oo.mono ?_;rintro e w2 ⟨rfl,hI2⟩
   by_cases hc:cs k=0
   .have hz':∀j,j<k+1->cs j=0:=fun j hj=>by
     rcases Nat.lt_succ_iff_lt_or_eq.1 hj with h|h
     .exact HZ.out j h
     .rw[h];exact hc
    rw[hc]
    have HZ2:=tK hz'
    clear hz' hc
    go_wp2_with fail
    go_roundw
    case rel=>exact⟨k+1,Of.out,_j,rfl,HZ2.out,hI2⟩
    case measure=>(have hh:=Of.out;simp[intOf];omega)
   .have hce:(cs k==0)=false:=by simpa using hc
    have HCN:=tK hc
    clear hc
    go_wp2_with fail
    rw[Exit.noGoto_ret]
    go_ret
    exact Or.inl ⟨k,Of.out,HZ.out,HCN.out,rfl,hI2⟩
  .obtain rfl:k=us.length:=_a
   have HZ:=tK hz
   clear hz
   go_wp2_with fail
   rw[Exit.noGoto_ret]
   go_ret
   exact Or.inr ⟨HZ.out,rfl,hI⟩
structure NS where
 id:Int
 name:List UInt8
 size:Int
 runs:List (Int×Int)
deriving Inhabited,DecidableEq
def NS.fits (a:NS):Prop:=(Lit.int .u32 a.id).wf=true/\a.name.length<=maxLen/\(Lit.int .i64 a.size).wf=true
def NS.told (k:Int) (a:NS):ag:=⟨k,a.id,a.name,a.size,a.runs⟩
def NS.cells (a:NS) (v:Value):Array Value:=#[(a.id,()),a.name,a.size,v]
def ag.item (r:ag):NS:=⟨r.id,r.name,r.size,r.runs⟩
variable {a b c x y:NS}
theorem NS.dw (h:a.fits) (hk:(Lit.int .i64 k).wf=true):(a.told k).fits:=⟨hk,h.1,h.2.1,h.2.2⟩
variable {r:ag}
theorem ag.jW (h:r.fits):r.item.fits:=⟨h.2.1,h.2.2.1,h.2.2.2⟩
structure au where
 nextBox:Int
 nextMan:Int
 boxes:List NS
 mans:List NS
 names:List NS
deriving Inhabited,DecidableEq
def iU (a b:List UInt8):Bool:=Op.bytesLess a b
theorem ua (a:List UInt8):iU a []=false:=by unfold iU;cases a<;>rfl
theorem lF (a b:UInt8) (x y:List UInt8):iU (a::x) (b::y)=(decide (a<b)||(a==b&&iU x y)):=rfl
theorem ub:∀a:List UInt8,iU a a=false
 |[]=>rfl
 |a::x=>by rw[lF,ub x];simp[UInt8.lt_irrefl]
theorem uY:∀{a b c:List UInt8},iU a b=true->iU b c=true->iU a c=true
 |a,[],c,h,_=>by rw[ua]at h;cases h
 |a,_::_,[],_,h=>by rw[ua]at h;cases h
 |[],_::_,_::_,_,_=>rfl
 |a::x,b::y,c::z,h1,h2=>by
  rw[lF]at h1 h2 ⊢
  simp only[Bool.or_eq_true,No,decide_eq_true_eq,beq_iff_eq]at h1 h2 ⊢
  rcases h1 with h1|⟨rfl,h1⟩
  .rcases h2 with h2|⟨rfl,h2⟩
   .exact Or.inl (UInt8.lt_trans h1 h2)
   .exact Or.inl h1
  .rcases h2 with h2|⟨rfl,h2⟩
   .exact Or.inl h2
   .exact Or.inr ⟨rfl,uY h1 h2⟩
theorem zu:∀a b:List UInt8,iU a b=true\/a=b\/iU b a=true
 |[],[]=>Or.inr (Or.inl rfl)
 |[],_::_=>Or.inl rfl
 |_::_,[]=>Or.inr (Or.inr rfl)
 |a::x,b::y=>by
  rw[lF,lF]
  simp only[Bool.or_eq_true,No,decide_eq_true_eq,beq_iff_eq,List.cons.injEq]
  by_cases h1:a<b
  .exact Or.inl (Or.inl h1)
  .by_cases h2:b<a
   .exact Or.inr (Or.inr (Or.inl h2))
   .have e:a=b:=UInt8.le_antisymm (UInt8.not_lt.1 h2) (UInt8.not_lt.1 h1)
    subst e
    rcases zu x y with h|h|h
    .exact Or.inl (Or.inr ⟨rfl,h⟩)
    .exact Or.inr (Or.inl ⟨rfl,h⟩)
    .exact Or.inr (Or.inr (Or.inr ⟨rfl,h⟩))
def Zx (a b:List UInt8):Int:=if iU a b then -1 else if a=b then 0 else 1
theorem zT:∀a b:List UInt8,Lib.compareBytes a b=Zx a b
 |[],[]=>rfl
 |[],_::_=>rfl
 |_::_,[]=>rfl
 |a::x,b::y=>by
  have ih:=zT x y
  unfold Lib.compareBytes
  unfold Zx at ih ⊢
  rw[lF]
  by_cases h1:a<b
  .rw[if_pos h1];simp[h1]
  .rw[if_neg h1]
   by_cases h2:b<a
   .rw[if_pos h2]
    have Pb:¬a=b:=fun e=>by subst e;exact UInt8.lt_irrefl _ h2
    simp[h1,Pb]
   .have e:a=b:=UInt8.le_antisymm (UInt8.not_lt.1 h2) (UInt8.not_lt.1 h1)
    subst e
    rw[if_neg h2,ih]
    simp[h1]
def bY (a b:NS):Bool:=decide (a.id<b.id)||(a.id==b.id&&iU a.name b.name)
def cO (a b:NS):Bool:=a.id==b.id&&a.name==b.name
theorem mQ :cO a b=true↔a.id=b.id/\a.name=b.name:=by unfold cO;simp
theorem iV :bY a b=true↔a.id<b.id\/(a.id=b.id/\iU a.name b.name=true):=by unfold bY;simp
theorem If (a:NS):bY a a=false:=by unfold bY;simp[ub]
theorem pH (h1:bY a b=true) (h2:bY b c=true):bY a c=true:=by
 rw[iV]at*
 rcases h1 with h1|⟨e1,h1⟩<;>rcases h2 with h2|⟨e2,h2⟩
 .left;omega
 .left;omega
 .left;omega
 .right;exact⟨_a,uY h1 h2⟩
theorem Ie (a b:NS):bY a b=true\/cO a b=true\/bY b a=true:=by
 rw[iV,iV,mQ]
 rcases Int.lt_trichotomy a.id b.id with h|h|h
 .exact Or.inl (Or.inl h)
 .rcases zu a.name b.name with g|g|g
  .exact Or.inl (Or.inr ⟨h,g⟩)
  .exact Or.inr (Or.inl ⟨h,g⟩)
  .exact Or.inr (Or.inr (Or.inr ⟨h.symm,g⟩))
 .exact Or.inr (Or.inr (Or.inl h))
theorem Da (h:bY a b=true):bY b a=false:=by
 cases h2:bY b a
 .rfl
 .have:=pH h h2;rw[If]at this;cases this
theorem Xe (h:cO a b=true):bY a b=false:=by
 rw[mQ]at h
 unfold bY;rw[h.1,h.2,ub];simp
theorem jN (h:cO b c=true):bY a b=bY a c:=by rw[mQ]at h;unfold bY;rw[h.1,h.2]
theorem qL (h:cO a b=true):bY a c=bY b c:=by rw[mQ]at h;unfold bY;rw[h.1,h.2]
theorem yP (h:cO b c=true):cO a b=cO a c:=by rw[mQ]at h;unfold cO;rw[h.1,h.2]
def mu (a b:NS):Int:=if bY a b then -1 else if cO a b then 0 else 1
theorem qn :mu a b<0↔bY a b=true:=by
 unfold mu;split
 .simp_all
 .split<;>simp_all
theorem uT :mu a b=0↔cO a b=true:=by
 unfold mu;split
 .rename_i h
  constructor
  .intro h';cases h'
  .intro h';rw[Xe h']at h;cases h
 .split<;>simp_all
def cG (l:List NS):Prop:=l.Pairwise (fun a b=>bY a b=true)
theorem pf {l:List NS} (h:∀k (hk:k+1<l.length),bY l[k] l[k+1]=true):cG l:=by
 unfold cG
 rw[List.pairwise_iff_getElem]
 intro i j hi hj VM
 obtain⟨m,rfl⟩:∃m,j=i+1+m:=⟨j-i-1,_a⟩
 clear VM
 induction m with
 |zero=>exact h i hj
 |succ m ih=>exact pH (ih _a) (h (i+1+m) hj)
variable {l:List NS}
theorem cG.at_ (h:cG l) {i j:Nat} (hj:j<l.length) (VM:i<j):bY (l[i]' _a) l[j]=true:=List.pairwise_iff_getElem.1 h i j _a hj VM
def Og (l:List NS) (x:NS):Nat:=(l.takeWhile (fun y=>bY y x)).length
theorem jv (l:List NS) (x:NS):Og l x<=l.length:=by
 unfold Og
 have h:=congrArg List.length (List.takeWhile_append_dropWhile (p:=fun y=>bY y x) (l:=l))
 rw[tN]at h
 omega
theorem uO (a:NS) (l:List NS) (x:NS):Og (a::l) x=if bY a x then Og l x+1 else 0:=by
 unfold Og
 rw[List.takeWhile_cons]
 split<;>simp
theorem TM:∀{l:List NS} {x:NS} {j:Nat} (hj:j<Og l x),bY (l[j]'(MR hj (jv l x))) x=true
 |[],_,j,hj=>absurd hj (by unfold Og;simp)
 |a::l,x,j,hj=>by
  have e:=uO a l x
  cases h:bY a x
  .rw[h]at e;simp at e;omega
  .rw[h]at e
   simp at e
   cases j with
   |zero=>exact h
   |succ j=>exact TM (l:=l) _a
theorem tU:∀{l:List NS} {x:NS} (h:Og l x<l.length),bY (l[Og l x]'h) x=false
 |[],_,h=>absurd h _b
 |a::l,x,h=>by
  have e:=uO a l x
  cases g:bY a x
  .rw[g]at e;simp at e
   simp only[e]
   exact g
  .rw[g]at e
   simp at e
   simp only[e,Nt]
   exact tU (l:=l) (by rw[e]at h;simpa using h)
theorem ql {l:List NS} {x:NS} {k:Nat} (hk:k<=l.length) (h1:∀j (hj:j<k),bY (l[j]' _a) x=true) (h2:∀(h:k<l.length),bY l[k] x=false):Og l x=k:=by
 rcases Nat.lt_trichotomy (Og l x) k with h|h|h
 .have:=tU (l:=l) (x:=x) _a
  rw[h1 _ h]at this;cases this
 .exact h
 .have:=TM h
  have hl:=jv l x
  rw[h2 _a]at this;cases this
theorem cG.ge (h:cG l) {x:NS} {j:Nat} (hj:j<l.length) (hp:Og l x<=j):bY l[j] x=false:=by
 have h0:=tU (l:=l) (x:=x) _a
 by_cases e:Og l x=j
 .subst e;exact h0
 .have h1:=h.at_ hj (show Og l x<j by omega)
  cases g:bY l[j] x
  .rfl
  .rw[pH h1 g]at h0;cases h0
def PJ (l:List NS) (x:NS):Nat:=(l.takeWhile (fun y=> !cO y x)).length
theorem uh (l:List NS) (x:NS):PJ l x<=l.length:=by
 unfold PJ
 have h:=congrArg List.length (List.takeWhile_append_dropWhile (p:=fun y=> !cO y x) (l:=l))
 rw[tN]at h
 omega
theorem vf (a:NS) (l:List NS) (x:NS):PJ (a::l) x=if cO a x then 0 else PJ l x+1:=by
 unfold PJ
 rw[List.takeWhile_cons]
 cases h:cO a x<;>simp
theorem mw:∀{l:List NS} {x:NS} {j:Nat} (hj:j<PJ l x),cO (l[j]'(MR hj (uh l x))) x=false
 |[],_,j,hj=>absurd hj (by unfold PJ;simp)
 |a::l,x,j,hj=>by
  have e:=vf a l x
  cases h:cO a x
  .rw[h]at e;simp at e
   cases j with
   |zero=>exact h
   |succ j=>exact mw (l:=l) _a
  .rw[h]at e;simp at e;omega
theorem iW:∀{l:List NS} {x:NS} (h:PJ l x<l.length),cO (l[PJ l x]'h) x=true
 |[],_,h=>absurd h _b
 |a::l,x,h=>by
  have e:=vf a l x
  cases g:cO a x
  .rw[g]at e;simp at e
   simp only[e,Nt]
   exact iW (l:=l) (by rw[e]at h;simpa using h)
  .rw[g]at e;simp at e
   simp only[e];exact g
def di (l:List NS) (x:NS):Prop:=PJ l x<l.length
theorem SO :di l x↔∃y∈l,cO y x=true:=by
 constructor
 .intro h;exact⟨_,MJ h,iW h⟩
 .rintro⟨y,hy,he⟩
  obtain⟨j,hj,rfl⟩:=Nr.1 hy
  unfold di
  by_cases h:j<PJ l x
  .rw[mw h]at he;cases he
  .omega
theorem zH {l:List NS} {x:NS} {k:Nat} (hk:k<=l.length) (h1:∀j (hj:j<k),cO (l[j]' _a) x=false) (h2:∀(h:k<l.length),cO l[k] x=true):PJ l x=k:=by
 rcases Nat.lt_trichotomy (PJ l x) k with h|h|h
 .have:=iW (l:=l) (x:=x) _a
  rw[h1 _ h]at this;cases this
 .exact h
 .have:=mw h
  have hl:=uh l x
  rw[h2 _a]at this;cases this
theorem ly (hr:cG l) (h:di l x):Og l x=PJ l x:=
 ql (uh l x) (fun j hj=>by rw[<-jN (iW h)];exact hr.at_ h hj) (fun h'=>Xe (iW h'))
theorem ES (hr:cG l) (h:Og l x<l.length):(cO l[Og l x] x=true↔di l x):=by
 constructor
 .intro he;exact SO.2 ⟨_,MJ h,he⟩
 .intro hk
  have e:=ly hr hk
  have:=iW hk
  simp only[e];exact this
theorem EU (hr:cG l) (h:l.length<=Og l x):¬di l x:=fun hk=>by
 have e:=ly hr hk
 unfold di at hk
 omega
def Qm (l:List NS) (x:NS):List NS:=l.take (Og l x)++x::l.drop (Og l x)
def dI (l:List NS) (i:Nat):List NS:=l.take i++l.drop (i+1)
def gL (l:List NS) (i:Nat) (x:NS):List NS:=l.take i++x::l.drop (i+1)
theorem xE (l:List NS) (x:NS):(Qm l x).length=l.length+1:=by
 have:=jv l x
 unfold Qm;rw[tN,Nj,MO,MQ];omega
theorem nS (h:i<l.length):(dI l i).length+1=l.length:=by
 unfold dI;rw[tN,MO,MQ];omega
theorem wj (h:i<l.length):(gL l i x).length=l.length:=by
 unfold gL;rw[tN,Nj,MO,MQ];omega
theorem M86 (h:A:=by
 rcases Na.1 h with h|h
 .exact Or.inr (NJ h)
 .rcases List.mem_cons.1 h with h|h
  .exact Or.inl h
  .exact Or.inr (NF h)):A:=h
theorem rH (h:y∈Qm l x):y=x\/y∈l:=by
 unfold Qm at h
 exact M86
theorem rI (h:y∈dI l i):y∈l:=by
 unfold dI at h
 rcases Na.1 h with h|h
 .exact NJ h
 .exact NF h
theorem rG (h:y∈gL l i x):y=x\/y∈l:=by
 unfold gL at h
 exact M86
theorem lx {m:List NS} (h:cG l) (hs:m.Sublist l):cG m:=List.Pairwise.sublist hs h
theorem Eu (h:cG l) (i:Nat):cG (dI l i):=by
 refine lx h ?_
 unfold dI
 conv=>rhs;rw[<-List.take_append_drop i l]
 exact List.Sublist.append (List.Sublist.refl _) (by rw[<-List.drop_drop];exact List.drop_sublist 1 _)
theorem wI {a b:List NS} (ha:cG a) (hb:cG b) (hab:∀y∈a,∀z∈b,bY y z=true) (hax:∀y∈a,bY y x=true) (hxb:∀z∈b,bY x z=true):cG (a++x::b):=by
 refine List.pairwise_append.2 ⟨ha,List.pairwise_cons.2 ⟨hxb,hb⟩,fun y hy z hz=>?_⟩
 rcases List.mem_cons.1 hz with rfl|hz
 .exact hax y hy
 .exact hab y hy z hz
theorem sE (h:cG l) (i j:Nat) (VM:i<=j):∀y∈l.take i,∀z∈l.drop j,bY y z=true:=by
 intro y hy z hz
 obtain⟨a,ha,rfl⟩:=Nr.1 hy
 obtain⟨b,hb,rfl⟩:=Nr.1 hz
 rw[MO]at ha
 rw[MQ]at hb
 rw[List.getElem_take,List.getElem_drop]
 exact h.at_ _a _a
theorem Et (h:cG l) (hn:¬di l x):cG (Qm l x):=by
 refine wI (lx h (List.take_sublist _ _)) (lx h (List.drop_sublist _ _)) (sE h _ _ (MG _)) (fun y hy=>?_) (fun z hz=>?_)
 .obtain⟨a,ha,rfl⟩:=Nr.1 hy
  rw[MO]at ha
  rw[List.getElem_take]
  exact TM _a
 .obtain⟨b,hb,rfl⟩:=Nr.1 hz
  rw[MQ]at hb
  rw[List.getElem_drop]
  have h1:=h.ge (x:=x) (j:=Og l x+b) _a _a
  rcases Ie (l[Og l x+b]' _a) x with g|g|g
  .rw[g]at h1;cases h1
  .exact absurd (SO.2 ⟨_,MJ _a,g⟩) hn
  .exact g
theorem Es (h:cG l) (hi:i<l.length) (he:cO l[i] x=true):cG (gL l i x):=by
 refine wI (lx h (List.take_sublist _ _)) (lx h (List.drop_sublist _ _)) (sE h _ _ _a) (fun y hy=>?_) (fun z hz=>?_)
 .obtain⟨a,ha,rfl⟩:=Nr.1 hy
  rw[MO]at ha
  rw[List.getElem_take,<-jN he]
  exact h.at_ hi _a
 .obtain⟨b,hb,rfl⟩:=Nr.1 hz
  rw[MQ]at hb
  rw[List.getElem_drop,<-qL he]
  exact h.at_ _a _a
theorem Iq (h:cG l) (hi:i<l.length) (he:cO l[i] x=true):Qm (dI l i) x=gL l i x:=by
 have hd:=nS hi
 have e:Og (dI l i) x=i:=by
  refine ql _a (fun j hj=>?_) (fun h'=>?_)
  .have:(dI l i)[j]' _a=l[j]' _a:=by
    unfold dI
    rw[NM _w,List.getElem_take]
   rw[this,<-jN he]
   exact h.at_ hi hj
  .have h3:i+1<l.length:=_a
   have this:(dI l i)[i]? =l[i+1]? :=by
    unfold dI
    rw[List.getElem?_append_right _w,List.getElem?_drop]
    congr 1
    rw[MO];omega
   rw[MZ h',MZ h3]at this
   injection this with this
   rw[this]
   have h1:=h.at_ (i:=i) (j:=i+1) _a _a
   rw[qL he]at h1
   exact Da h1
 unfold Qm
 rw[e]
 unfold dI gL
 have hl:(l.take i).length=i:=_w
 rw[NC _a,List.take_take,Nat.min_self,List.drop_append_of_le_length _a,List.drop_of_length_le _a]
 rfl
def cE (k:Int) (l:List NS) (most:Nat):Prop:=l.length<=most/\(∀a∈l,az (a.told k)=true)/\cG l
def cZ (next:Int) (l:List NS):Prop:=1<=next/\∀a∈l,a.id<next
structure OL (c:au):Prop where
 boxes:cE 1 c.boxes 2048
 nb:cZ c.nextBox c.boxes
 mans:cE 2 c.mans 2048
 nm:cZ c.nextMan c.mans
 names:cE 3 c.names 256
theorem nH (h:az r=true):r.runs.length<=16:=by
 unfold az gq iD at h
 simp only[No,decide_eq_true_eq]at h
 exact h.2.2.2.2.2.2.1
theorem Fs (hk:k=1\/k=2) (h:az (a.told k)=true):a.name=[]/\a.id≠0/\a.id<=4294967294:=by
 unfold az gq NS.told at h
 rcases hk with rfl|rfl<;>simp[S4,Px,Oj]at h<;>exact⟨h.2.2.1,h.1,h.2.1⟩
theorem mc (h:az (a.told 3)=true):a.id=0/\a.name≠[]:=by
 unfold az gq NS.told at h
 simp[S4,Px,Oj]at h
 exact⟨h.1,h.2.2.1⟩
theorem BI {_:Int} (hr:cG l):cZ next l↔1<=next/\(l.length=0\/∃h:l.length-1<l.length,(l[l.length-1]'h).id<next):=by
 constructor
 .rintro⟨h1,h2⟩
  refine⟨h1,?_⟩
  by_cases h0:l.length=0
  .exact Or.inl h0
  .exact Or.inr ⟨_a,h2 _ (MJ _)⟩
 .rintro⟨h1,h2⟩
  refine⟨h1,fun a ha=>?_⟩
  obtain⟨j,hj,rfl⟩:=Nr.1 ha
  rcases h2 with h0|⟨h,h2⟩
  .omega
  .by_cases e:j=l.length-1
   .subst e;exact h2
   .have:=hr.at_ h (show j<l.length-1 by omega)
    rw[iV]at this
    omega
def jR:au:=⟨0,0,[],[],[]⟩
def cf:au:=⟨1,1,[],[],[]⟩
open Classical in
noncomputable def Oc (l:List NS) (x:NS) (next:Int) (most:Nat) (turns:Bool):List NS×Int:=
 if di l x/\turns=true then(gL l (PJ l x) x,0)else if di l x\/x.id<next then([],252)else if most<=l.length then([],240)else(Qm l x,0)
open Classical in
noncomputable def OU (l:List NS) (x:NS):List NS×Int:=if di l x then(dI l (PJ l x),0)else([],6)
noncomputable def aW (c:au) (r:ag):au×Int:=
 if r.kind=1 then({c with boxes:=(Oc c.boxes r.item c.nextBox 2048 false).1,nextBox:=r.id+1},(Oc c.boxes r.item c.nextBox 2048 false).2)
 else if r.kind=2 then({c with mans:=(Oc c.mans r.item c.nextMan 2048 true).1,nextMan:=max c.nextMan (r.id+1)},(Oc c.mans r.item c.nextMan 2048 true).2)
 else if r.kind=3 then({c with names:=(Oc c.names r.item 0 256 false).1},(Oc c.names r.item 0 256 false).2)
 else if r.kind=4 then({c with boxes:=(OU c.boxes r.item).1},(OU c.boxes r.item).2)
 else if r.kind=5 then({c with mans:=(OU c.mans r.item).1},(OU c.mans r.item).2)
 else({c with names:=(OU c.names r.item).1},(OU c.names r.item).2)
noncomputable def cH (c:au):List ag->au×Int
 |[]=>(c,0)
 |r::l=>if az r=true then if(aW c r).2=0 then cH (aW c r).1 l else(jR,(aW c r).2)else(jR,1)
open Classical in
noncomputable def N8 (c:au) (l:List ag):au×Int:=if OL c then cH c l else(jR,110)
theorem Fx (h:cE k l most) (hx:az (x.told k)=true) (hn:¬di l x) (hl:l.length<most):cE k (Qm l x) most:=
 ⟨by rw[xE];omega,fun a ha=>by rcases rH ha with rfl|ha;exact hx;exact h.2.1 a ha,Et h.2.2 hn⟩
theorem Fv (h:cE k l most) (hx:az (x.told k)=true) (hh:di l x):cE k (gL l (PJ l x) x) most:=
 ⟨by rw[wj hh];exact h.1,fun a ha=>by rcases rG ha with rfl|ha;exact hx;exact h.2.1 a ha,Es h.2.2 hh (iW hh)⟩
theorem Fy (h:cE k l most) (hi:i<l.length):cE k (dI l i) most:=
 ⟨by have:=nS hi;have:=h.1;omega,fun a ha=>h.2.1 a (rI ha),Eu h.2.2 i⟩
theorem pQ {turns:Bool} (h:cE k l most) (hx:az (x.told k)=true) (h0:(Oc l x next most turns).2=0):cE k (Oc l x next most turns).1 most/\∀a∈(Oc l x next most turns).1,a=x\/a∈l:=by
 unfold Oc at h0 ⊢
 by_cases h1:di l x/\turns=true
 .rw[if_pos h1];exact⟨Fv h hx h1.1,fun a ha=>rG ha⟩
 .rw[if_neg h1]at h0 ⊢
  by_cases h2:di l x\/x.id<next
  .rw[if_pos h2]at h0;cases h0
  .rw[if_neg h2]at h0 ⊢
   by_cases h3:most<=l.length
   .rw[if_pos h3]at h0;cases h0
   .rw[if_neg h3]
    exact⟨Fx h hx (fun hh=>h2 (Or.inl hh)) _a,fun a ha=>rH ha⟩
theorem rM (h:cE k l most) (h0:(OU l x).2=0):cE k (OU l x).1 most/\∀a∈(OU l x).1,a∈l:=by
 unfold OU at h0 ⊢
 by_cases h1:di l x
 .rw[if_pos h1];exact⟨Fy h h1,fun a ha=>rI ha⟩
 .rw[if_neg h1]at h0;cases h0
theorem tM (h:r.kind=k):r.item.told k=r:=by subst h;rfl
theorem nI (h:az r=true):r.kind=1\/r.kind=2\/r.kind=3\/r.kind=4\/r.kind=5\/r.kind=6:=by
 unfold az gq S4 Px at h
 simp only[No,Bool.or_eq_true,beq_iff_eq]at h
 omega
theorem xw (h:az r=true):r.id<=4294967294:=by
 unfold az gq at h
 simp only[No,decide_eq_true_eq]at h
 exact h.2.2.1
theorem tY {c:au} (hc:OL c) (hr:az r=true) (hid:0<=r.id) (h0:(aW c r).2=0):OL (aW c r).1:=by
 have⟨b,nb,m,nm,n⟩:=hc
 unfold aW at h0 ⊢
 by_cases k1:r.kind=1
 .rw[if_pos k1]at h0 ⊢
  have hh:(Oc c.boxes r.item c.nextBox 2048 false).2=0:=h0
  have⟨g1,g2⟩:=pQ b (by rw[tM k1];exact hr) hh
  refine⟨g1,⟨by show 1<=r.id+1;omega,fun a ha=>?_⟩,m,nm,n⟩
  rcases g2 a ha with rfl|ha
  .show r.id<r.id+1;omega
  .have h1:=nb.2 a ha
   have h2:¬r.id<c.nextBox:=fun NV=>by
    unfold Oc at hh
    by_cases q1:di c.boxes r.item/\false=true
    .cases q1.2
    .rw[if_neg q1,if_pos (show di c.boxes r.item\/r.item.id<c.nextBox from Or.inr NV)]at hh;cases hh
   show a.id<r.id+1
   omega
 .rw[if_neg k1]at h0 ⊢
  by_cases k2:r.kind=2
  .rw[if_pos k2]at h0 ⊢
   have⟨g1,g2⟩:=pQ m (by rw[tM k2];exact hr) h0
   refine⟨b,nb,g1,⟨by show 1<=max c.nextMan (r.id+1);omega,fun a ha=>?_⟩,n⟩
   rcases g2 a ha with rfl|ha
   .show r.id<max c.nextMan (r.id+1);omega
   .have:=nm.2 a ha
    show a.id<max c.nextMan (r.id+1);omega
  .rw[if_neg k2]at h0 ⊢
   by_cases k3:r.kind=3
   .rw[if_pos k3]at h0 ⊢
    exact⟨b,nb,m,nm,(pQ n (by rw[tM k3];exact hr) h0).1⟩
   .rw[if_neg k3]at h0 ⊢
    by_cases k4:r.kind=4
    .rw[if_pos k4]at h0 ⊢
     have⟨g1,g2⟩:=rM b h0
     exact⟨g1,⟨nb.1,fun a ha=>nb.2 a (g2 a ha)⟩,m,nm,n⟩
    .rw[if_neg k4]at h0 ⊢
     by_cases k5:r.kind=5
     .rw[if_pos k5]at h0 ⊢
      have⟨g1,g2⟩:=rM m h0
      exact⟨b,nb,g1,⟨nm.1,fun a ha=>nm.2 a (g2 a ha)⟩,n⟩
     .rw[if_neg k5]at h0 ⊢
      exact⟨b,nb,m,nm,(rM n h0).1⟩
theorem wL {l:List ag}:∀{c:au},OL c->(∀r∈l,0<=r.id)->(cH c l).2=0->OL (cH c l).1:=by
 induction l with
 |nil=>intro c h _ _;exact h
 |cons r l ih=>
  intro c h hid h0
  unfold cH at h0 ⊢
  by_cases h1:az r=true
  .rw[if_pos h1]at h0 ⊢
   by_cases h2:(aW c r).2=0
   .rw[if_pos h2]at h0 ⊢
    exact ih (tY h h1 (hid r MY) h2) (fun q hq=>hid q (Nz _ hq)) h0
   .rw[if_neg h2]at h0;exact absurd h0 h2
  .rw[if_neg h1]at h0;cases h0
def Ov (c:au):List ag:=c.boxes.map (·.told 1)++c.mans.map (·.told 2)++c.names.map (·.told 3)
def OK (c:au):List (Int×Int):=((Ov c).map (·.runs)).flatten
def cJ (cur:List Value) (o:Nat) (vs:List Value):List Value:=cur.take o++(vs++cur.drop (o+vs.length))
theorem gV (h:o+vs.length<=cur.length):(cJ cur o vs).length=cur.length:=by
 unfold cJ;rw[tN,tN,MO,MQ];omega
theorem Ej (cur:List Value) (o:Nat):cJ cur o []=cur:=by unfold cJ;simp
theorem B9 {r:List Value} (h:o<cur.length):cJ (cur.set o v) (o+1) r=cJ cur o (v::r):=by
 unfold cJ
 have e1:(cur.set o v).take (o+1)=cur.take o++[v]:=by
  rw[MI _T,List.getElem_set_self,List.take_set_of_le (MG _)]
 have e2:(cur.set o v).drop (o+1+r.length)=cur.drop (o+(v::r).length):=by
  rw[List.drop_set_of_lt _a,Nj]
  congr 1;omega
 rw[e1,e2]
 simp
theorem ae.oV {b:Nat} {t:TypeId}:∀(vs:List Value) (o:Nat) {w:World} {cur:List Value},ae w b cur.toArray t->o+vs.length<=cur.length->ae (w.setCells b o vs) b (cJ cur o vs).toArray t
 |[],o,w,cur,h,_=>by rw[Ej];exact h
 |v::r,o,w,cur,h,hl=>by
  rw[Nj]at hl
  have h1:=h.set o v
  rw[List.setIfInBounds_toArray]at h1
  have h2:=ae.oV r (o+1) h1 (by rw[List.length_set];omega)
  rw[B9 _a]at h2
  exact h2
theorem fA {S:List Nat} {w0:World} {b:Nat} (hb:b∈S\/w0.heap.size<=b):∀(vs:List Value) (o:Nat) {w:World},NP S w0 w->NP S w0 (w.setCells b o vs)
 |[],_,_,h=>h
 |v::r,o,w,h=>fA hb r (o+1) (h.setCell (by exact hb) v)
theorem ae.CK {b g:Nat} {t:TypeId} {cs:Array Value} (hg:b≠g):∀(vs:List Value) (o:Nat) {w:World},ae w b cs t->ae (w.setCells g o vs) b cs t
 |[],_,_,h=>h
 |v::r,o,w,h=>ae.CK hg r (o+1) (h.other (by exact hg) v)
theorem oU (h:o+vs.length<=cur.length):(cJ cur o vs).take (o+vs.length)=cur.take o++vs:=by
 unfold cJ
 have hl:(cur.take o).length=o:=_w
 rw[<-MW,NC ab!,Nh ab!]
theorem Ek {k:Nat} (h:o<=cur.length) (hk:k<=o):(cJ cur o vs).take k=cur.take k:=by
 unfold cJ
 rw[NC _w,List.take_take,Nat.min_eq_left hk]
def bO (w:World) (v:Value) (n k:Nat) (xs:List Value):Prop:=
 xs.length=n*k/\((n=0/\∃a c,v=.slice a 0 c)\/∃b off c,v=.slice (some ⟨b,off,none⟩) n c/\(∀j u,xs[j]? =some u->w.cell? ⟨b,off+j,none⟩=some u)/\b<w.heap.size/\0<n/\n<=c/\c<=maxLen)
theorem bO.kept0 {w':World} {k:Nat} (h:bO w v n k xs) (q:NP [] w w'):bO w' v n k xs:=by
 refine⟨h.1,?_⟩
 rcases h.2 with h2|⟨b,off,c,e,h3,h4,h5⟩
 .exact Or.inl h2
 .exact Or.inr ⟨b,off,c,e,fun j u hj=>(q.cell (by exact h4) _b).trans (h3 j u hj),MR h4 q.size,h5⟩
theorem bO.shape {k:Nat} (h:bO w v n k xs):∃p c,v=.slice p n c:=by
 rcases h.2 with⟨rfl,a,c,rfl⟩|⟨b,off,c,rfl,_⟩
 .exact⟨a,c,rfl⟩
 .exact⟨_,c,rfl⟩
theorem bO.bB {base:Nat} {e:TypeId} {k:Nat} (h:w.ownsRow base e k v n xs):bO w v n k xs:=by
 refine⟨h.1,?_⟩
 rcases h.2 with⟨rfl,rfl⟩|⟨g,c,cur,rfl,g1,g2,g3,g4,g5,g6⟩
 .exact Or.inl ⟨rfl,_,_,rfl⟩
 .by_cases h0:n=0
  .subst h0;exact Or.inl ⟨rfl,_,_,rfl⟩
  .refine Or.inr ⟨g,0,c,rfl,fun j u hj=>?_,NK g2,_a,g3,g4⟩
   have:=h.cells (g:=g) rfl j u hj
   rw[Ni]at this
   exact this
theorem bO.at_ {p:Option Addr} {c k:Nat} (h:bO w (p,n,c) n k xs) (hn:0<n):∃b off,p=some ⟨b,off,none⟩/\(∀j u,xs[j]? =some u->w.cell? ⟨b,off+j,none⟩=some u)/\b<w.heap.size/\n<=c/\c<=maxLen:=by
 rcases h.2 with⟨h0,_⟩|⟨b,off,c',e,h3,h4,h5,h6,h7⟩
 .omega
 .injection e with e1 _ e3
  subst e1 e3
  exact⟨b,off,rfl,h3,h4,h6,h7⟩
theorem bO.sub {b off c k:Nat} (h:bO w (.slice (some (aa b off)) n c) n k xs) (i j:Nat) (VM:i<=j) (hj:j<=n):bO w (.slice (some (aa b (off+i*k))) (j-i) (c-i)) (j-i) k ((xs.drop (i*k)).take ((j-i)*k)):=by
 have hl:((xs.drop (i*k)).take ((j-i)*k)).length=(j-i)*k:=by
  rw[MO,MQ,h.1]
  have h1:(j-i)*k+i*k<=n*k:=by rw[<-Nat.add_mul];exact Nat.mul_le_mul_right k _a
  omega
 refine⟨hl,?_⟩
 by_cases h0:j-i=0
 .rw[h0];exact Or.inl ⟨rfl,_,_,rfl⟩
 .have⟨b',off',e,h3,h4,h6,h7⟩:=h.at_ _a
  injection e with e
  injection e with e1 e2 _
  subst e1 e2
  refine Or.inr ⟨b,off+i*k,c-i,rfl,fun q u hq=>?_,h4,_a,_a,_a⟩
  have hq':=(Nn.1 hq).1
  rw[hl]at hq'
  rw[List.getElem?_take_of_lt hq',List.getElem?_drop]at hq
  rw[Nat.add_assoc]
  exact h3 _ u hq
theorem kB {P:Program} (w:World) (dT sT ty elem:TypeId) (k:Nat) (b o XH dCap:Nat) (a:Addr) (sLen sCap m:Nat) (cs:List Value)
  (hu:P.underlying dT=some (.slice elem)) (hs:(P.info? elem).map (·.size)=some k) (hm:Nat.min sLen XH=m) (hn:cs.length=m*k)
  (P4:∀j v,cs[j]? =some v->w.cell? (a.add j)=some v) (hc:∀j,j<cs.length->(w.cell? ⟨b,o+j,none⟩).isSome=true) (hf:∀j,j<cs.length->w.frozen? ⟨b,o+j,none⟩=false) (h1:∀v∈cs,v.oneCell'=true):
  (Builtin.copy_ #[dT,sT] ty #[.slice (some (aa b o)) XH dCap,.slice (some a) sLen sCap]).run P w=.ok (m:Int) (w.setCells b o cs):=by
 have hl:=run_loadCells_list (P:=P) w a cs P4
 have Oo:=run_storeCells_cells (P:=P) b o cs 0 w (by simpa using hc) (by simpa using hf) h1
 cases hq:P.info? elem with
 |none=>simp[hq]at hs
 |some i=>
  simp[hq]at hs
  rw[hn]at hl
  simp[Builtin.copy_,run_underlying hu,Builtin.lenOf,Builtin.firstCells,sizeOf,typeInfo,hq,hs,hm,hl,Oo,goInt]
theorem fg:∃i,prog.info? 113=some i/\i.zero=some (.agg #[.int .u32 0,.string {data:=#[]},(0:Int),()])/\i.size=4/\i.bytes=56:=by
 have hi:(prog.info? 113).map (fun i=>(i.zero,i.size,i.bytes))=some (some (.agg #[.int .u32 0,.string {data:=#[]},(0:Int),()]),4,56):=_c
 exact Yh
def NX (vs:List (NS×Value)):List Value:=(vs.map fun x=>[Value.int .u32 x.1.id,Value.string (bs x.1.name),Value.int .i64 x.1.size,x.2]).flatten
theorem gK (x:NS×Value) (vs:List (NS×Value)):NX (x::vs)=Value.int .u32 x.1.id::Value.string (bs x.1.name)::Value.int .i64 x.1.size::x.2::NX vs:=rfl
theorem fx (a b:List (NS×Value)):NX (a++b)=NX a++NX b:=by unfold NX;rw[M0,Nv]
theorem tb (vs:List (NS×Value)):(NX vs).length=vs.length*4:=by
 induction vs with
 |nil=>rfl
 |cons a l ih=>rw[gK];simp only[Nj,ih];omega
theorem gJ (vs:List (NS×Value)) (i:Nat):(NX vs).take (i*4)=NX (vs.take i):=by
 induction vs generalizing i with
 |nil=>simp[NX]
 |cons a l ih=>
  cases i with
  |zero=>simp[NX]
  |succ i=>
   rw[List.take_succ_cons,gK,gK,show(i+1)*4=i*4+1+1+1+1 by omega]
   simp only[List.take_succ_cons,ih]
theorem fL (vs:List (NS×Value)) (i:Nat):(NX vs).drop (i*4)=NX (vs.drop i):=by
 induction vs generalizing i with
 |nil=>simp[NX]
 |cons a l ih=>
  cases i with
  |zero=>simp[NX]
  |succ i=>
   rw[List.drop_succ_cons,gK,show(i+1)*4=i*4+1+1+1+1 by omega]
   simp only[List.drop_succ_cons,ih]
theorem tc (l:List (NS×Value)) (i:Nat) (h:i<l.length):(NX l)[i*4]? =some (.int .u32 l[i].1.id)/\(NX l)[i*4+1]? =some (.string (bs l[i].1.name))/\(NX l)[i*4+2]? =some (.int .i64 l[i].1.size)/\(NX l)[i*4+3]? =some l[i].2:=by
 have e:=fL l i
 rw[List.drop_eq_getElem_cons h,gK]at e
 have g:∀j,(NX l)[i*4+j]? =((NX l).drop (i*4))[j]? :=fun j=>by rw[List.getElem?_drop]
 have g0:=g 0
 rw[Nat.add_zero]at g0
 rw[g0,g 1,g 2,g 3,e]
 exact⟨rfl,rfl,rfl,rfl⟩
def fP (v:Value):Prop:=∃p n c,v=.slice p n c
theorem fB {vs:List (NS×Value)} (h:∀x∈vs,fP x.2):∀u∈NX vs,u.oneCell'=true:=by
 induction vs with
 |nil=>intro u hu;simp[NX]at hu
 |cons a l ih=>
  intro u hu
  rw[gK]at hu
  simp only[List.mem_cons]at hu
  rcases hu with rfl|rfl|rfl|rfl|hu
  .rfl
  .rfl
  .rfl
  .have⟨p,n,c,e⟩:=h a MY
   rw[e];rfl
  .exact ih (fun x hx=>h x (Nz _ hx)) u hu
theorem sd (v:Value) (n:Nat) (xs:List Value) (w:World) (h:bO w v n 4 xs) (h1:∀u∈xs,u.oneCell'=true) (hn:n<=1000000):
  am! 127 #[v] w fun e w'=>∃v',e=.returned v'/\w'.ownsRow w 113 4 v' n xs/\NP [] w w':=by
 have⟨i0,hi0,Rh,Qc,Qx⟩:=fg
 have q22:∀(w:World) (a:Option Addr) (n c n' c':Nat),(binOp .eql 50 (a,n,c) (.slice none n' c')).run prog w=.ok (.bool a.isNone) w:=fun w a n c n' c'=>Lib.run_eql_slice_nil w _ _ a n c n' c' underlying50
 obtain⟨p,c,rfl⟩:=h.shape
 cases p with
 |none=>
  have Wx:n=0:=by
   rcases h.2 with⟨h,_⟩|⟨b,off,c',e,_⟩
   .exact h
   .simp at e
  subst Wx
  have hx:xs=[]:=Nc (by rw[h.1])
  subst hx
  clear h h1
  go_enter func127,ntmps127
  go_wp2_with fail
  go_ret
  exact⟨_,rfl,Nf _ _ _ _,NP.refl _ _⟩
 |some ad=>
  have Ou:∀j u,xs[j]? =some u->w.cell? (ad.add j)=some u:=by
   rcases h.2 with⟨h0,_⟩|⟨b,off,c',e,h2,_⟩
   .intro j u hj
    have hx:xs=[]:=Nc (by rw[h.1];omega)
    subst hx;simp at hj
   .injection e with e1 _ e3
    injection e1 with e1
    subst e1
    intro j u hj
    rw[Ni]
    exact h2 j u hj
  have⟨A,VP,HR2⟩:=gg! Ou h.1 h1
  clear Ou h h1
  go_enter func127,ntmps127
  go_wp2_with (at_builtin;refine wpList_append_own _ rfl _ _ 50 rfl w 113 i0 _ 4 56 underlying50 hi0 Rh Qc Qx rfl _d _ _ _ rfl (World.ownsRow_made w #[] 0 (MG _) (Nb _) _b) ad n c xs rfl ?qc1 ?qc2 ?qc3 ?qc4 ?qc5 ?qc6 ?_)
  case qc1=>exact VP.out
  case qc2=>intro j u hj;exact Lib.cell?_alloc_some _ (A.out j u hj)
  case qc3=>exact HR2.out
  case qc4=>unfold maxLen;omega
  case qc5=>omega
  case qc6=>simp
  intro v' w1 Ot Pi Qw
  have P0:w1.ownsRow w 113 4 v' n xs:=by simpa using Ot
  exact M67
def XI (x y:Int):Int:=if x<y then -1 else if x=y then 0 else 1
theorem M41 (h:A:=by
 go_enter func267,ntmps267
 go_wp2_with fail
 refine(hn _ _).mono ?_;rintro e w1 ⟨rfl,rfl⟩
 go_wp2_with fail
 refine(hn _ _).mono ?_;rintro e w1 ⟨rfl,rfl⟩
 go_wp2_with fail
 go_ret
 exact⟨rfl,rfl⟩):A:=h
theorem Kp (x y:Int) (w:World):am! 267 #[(x,()),(y,())] w fun e w'=>e=(XI x y:Int)/\w=w':=by
 have hn:∀(x:Int) W,am! 290 #[(x,())] W fun e w'=>e=false/\W=w':=fun x W=>by
  go_enter func290,ntmps290
  go_wp2_with fail
  go_ret
  exact⟨rfl,rfl⟩
 unfold XI
 rcases Int.lt_trichotomy x y with h|h|h
 .rw[if_pos h]
  exact M41
 .subst h
  rw[if_neg _a,if_pos rfl]
  exact M41
 .have h1:¬x<y:=_a
  have h2:¬x=y:=_a
  rw[if_neg h1,if_neg h2]
  exact M41
theorem adq (h:A:=by
 rw[rounds_succ]
 go_wp2_with fail
 rw[rounds_succ]
 go_wp2_with fail
 go_ret
 exact⟨rfl,rfl⟩):A:=h
theorem MA (x y:Int) (b:Nat) (w:World) (h0:w.cell? b=x) (h1:w.cell? (aa b 1)=y):
  am! 266 #[.slice (some b) 2 2] w fun e w'=>e=(if x=0 then y else x:Int)/\w=w':=by
 by_cases hx:x=0
 .subst hx
  rw[if_pos rfl]
  by_cases hy:y=0
  .subst hy
   go_enter func266,ntmps266
   go_wp2_with fail
   refine wp_loop_rounds 3 ?_
   rw[rounds_succ]
   go_wp2_with fail
   exact adq
  .go_enter func266,ntmps266
   go_wp2_with fail
   refine wp_loop_rounds 3 ?_
   exact adq
 .rw[if_neg hx]
  go_enter func266,ntmps266
  go_wp2_with fail
  refine wp_loop_rounds 3 ?_
  rw[rounds_succ]
  go_wp2_with fail
  go_ret
  exact⟨rfl,rfl⟩
theorem Hz (a b:NS):(if XI a.id b.id=0 then Zx a.name b.name else XI a.id b.id)=mu a b:=by
 unfold XI Zx mu bY cO
 rcases Int.lt_trichotomy a.id b.id with h|h|h
 .rw[if_pos h];simp[h]
 .rw[h]
  simp
 .have h1:¬a.id<b.id:=_a
  have h2:¬a.id=b.id:=_a
  simp[h1,h2]
theorem BL (a b:NS) (va vb:Value) (w:World):am! 233 #[.agg (a.cells va),.agg (b.cells vb)] w fun e w'=>e=(mu a b:Int)/\NP [] w w':=by
 rw[<-Hz]
 have hc:=fun W=>Kp a.id b.id W
 have hs:=fun W=>strings_Compare (bs a.name) (bs b.name) W
 simp only[cC,zT]at hs
 unfold NS.cells
 have k0:=((NP.refl [] w).alloc (.cells #[(a.id,()),a.name,a.size,va] 113)).alloc (.cells #[(b.id,()),b.name,b.size,vb] 113)
 have⟨oA,oB⟩:=ch w #[(a.id,()),a.name,a.size,va] #[(b.id,()),b.name,b.size,vb] 113 113
 have⟨a0,a1,a2,a3⟩:=oA.c4
 have⟨b0,b1,b2,b3⟩:=oB.c4
 clear oA oB
 generalize XI a.id b.id=C at*
 generalize Zx a.name b.name=D at*
 have ho:=fun b W h0 h1=>MA C D b W h0 h1
 obtain⟨R,hR⟩:∃R,(if C=0 then D else C)=R:=⟨_,rfl⟩
 simp only[hR]at ho ⊢
 clear hR
 generalize bs a.name=NA at*
 generalize bs b.name=NB at*
 go_enter func233,ntmps233
 go_wp2_with fail
 refine MK (S:=(fun W=>W.cell? w=(a.id,())/\W.cell? (aa w 1)=some (.string NA)/\W.cell? (aa (w+1) 0)=(b.id,())/\W.cell? (aa (w+1) 1)=some (.string NB))) _c (by go_keep) (fun hHeld=>?_)
 refine tS ?_
 refine rD 4 (fun K hK=>?_)
 go_simp
 ((with_reducible refine(hc _).mono ?_));rintro e w' ⟨rfl,rfl⟩
 go_wp2_with fail
 refine hK.out _ _ ?_ (fun hHeld=>nM ?_)
 .go_keep
 clear hK K
 refine rD 9 (fun K hK=>?_)
 go_simp
 ((with_reducible refine(hs _).mono ?_));rintro e w' ⟨rfl,rfl⟩
 go_wp2_with fail
 refine hK.out _ _ ?_ (fun hHeld=>nM ?_)
 .go_keep
 clear hK K
 refine rD 10 (fun K hK=>?_)
 go_simp
 refine hK.out _ _ ?_ (fun hHeld=>nM ?_)
 .go_keep
 clear hK K
 refine rD 11 (fun K hK=>?_)
 go_simp
 ((with_reducible refine(ho _ _ ?_ ?_).mono ?_))
 .go_simp
 .go_simp
 rintro e w' ⟨rfl,rfl⟩
 go_wp2_with fail
 refine hK.out _ _ ?_ (fun hHeld=>nM ?_)
 .go_keep
 clear hK K
 refine tS ?_
 refine Ng _c ?_ _
 go_wp2_with fail
 go_ret
 exact⟨rfl,(k0.drew.alloc _)⟩

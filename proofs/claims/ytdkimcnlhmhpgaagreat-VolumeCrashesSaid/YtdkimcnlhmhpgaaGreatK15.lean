/- -/
import Derived.Test.YtdkimcnlhmhpgaaGreatK12
import Derived.Test.YtdkimcnlhmhpgaaGreatK13
set_option maxHeartbeats 16000000
set_option maxRecDepth 100000
set_option linter.unusedVariables false
namespace Go.Proofs.YtdkimcnlhmhpgaaGreat
open Go.RowKit
variable {k next:Int} {i j most o n:Nat} {A:Prop} {cur vs xs:List Value} {v:Value} {w:World}
structure Nf where
 id:Int
 name:List UInt8
 size:Int
 runs:List (Int×Int)
 deriving Inhabited,DecidableEq
def Nf.fits (a:Nf):Prop:=(Lit.int .u32 a.id).wf=true/\a.name.length<=maxLen/\(Lit.int .i64 a.size).wf=true
def Nf.told (k:Int) (a:Nf):ag:=⟨k,a.id,a.name,a.size,a.runs⟩
def Nf.cells (a:Nf) (v:Value):Array Value:=#[.int .u32 a.id,.string (bs a.name),.int .i64 a.size,v]
def ag.item (r:ag):Nf:=⟨r.id,r.name,r.size,r.runs⟩
variable {a b c x y:Nf}
theorem Nf.gB (h:a.fits) (hk:(Lit.int .i64 k).wf=true):(a.told k).fits:=⟨hk,h.1,h.2.1,h.2.2⟩
variable {r:ag}
theorem ag.jk (h:r.fits):r.item.fits:=⟨h.2.1,h.2.2.1,h.2.2.2⟩
structure aj where
 nextBox:Int
 nextMan:Int
 boxes:List Nf
 mans:List Nf
 names:List Nf
 deriving Inhabited,DecidableEq
def nj (a b:List UInt8):Bool:=Op.bytesLess a b
theorem As (a:List UInt8):nj a []=false:=by unfold nj;cases a<;>rfl
theorem lP (a b:UInt8) (x y:List UInt8):nj (a::x) (b::y)=(decide (a<b)||(a==b&&nj x y)):=rfl
theorem Au:∀a:List UInt8,nj a a=false
 |[]=>rfl
 |a::x=>by rw[lP,Au x];simp[UInt8.lt_irrefl]
theorem vQ:∀{a b c:List UInt8},nj a b=true->nj b c=true->nj a c=true
 |a,[],c,h,_=>by rw[As]at h;cases h
 |a,_::_,[],_,h=>by rw[As]at h;cases h
 |[],_::_,_::_,_,_=>rfl
 |a::x,b::y,c::z,h1,h2=>by
  rw[lP]at h1 h2 ⊢
  simp only[Bool.or_eq_true,MJ,decide_eq_true_eq,beq_iff_eq]at h1 h2 ⊢
  rcases h1 with h1|⟨rfl,h1⟩
  .rcases h2 with h2|⟨rfl,h2⟩
   .exact Or.inl (UInt8.lt_trans h1 h2)
   .exact Or.inl h1
  .rcases h2 with h2|⟨rfl,h2⟩
   .exact Or.inl h2
   .exact Or.inr ⟨rfl,vQ h1 h2⟩
theorem Ar:∀a b:List UInt8,nj a b=true\/a=b\/nj b a=true
 |[],[]=>Or.inr (Or.inl rfl)
 |[],_::_=>Or.inl rfl
 |_::_,[]=>Or.inr (Or.inr rfl)
 |a::x,b::y=>by
  rw[lP,lP]
  simp only[Bool.or_eq_true,MJ,decide_eq_true_eq,beq_iff_eq,List.cons.injEq]
  by_cases h1:a<b
  .exact Or.inl (Or.inl h1)
  .by_cases h2:b<a
   .exact Or.inr (Or.inr (Or.inl h2))
   .have e:a=b:=UInt8.le_antisymm (UInt8.not_lt.1 h2) (UInt8.not_lt.1 h1)
    subst e
    rcases Ar x y with h|h|h
    .exact Or.inl (Or.inr ⟨rfl,h⟩)
    .exact Or.inr (Or.inl ⟨rfl,h⟩)
    .exact Or.inr (Or.inr (Or.inr ⟨rfl,h⟩))
def Xl (a b:List UInt8):Int:=if nj a b then -1 else if a=b then 0 else 1
theorem AK:∀a b:List UInt8,Lib.compareBytes a b=Xl a b
 |[],[]=>rfl
 |[],_::_=>rfl
 |_::_,[]=>rfl
 |a::x,b::y=>by
  have ih:=AK x y
  unfold Lib.compareBytes
  unfold Xl at ih ⊢
  rw[lP]
  by_cases h1:a<b
  .rw[if_pos h1];simp[h1]
  .rw[if_neg h1]
   by_cases h2:b<a
   .rw[if_pos h2]
    have Ot:¬a=b:=fun e=>by subst e;exact UInt8.lt_irrefl _ h2
    simp[h1,Ot]
   .have e:a=b:=UInt8.le_antisymm (UInt8.not_lt.1 h2) (UInt8.not_lt.1 h1)
    subst e
    rw[if_neg h2,ih]
    simp[h1]
def cX (a b:Nf):Bool:=decide (a.id<b.id)||(a.id==b.id&&nj a.name b.name)
def fa (a b:Nf):Bool:=a.id==b.id&&a.name==b.name
theorem nz :fa a b=true↔a.id=b.id/\a.name=b.name:=by unfold fa;simp
theorem rh :cX a b=true↔a.id<b.id\/(a.id=b.id/\nj a.name b.name=true):=by unfold cX;simp
theorem vR (h1:cX a b=true) (h2:cX b c=true):cX a c=true:=by
 rw[rh]at*
 rcases h1 with h1|⟨e1,h1⟩<;>rcases h2 with h2|⟨e2,h2⟩
 .left;omega
 .left;omega
 .left;omega
 .right;exact⟨by omega,vQ h1 h2⟩
theorem IF (a b:Nf):cX a b=true\/fa a b=true\/cX b a=true:=by
 rw[rh,rh,nz]
 rcases Int.lt_trichotomy a.id b.id with h|h|h
 .exact Or.inl (Or.inl h)
 .rcases Ar a.name b.name with g|g|g
  .exact Or.inl (Or.inr ⟨h,g⟩)
  .exact Or.inr (Or.inl ⟨h,g⟩)
  .exact Or.inr (Or.inr (Or.inr ⟨h.symm,g⟩))
 .exact Or.inr (Or.inr (Or.inl h))
theorem U0 (h:fa a b=true):cX a b=false:=by
 rw[nz]at h
 unfold cX;rw[h.1,h.2,Au];simp
theorem mO (h:fa b c=true):cX a b=cX a c:=by rw[nz]at h;unfold cX;rw[h.1,h.2]
theorem zj (h:fa a b=true):cX a c=cX b c:=by rw[nz]at h;unfold cX;rw[h.1,h.2]
theorem zV (h:fa b c=true):fa a b=fa a c:=by rw[nz]at h;unfold fa;rw[h.1,h.2]
def mM (a b:Nf):Int:=if cX a b then -1 else if fa a b then 0 else 1
theorem q7 :mM a b<0↔cX a b=true:=by
 unfold mM;split
 .simp_all
 .split<;>simp_all
theorem vJ :mM a b=0↔fa a b=true:=by
 unfold mM;split
 .rename_i h
  constructor
  .intro h';cases h'
  .intro h';rw[U0 h']at h;cases h
 .split<;>simp_all
def cV (l:List Nf):Prop:=l.Pairwise (fun a b=>cX a b=true)
theorem Dd {l:List Nf} (h:∀k (hk:k+1<l.length),cX l[k] l[k+1]=true):cV l:=by
 unfold cV
 rw[List.pairwise_iff_getElem]
 intro i j hi hj Vu
 obtain⟨m,rfl⟩:∃m,j=i+1+m:=⟨j-i-1,by omega⟩
 clear Vu
 induction m with
 |zero=>exact h i hj
 |succ m ih=>exact vR (ih (by omega)) (h (i+1+m) hj)
variable {l:List Nf}
theorem cV.at_ (h:cV l) (hj:j<l.length) (Vu:i<j):cX (l[i]'(by omega)) l[j]=true:=List.pairwise_iff_getElem.1 h i j (by omega) hj Vu
def NP (l:List Nf) (x:Nf):Nat:=(l.takeWhile (fun y=>cX y x)).length
theorem lh (l:List Nf) (x:Nf):NP l x<=l.length:=by
 unfold NP
 have h:=congrArg List.length (List.takeWhile_append_dropWhile (p:=fun y=>cX y x) (l:=l))
 rw[Mc]at h
 omega
theorem vE (a:Nf) (l:List Nf) (x:Nf):NP (a::l) x=if cX a x then NP l x+1 else 0:=by
 unfold NP
 rw[List.takeWhile_cons]
 split<;>simp
theorem RA:∀{l:List Nf} {x:Nf} {j:Nat} (hj:j<NP l x),cX (l[j]'(Mo hj (lh l x))) x=true
 |[],_,j,hj=>absurd hj (by unfold NP;simp)
 |a::l,x,j,hj=>by
  have e:=vE a l x
  cases h:cX a x
  .rw[h]at e;simp at e;omega
  .rw[h]at e
   simp at e
   cases j with
   |zero=>exact h
   |succ j=>exact RA (l:=l) (by omega)
theorem uP:∀{l:List Nf} {x:Nf} (h:NP l x<l.length),cX (l[NP l x]'h) x=false
 |[],_,h=>absurd h (by simp)
 |a::l,x,h=>by
  have e:=vE a l x
  cases g:cX a x
  .rw[g]at e;simp at e
   simp only[e]
   exact g
  .rw[g]at e
   simp at e
   simp only[e,MW]
   exact uP (l:=l) (by rw[e]at h;simpa using h)
theorem Ir {l:List Nf} {x:Nf} {k:Nat} (hk:k<=l.length) (h1:∀j (hj:j<k),cX (l[j]'(by omega)) x=true) (h2:∀(h:k<l.length),cX l[k] x=false):NP l x=k:=by
 rcases Nat.lt_trichotomy (NP l x) k with h|h|h
 .have:=uP (l:=l) (x:=x) (by omega)
  rw[h1 _ h]at this;cases this
 .exact h
 .have:=RA h
  have hl:=lh l x
  rw[h2 (by omega)]at this;cases this
theorem cV.ge (h:cV l) (hj:j<l.length) (hp:NP l x<=j):cX l[j] x=false:=by
 have h0:=uP (l:=l) (x:=x) (by omega)
 by_cases e:NP l x=j
 .subst e;exact h0
 .have h1:=h.at_ hj (show NP l x<j by omega)
  cases g:cX l[j] x
  .rfl
  .rw[vR h1 g]at h0;cases h0
def gA (l:List Nf) (x:Nf):Nat:=(l.takeWhile (fun y=> !fa y x)).length
theorem AD (l:List Nf) (x:Nf):gA l x<=l.length:=by
 unfold gA
 have h:=congrArg List.length (List.takeWhile_append_dropWhile (p:=fun y=> !fa y x) (l:=l))
 rw[Mc]at h
 omega
theorem vW (a:Nf) (l:List Nf) (x:Nf):gA (a::l) x=if fa a x then 0 else gA l x+1:=by
 unfold gA
 rw[List.takeWhile_cons]
 cases h:fa a x<;>simp
theorem rP:∀{l:List Nf} {x:Nf} {j:Nat} (hj:j<gA l x),fa (l[j]'(Mo hj (AD l x))) x=false
 |[],_,j,hj=>absurd hj (by unfold gA;simp)
 |a::l,x,j,hj=>by
  have e:=vW a l x
  cases h:fa a x
  .rw[h]at e;simp at e
   cases j with
   |zero=>exact h
   |succ j=>exact rP (l:=l) (by omega)
  .rw[h]at e;simp at e;omega
theorem lq:∀{l:List Nf} {x:Nf} (h:gA l x<l.length),fa (l[gA l x]'h) x=true
 |[],_,h=>absurd h (by simp)
 |a::l,x,h=>by
  have e:=vW a l x
  cases g:fa a x
  .rw[g]at e;simp at e
   simp only[e,MW]
   exact lq (l:=l) (by rw[e]at h;simpa using h)
  .rw[g]at e;simp at e
   simp only[e];exact g
def dV (l:List Nf) (x:Nf):Prop:=gA l x<l.length
theorem QO :dV l x↔∃y∈l,fa y x=true:=by
 constructor
 .intro h;exact⟨_,Mh h,lq h⟩
 .rintro⟨y,hy,he⟩
  obtain⟨j,hj,rfl⟩:=MO.1 hy
  unfold dV
  by_cases h:j<gA l x
  .rw[rP h]at he;cases he
  .omega
theorem lH (hr:cV l) (h:dV l x):NP l x=gA l x:=
 Ir (AD l x) (fun j hj=>by rw[<-mO (lq h)];exact hr.at_ h hj) (fun h'=>U0 (lq h'))
theorem Fq (hr:cV l) (h:NP l x<l.length):(fa l[NP l x] x=true↔dV l x):=by
 constructor
 .intro he;exact QO.2 ⟨_,Mh h,he⟩
 .intro hk
  have e:=lH hr hk
  have:=lq hk
  simp only[e];exact this
theorem Fs (hr:cV l) (h:l.length<=NP l x):¬dV l x:=fun hk=>by
 have e:=lH hr hk
 unfold dV at hk
 omega
def P0 (l:List Nf) (x:Nf):List Nf:=l.take (NP l x)++x::l.drop (NP l x)
def ik (l:List Nf) (i:Nat):List Nf:=l.take i++l.drop (i+1)
def jd (l:List Nf) (i:Nat) (x:Nf):List Nf:=l.take i++x::l.drop (i+1)
theorem xU (l:List Nf) (x:Nf):(P0 l x).length=l.length+1:=by
 have:=lh l x
 unfold P0;rw[Mc,Mz,Mp,Mq];omega
theorem yg (h:i<l.length):(ik l i).length+1=l.length:=by
 unfold ik;rw[Mc,Mp,Mq];omega
theorem xj (h:i<l.length):(jd l i x).length=l.length:=by
 unfold jd;rw[Mc,Mz,Mp,Mq];omega
theorem M70 (h:A:=by
 rcases Mj.1 h with h|h
 .exact Or.inr (List.mem_of_mem_take h)
 .rcases List.mem_cons.1 h with h|h
  .exact Or.inl h
  .exact Or.inr (Nb h)):A:=h
theorem sE (h:y∈P0 l x):y=x\/y∈l:=by
 unfold P0 at h
 exact M70
theorem sF (h:y∈ik l i):y∈l:=by
 unfold ik at h
 rcases Mj.1 h with h|h
 .exact List.mem_of_mem_take h
 .exact Nb h
theorem sD (h:y∈jd l i x):y=x\/y∈l:=by
 unfold jd at h
 exact M70
theorem lA {m:List Nf} (h:cV l) (hs:m.Sublist l):cV m:=List.Pairwise.sublist hs h
theorem Fe (h:cV l) (i:Nat):cV (ik l i):=by
 refine lA h ?_
 unfold ik
 conv=>rhs;rw[<-List.take_append_drop i l]
 exact List.Sublist.append (List.Sublist.refl _) (by rw[<-List.drop_drop];exact List.drop_sublist 1 _)
theorem xt {a b:List Nf} (ha:cV a) (hb:cV b) (Xs:∀y∈a,∀z∈b,cX y z=true) (hax:∀y∈a,cX y x=true) (hxb:∀z∈b,cX x z=true):cV (a++x::b):=by
 refine List.pairwise_append.2 ⟨ha,List.pairwise_cons.2 ⟨hxb,hb⟩,fun y hy z hz=>?_⟩
 rcases List.mem_cons.1 hz with rfl|hz
 .exact hax y hy
 .exact Xs y hy z hz
theorem tw (h:cV l) (i j:Nat) (Vu:i<=j):∀y∈l.take i,∀z∈l.drop j,cX y z=true:=by
 intro y hy z hz
 obtain⟨a,ha,rfl⟩:=MO.1 hy
 obtain⟨b,hb,rfl⟩:=MO.1 hz
 rw[Mp]at ha
 rw[Mq]at hb
 rw[List.getElem_take,List.getElem_drop]
 exact h.at_ (by omega) (by omega)
theorem Fc (h:cV l) (hn:¬dV l x):cV (P0 l x):=by
 refine xt (lA h (List.take_sublist _ _)) (lA h (List.drop_sublist _ _)) (tw h _ _ (Md _)) (fun y hy=>?_) (fun z hz=>?_)
 .obtain⟨a,ha,rfl⟩:=MO.1 hy
  rw[Mp]at ha
  rw[List.getElem_take]
  exact RA (by omega)
 .obtain⟨b,hb,rfl⟩:=MO.1 hz
  rw[Mq]at hb
  rw[List.getElem_drop]
  have h1:=h.ge (x:=x) (j:=NP l x+b) (by omega) (by omega)
  rcases IF (l[NP l x+b]'(by omega)) x with g|g|g
  .rw[g]at h1;cases h1
  .exact absurd (QO.2 ⟨_,Mh (by omega),g⟩) hn
  .exact g
theorem Fb (h:cV l) (hi:i<l.length) (he:fa l[i] x=true):cV (jd l i x):=by
 refine xt (lA h (List.take_sublist _ _)) (lA h (List.drop_sublist _ _)) (tw h _ _ (by omega)) (fun y hy=>?_) (fun z hz=>?_)
 .obtain⟨a,ha,rfl⟩:=MO.1 hy
  rw[Mp]at ha
  rw[List.getElem_take,<-mO he]
  exact h.at_ hi (by omega)
 .obtain⟨b,hb,rfl⟩:=MO.1 hz
  rw[Mq]at hb
  rw[List.getElem_drop,<-zj he]
  exact h.at_ (by omega) (by omega)
def fZ (k:Int) (l:List Nf) (most:Nat):Prop:=l.length<=most/\(∀a∈l,az (a.told k)=true)/\cV l
def ki (next:Int) (l:List Nf):Prop:=1<=next/\∀a∈l,a.id<next
structure aM (c:aj):Prop where
 boxes:fZ 1 c.boxes 2048
 nb:ki c.nextBox c.boxes
 mans:fZ 2 c.mans 2048
 nm:ki c.nextMan c.mans
 names:fZ 3 c.names 256
theorem eV (h:az r=true):r.runs.length<=16:=by
 unfold az aA eX at h
 simp only[MJ,decide_eq_true_eq]at h
 exact h.2.2.2.2.2.2.1
theorem Ct {k:Int} (hr:cV l):ki next l↔1<=next/\(l.length=0\/∃h:l.length-1<l.length,(l[l.length-1]'h).id<next):=by
 constructor
 .rintro⟨h1,h2⟩
  refine⟨h1,?_⟩
  by_cases h0:l.length=0
  .exact Or.inl h0
  .exact Or.inr ⟨by omega,h2 _ (Mh _)⟩
 .rintro⟨h1,h2⟩
  refine⟨h1,fun a ha=>?_⟩
  obtain⟨j,hj,rfl⟩:=MO.1 ha
  rcases h2 with h0|⟨h,h2⟩
  .omega
  .by_cases e:j=l.length-1
   .subst e;exact h2
   .have:=hr.at_ h (show j<l.length-1 by omega)
    rw[rh]at this
    omega
def oT:aj:=⟨0,0,[],[],[]⟩
def bI:aj:=⟨1,1,[],[],[]⟩
open Classical in
noncomputable def NL (l:List Nf) (x:Nf) (next:Int) (most:Nat) (turns:Bool):List Nf×Int:=
 if dV l x/\turns=true then(jd l (gA l x) x,0)else if dV l x\/x.id<next then([],252)else if most<=l.length then([],240)else(P0 l x,0)
open Classical in
noncomputable def Of (l:List Nf) (x:Nf):List Nf×Int:=if dV l x then(ik l (gA l x),0)else([],6)
noncomputable def bE (c:aj) (r:ag):aj×Int:=
 if r.kind=1 then({c with boxes:=(NL c.boxes r.item c.nextBox 2048 false).1,nextBox:=r.id+1},(NL c.boxes r.item c.nextBox 2048 false).2)
 else if r.kind=2 then({c with mans:=(NL c.mans r.item c.nextMan 2048 true).1,nextMan:=max c.nextMan (r.id+1)},(NL c.mans r.item c.nextMan 2048 true).2)
 else if r.kind=3 then({c with names:=(NL c.names r.item 0 256 false).1},(NL c.names r.item 0 256 false).2)
 else if r.kind=4 then({c with boxes:=(Of c.boxes r.item).1},(Of c.boxes r.item).2)
 else if r.kind=5 then({c with mans:=(Of c.mans r.item).1},(Of c.mans r.item).2)
 else({c with names:=(Of c.names r.item).1},(Of c.names r.item).2)
noncomputable def b9 (c:aj):List ag->aj×Int
 |[]=>(c,0)
 |r::l=>if az r=true then if(bE c r).2=0 then b9 (bE c r).1 l else(oT,(bE c r).2)else(oT,1)
open Classical in
noncomputable def Nn (c:aj) (l:List ag):aj×Int:=if aM c then b9 c l else(oT,110)
theorem FN (h:fZ k l most) (hx:az (x.told k)=true) (hn:¬dV l x) (hl:l.length<most):fZ k (P0 l x) most:=
 ⟨by rw[xU];omega,fun a ha=>by rcases sE ha with rfl|ha;exact hx;exact h.2.1 a ha,Fc h.2.2 hn⟩
theorem FM (h:fZ k l most) (hx:az (x.told k)=true) (hh:dV l x):fZ k (jd l (gA l x) x) most:=
 ⟨by rw[xj hh];exact h.1,fun a ha=>by rcases sD ha with rfl|ha;exact hx;exact h.2.1 a ha,Fb h.2.2 hh (lq hh)⟩
theorem FO (h:fZ k l most) (hi:i<l.length):fZ k (ik l i) most:=
 ⟨by have:=yg hi;have:=h.1;omega,fun a ha=>h.2.1 a (sF ha),Fe h.2.2 i⟩
theorem qD {turns:Bool} (h:fZ k l most) (hx:az (x.told k)=true) (h0:(NL l x next most turns).2=0):fZ k (NL l x next most turns).1 most/\∀a∈(NL l x next most turns).1,a=x\/a∈l:=by
 unfold NL at h0 ⊢
 by_cases h1:dV l x/\turns=true
 .rw[if_pos h1];exact⟨FM h hx h1.1,fun a ha=>sD ha⟩
 .rw[if_neg h1]at h0 ⊢
  by_cases h2:dV l x\/x.id<next
  .rw[if_pos h2]at h0;cases h0
  .rw[if_neg h2]at h0 ⊢
   by_cases h3:most<=l.length
   .rw[if_pos h3]at h0;cases h0
   .rw[if_neg h3]
    exact⟨FN h hx (fun hh=>h2 (Or.inl hh)) (by omega),fun a ha=>sE ha⟩
theorem sM (h:fZ k l most) (h0:(Of l x).2=0):fZ k (Of l x).1 most/\∀a∈(Of l x).1,a∈l:=by
 unfold Of at h0 ⊢
 by_cases h1:dV l x
 .rw[if_pos h1];exact⟨FO h h1,fun a ha=>sF ha⟩
 .rw[if_neg h1]at h0;cases h0
theorem uJ (h:r.kind=k):r.item.told k=r:=by subst h;rfl
theorem sG (h:az r=true):r.kind=1\/r.kind=2\/r.kind=3\/r.kind=4\/r.kind=5\/r.kind=6:=by
 unfold az aA Qa Ob at h
 simp only[MJ,Bool.or_eq_true,beq_iff_eq]at h
 omega
theorem lM (h:az r=true):r.id<=4294967294:=by
 unfold az aA at h
 simp only[MJ,decide_eq_true_eq]at h
 exact h.2.2.1
theorem Ao {c:aj} (hc:aM c) (hr:az r=true) (hid:0<=r.id) (h0:(bE c r).2=0):aM (bE c r).1:=by
 obtain⟨b,nb,m,nm,n⟩:=hc
 unfold bE at h0 ⊢
 by_cases k1:r.kind=1
 .rw[if_pos k1]at h0 ⊢
  have hh:(NL c.boxes r.item c.nextBox 2048 false).2=0:=h0
  obtain⟨g1,g2⟩:=qD b (by rw[uJ k1];exact hr) hh
  refine⟨g1,⟨by show 1<=r.id+1;omega,fun a ha=>?_⟩,m,nm,n⟩
  rcases g2 a ha with rfl|ha
  .show r.id<r.id+1;omega
  .have h1:=nb.2 a ha
   have h2:¬r.id<c.nextBox:=fun Ns=>by
    unfold NL at hh
    by_cases q1:dV c.boxes r.item/\false=true
    .cases q1.2
    .rw[if_neg q1,if_pos (show dV c.boxes r.item\/r.item.id<c.nextBox from Or.inr Ns)]at hh;cases hh
   show a.id<r.id+1
   omega
 .rw[if_neg k1]at h0 ⊢
  by_cases k2:r.kind=2
  .rw[if_pos k2]at h0 ⊢
   obtain⟨g1,g2⟩:=qD m (by rw[uJ k2];exact hr) h0
   refine⟨b,nb,g1,⟨by show 1<=max c.nextMan (r.id+1);omega,fun a ha=>?_⟩,n⟩
   rcases g2 a ha with rfl|ha
   .show r.id<max c.nextMan (r.id+1);omega
   .have:=nm.2 a ha
    show a.id<max c.nextMan (r.id+1);omega
  .rw[if_neg k2]at h0 ⊢
   by_cases k3:r.kind=3
   .rw[if_pos k3]at h0 ⊢
    exact⟨b,nb,m,nm,(qD n (by rw[uJ k3];exact hr) h0).1⟩
   .rw[if_neg k3]at h0 ⊢
    by_cases k4:r.kind=4
    .rw[if_pos k4]at h0 ⊢
     obtain⟨g1,g2⟩:=sM b h0
     exact⟨g1,⟨nb.1,fun a ha=>nb.2 a (g2 a ha)⟩,m,nm,n⟩
    .rw[if_neg k4]at h0 ⊢
     by_cases k5:r.kind=5
     .rw[if_pos k5]at h0 ⊢
      obtain⟨g1,g2⟩:=sM m h0
      exact⟨b,nb,g1,⟨nm.1,fun a ha=>nm.2 a (g2 a ha)⟩,n⟩
     .rw[if_neg k5]at h0 ⊢
      exact⟨b,nb,m,nm,(sM n h0).1⟩
theorem lC {l:List ag}:∀{c:aj},aM c->(∀r∈l,0<=r.id)->(b9 c l).2=0->aM (b9 c l).1:=by
 induction l with
 |nil=>intro c h _ _;exact h
 |cons r l ih=>
  intro c h hid h0
  unfold b9 at h0 ⊢
  by_cases h1:az r=true
  .rw[if_pos h1]at h0 ⊢
   by_cases h2:(bE c r).2=0
   .rw[if_pos h2]at h0 ⊢
    exact ih (Ao h h1 (hid r Mg) h2) (fun q hq=>hid q (MP _ hq)) h0
   .rw[if_neg h2]at h0;exact absurd h0 h2
  .rw[if_neg h1]at h0;cases h0
def N0 (c:aj):List ag:=c.boxes.map (·.told 1)++c.mans.map (·.told 2)++c.names.map (·.told 3)
def NN (c:aj):List (Int×Int):=((N0 c).map (·.runs)).flatten
def cF (cur:List Value) (o:Nat) (vs:List Value):List Value:=cur.take o++(vs++cur.drop (o+vs.length))
theorem gZ (h:o+vs.length<=cur.length):(cF cur o vs).length=cur.length:=by
 unfold cF;rw[Mc,Mc,Mp,Mq];omega
theorem EW (cur:List Value) (o:Nat):cF cur o []=cur:=by unfold cF;simp
theorem C2 {r:List Value} (h:o<cur.length):cF (cur.set o v) (o+1) r=cF cur o (v::r):=by
 unfold cF
 have e1:(cur.set o v).take (o+1)=cur.take o++[v]:=by
  rw[Mf (by simpa using h),List.getElem_set_self,List.take_set_of_le (Md _)]
 have e2:(cur.set o v).drop (o+1+r.length)=cur.drop (o+(v::r).length):=by
  rw[List.drop_set_of_lt (by omega),Mz]
  congr 1;omega
 rw[e1,e2]
 simp
theorem ae.pM {b:Nat} {t:TypeId}:∀(vs:List Value) (o:Nat) {w:World} {cur:List Value},ae w b cur.toArray t->o+vs.length<=cur.length->ae (w.setCells b o vs) b (cF cur o vs).toArray t
 |[],o,w,cur,h,_=>by rw[EW];exact h
 |v::r,o,w,cur,h,hl=>by
  rw[Mz]at hl
  have h1:=h.set o v
  rw[List.setIfInBounds_toArray]at h1
  have h2:=ae.pM r (o+1) h1 (by rw[List.length_set];omega)
  rw[C2 (by omega)]at h2
  exact h2
theorem fU {S:List Nat} {w0:World} {b:Nat} (hb:b∈S\/w0.heap.size<=b):∀(vs:List Value) (o:Nat) {w:World},aa S w0 w->aa S w0 (w.setCells b o vs)
 |[],_,_,h=>h
 |v::r,o,w,h=>fU hb r (o+1) (h.setCell (by exact hb) v)
theorem ae.Dv {b g:Nat} {t:TypeId} {cs:Array Value} (hg:b≠g):∀(vs:List Value) (o:Nat) {w:World},ae w b cs t->ae (w.setCells g o vs) b cs t
 |[],_,_,h=>h
 |v::r,o,w,h=>ae.Dv hg r (o+1) (h.other (by exact hg) v)
theorem pJ (h:o+vs.length<=cur.length):(cF cur o vs).take (o+vs.length)=cur.take o++vs:=by
 unfold cF
 have hl:(cur.take o).length=o:=by rw[Mp];omega
 rw[<-Mi,MS (by rw[Mc];omega),Mk (by rw[Mc];omega)]
theorem EX {k:Nat} (h:o<=cur.length) (hk:k<=o):(cF cur o vs).take k=cur.take k:=by
 unfold cF
 rw[MS (by rw[Mp];omega),List.take_take,Nat.min_eq_left hk]
def cj (w:World) (v:Value) (n k:Nat) (xs:List Value):Prop:=
 xs.length=n*k/\((n=0/\∃a c,v=.slice a 0 c)\/∃b off c,v=.slice (some ⟨b,off,none⟩) n c/\(∀j u,xs[j]? =some u->w.cell? ⟨b,off+j,none⟩=some u)/\b<w.heap.size/\0<n/\n<=c/\c<=maxLen)
theorem cj.kept0 {w':World} {k:Nat} (h:cj w v n k xs) (q:aa [] w w'):cj w' v n k xs:=by
 refine⟨h.1,?_⟩
 rcases h.2 with h2|⟨b,off,c,e,h3,h4,h5⟩
 .exact Or.inl h2
 .exact Or.inr ⟨b,off,c,e,fun j u hj=>(q.cell (by exact h4) (by simp)).trans (h3 j u hj),Mo h4 q.size,h5⟩
theorem cj.shape {k:Nat} (h:cj w v n k xs):∃p c,v=.slice p n c:=by
 rcases h.2 with⟨rfl,a,c,rfl⟩|⟨b,off,c,rfl,_⟩
 .exact⟨a,c,rfl⟩
 .exact⟨_,c,rfl⟩
theorem cj.len {k:Nat} (h:cj w v n k xs):n<=maxLen:=by
 rcases h.2 with⟨rfl,_⟩|⟨b,off,c,rfl,_,_,_,h6,h7⟩
 .exact Mu _
 .omega
theorem cj.bo {base:Nat} {e:TypeId} {k:Nat} (h:w.ownsRow base e k v n xs):cj w v n k xs:=by
 refine⟨h.1,?_⟩
 rcases h.2 with⟨rfl,rfl⟩|⟨g,c,cur,rfl,g1,g2,g3,g4,g5,g6⟩
 .exact Or.inl ⟨rfl,_,_,rfl⟩
 .by_cases h0:n=0
  .subst h0;exact Or.inl ⟨rfl,_,_,rfl⟩
  .refine Or.inr ⟨g,0,c,rfl,fun j u hj=>?_,MY g2,by omega,g3,g4⟩
   have:=h.cells (g:=g) rfl j u hj
   rw[My]at this
   exact this
theorem cj.at_ {p:Option Addr} {c k:Nat} (h:cj w (.slice p n c) n k xs) (hn:0<n):∃b off,p=some ⟨b,off,none⟩/\(∀j u,xs[j]? =some u->w.cell? ⟨b,off+j,none⟩=some u)/\b<w.heap.size/\n<=c/\c<=maxLen:=by
 rcases h.2 with⟨h0,_⟩|⟨b,off,c',e,h3,h4,h5,h6,h7⟩
 .omega
 .injection e with e1 _ e3
  subst e1 e3
  exact⟨b,off,rfl,h3,h4,h6,h7⟩
theorem kB {P:Program} (w:World) (dT sT ty elem:TypeId) (k:Nat) (b o Vx dCap:Nat) (a:Addr) (sLen sCap m:Nat) (cs:List Value)
  (hu:P.underlying dT=some (.slice elem)) (hs:(P.info? elem).map (·.size)=some k) (hm:Nat.min sLen Vx=m) (hn:cs.length=m*k)
  (Pz:∀j v,cs[j]? =some v->w.cell? (a.add j)=some v) (hc:∀j,j<cs.length->(w.cell? ⟨b,o+j,none⟩).isSome=true) (hf:∀j,j<cs.length->w.frozen? ⟨b,o+j,none⟩=false) (h1:∀v∈cs,v.oneCell'=true):
  (Builtin.copy_ #[dT,sT] ty #[.slice (some ⟨b,o,none⟩) Vx dCap,.slice (some a) sLen sCap]).run P w=.ok (.int .i64 m) (w.setCells b o cs):=by
 have hl:=run_loadCells_list (P:=P) w a cs Pz
 have N8:=run_storeCells_cells (P:=P) b o cs 0 w (by simpa using hc) (by simpa using hf) h1
 cases hq:P.info? elem with
 |none=>simp[hq]at hs
 |some i=>
  simp[hq]at hs
  rw[hn]at hl
  simp[Builtin.copy_,run_underlying hu,Builtin.lenOf,Builtin.firstCells,sizeOf,typeInfo,hq,hs,hm,hl,N8,goInt]
theorem gh:∃i,Tryz.prog.info? 113=some i/\i.zero=some (.agg #[.int .u32 0,.string {data:=#[]},.int .i64 0,.slice none 0 0])/\i.size=4/\i.bytes=56:=by
 have hi:(Tryz.prog.info? 113).map (fun i=>(i.zero,i.size,i.bytes))=some (some (.agg #[.int .u32 0,.string {data:=#[]},.int .i64 0,.slice none 0 0]),4,56):=by kernel_rfl
 exact VQ
def Nx (vs:List (Nf×Value)):List Value:=(vs.map fun x=>[Value.int .u32 x.1.id,Value.string (bs x.1.name),Value.int .i64 x.1.size,x.2]).flatten
theorem iT (x:Nf×Value) (vs:List (Nf×Value)):Nx (x::vs)=Value.int .u32 x.1.id::Value.string (bs x.1.name)::Value.int .i64 x.1.size::x.2::Nx vs:=rfl
theorem fK (a b:List (Nf×Value)):Nx (a++b)=Nx a++Nx b:=by unfold Nx;rw[Ms,MR]
theorem mR (vs:List (Nf×Value)) (i:Nat):(Nx vs).take (i*4)=Nx (vs.take i):=by
 induction vs generalizing i with
 |nil=>simp[Nx]
 |cons a l ih=>
  cases i with
  |zero=>simp[Nx]
  |succ i=>
   rw[List.take_succ_cons,iT,iT,show(i+1)*4=i*4+1+1+1+1 by omega]
   simp only[List.take_succ_cons,ih]
theorem jY (vs:List (Nf×Value)) (i:Nat):(Nx vs).drop (i*4)=Nx (vs.drop i):=by
 induction vs generalizing i with
 |nil=>simp[Nx]
 |cons a l ih=>
  cases i with
  |zero=>simp[Nx]
  |succ i=>
   rw[List.drop_succ_cons,iT,show(i+1)*4=i*4+1+1+1+1 by omega]
   simp only[List.drop_succ_cons,ih]
theorem tZ (l:List (Nf×Value)) (i:Nat) (h:i<l.length):(Nx l)[i*4]? =some (.int .u32 l[i].1.id)/\(Nx l)[i*4+1]? =some (.string (bs l[i].1.name))/\(Nx l)[i*4+2]? =some (.int .i64 l[i].1.size)/\(Nx l)[i*4+3]? =some l[i].2:=by
 have e:=jY l i
 rw[List.drop_eq_getElem_cons h,iT]at e
 have g:∀j,(Nx l)[i*4+j]? =((Nx l).drop (i*4))[j]? :=fun j=>by rw[List.getElem?_drop]
 have g0:=g 0
 rw[Nat.add_zero]at g0
 rw[g0,g 1,g 2,g 3,e]
 exact⟨rfl,rfl,rfl,rfl⟩
def iF (v:Value):Prop:=∃p n c,v=.slice p n c
theorem iA {vs:List (Nf×Value)} (h:∀x∈vs,iF x.2):∀u∈Nx vs,u.oneCell'=true:=by
 induction vs with
 |nil=>intro u hu;simp[Nx]at hu
 |cons a l ih=>
  intro u hu
  rw[iT]at hu
  simp only[List.mem_cons]at hu
  rcases hu with rfl|rfl|rfl|rfl|hu
  .rfl
  .rfl
  .rfl
  .obtain⟨p,n,c,e⟩:=h a Mg
   rw[e];rfl
  .exact ih (fun x hx=>h x (MP _ hx)) u hu
theorem td (v:Value) (n:Nat) (xs:List Value) (w:World) (h:cj w v n 4 xs) (h1:∀u∈xs,u.oneCell'=true) (hn:n<=1000000):
  Calls Tryz.prog 127 #[v] w fun e w'=>∃v',e=.returned v'/\w'.ownsRow w.heap.size 113 4 v' n xs/\aa [] w w':=by
 obtain⟨i0,hi0,hz0,PS,P8⟩:=gh
 have q22:∀(w:World) (a:Option Addr) (n c n' c':Nat),(binOp .eql 50 (.slice a n c) (.slice none n' c')).run Tryz.prog w=.ok (.bool a.isNone) w:=fun w a n c n' c'=>Lib.run_eql_slice_nil w _ _ a n c n' c' Tryz.underlying50
 obtain⟨p,c,rfl⟩:=h.shape
 cases p with
 |none=>
  have U7:n=0:=by
   rcases h.2 with⟨h,_⟩|⟨b,off,c',e,_⟩
   .exact h
   .simp at e
  subst U7
  have hx:xs=[]:=Mt (by rw[h.1])
  subst hx
  clear h h1
  go_enter Tryz.func127,Tryz.ntmps127
  go_wp2_with fail
  go_ret
  exact⟨_,rfl,MG _ _ _ _,aa.refl _ _⟩
 |some ad=>
  have NW:∀j u,xs[j]? =some u->w.cell? (ad.add j)=some u:=by
   rcases h.2 with⟨h0,_⟩|⟨b,off,c',e,h2,_⟩
   .intro j u hj
    have hx:xs=[]:=Mt (by rw[h.1];omega)
    subst hx;simp at hj
   .injection e with e1 _ e3
    injection e1 with e1
    subst e1
    intro j u hj
    rw[My]
    exact h2 j u hj
  have A:=Mb NW
  have Xw:=Mb h.1
  have HR2:=Mb h1
  clear NW h h1
  go_enter Tryz.func127,Tryz.ntmps127
  go_wp2_with (at_builtin;refine wpList_append_own _ rfl _ _ 50 rfl w.heap.size 113 i0 _ 4 56 Tryz.underlying50 hi0 hz0 PS P8 rfl (by decide) _ _ _ rfl (World.ownsRow_made w #[] 0 (Md _) (Mu _) (by simp)) ad n c xs rfl ?qc1 ?qc2 ?qc3 ?qc4 ?qc5 ?qc6 ?_)
  case qc1=>exact Xw.out
  case qc2=>intro j u hj;exact Lib.cell?_alloc_some _ (A.out j u hj)
  case qc3=>exact HR2.out
  case qc4=>unfold maxLen;omega
  case qc5=>omega
  case qc6=>simp
  intro v' w1 N3 Om QE
  have Qi:w1.ownsRow w.heap.size 113 4 v' n xs:=by simpa using N3
  exact M50
def Vy (x y:Int):Int:=if x<y then -1 else if x=y then 0 else 1
theorem M34 (h:A:=by
 go_enter Tryz.func267,Tryz.ntmps267
 go_wp2_with fail
 refine(hn _ _).mono ?_;rintro e w1 ⟨rfl,rfl⟩
 go_wp2_with fail
 refine(hn _ _).mono ?_;rintro e w1 ⟨rfl,rfl⟩
 go_wp2_with fail
 go_ret
 exact⟨rfl,rfl⟩):A:=h
theorem Kz (x y:Int) (w:World):Calls Tryz.prog 267 #[.int .u32 x,.int .u32 y] w fun e w'=>e=.returned (.int .i64 (Vy x y))/\w=w':=by
 have hn:∀(x:Int) W,Calls Tryz.prog 290 #[.int .u32 x] W fun e w'=>e=.returned (.bool false)/\W=w':=fun x W=>by
  go_enter Tryz.func290,Tryz.ntmps290
  go_wp2_with fail
  go_ret
  exact⟨rfl,rfl⟩
 unfold Vy
 rcases Int.lt_trichotomy x y with h|h|h
 .rw[if_pos h]
  exact M34
 .subst h
  rw[if_neg (by omega),if_pos rfl]
  exact M34
 .have h1:¬x<y:=by omega
  have h2:¬x=y:=by omega
  rw[if_neg h1,if_neg h2]
  exact M34
theorem M96 (h:A:=by
 rw[rounds_succ]
 go_wp2_with fail
 rw[rounds_succ]
 go_wp2_with fail
 go_ret
 exact⟨rfl,rfl⟩):A:=h
theorem L8 (x y:Int) (b:Nat) (w:World) (h0:w.cell? ⟨b,0,none⟩=some (.int .i64 x)) (h1:w.cell? ⟨b,1,none⟩=some (.int .i64 y)):
  Calls Tryz.prog 266 #[.slice (some ⟨b,0,none⟩) 2 2] w fun e w'=>e=.returned (.int .i64 (if x=0 then y else x))/\w=w':=by
 by_cases hx:x=0
 .subst hx
  rw[if_pos rfl]
  by_cases hy:y=0
  .subst hy
   go_enter Tryz.func266,Tryz.ntmps266
   go_wp2_with fail
   refine wp_loop_rounds 3 ?_
   rw[rounds_succ]
   go_wp2_with fail
   exact M96
  .go_enter Tryz.func266,Tryz.ntmps266
   go_wp2_with fail
   refine wp_loop_rounds 3 ?_
   exact M96
 .rw[if_neg hx]
  go_enter Tryz.func266,Tryz.ntmps266
  go_wp2_with fail
  refine wp_loop_rounds 3 ?_
  rw[rounds_succ]
  go_wp2_with fail
  go_ret
  exact⟨rfl,rfl⟩
theorem Ix (a b:Nf):(if Vy a.id b.id=0 then Xl a.name b.name else Vy a.id b.id)=mM a b:=by
 unfold Vy Xl mM cX fa
 rcases Int.lt_trichotomy a.id b.id with h|h|h
 .rw[if_pos h];simp[h]
 .rw[h]
  simp
 .have h1:¬a.id<b.id:=by omega
  have h2:¬a.id=b.id:=by omega
  simp[h1,h2]
theorem CA (a b:Nf) (va vb:Value) (w:World):Calls Tryz.prog 233 #[.agg (a.cells va),.agg (b.cells vb)] w fun e w'=>e=.returned (.int .i64 (mM a b))/\aa [] w w':=by
 rw[<-Ix]
 have hc:=fun W=>Kz a.id b.id W
 have hs:=fun W=>Tryz.strings_Compare (bs a.name) (bs b.name) W
 simp only[dP,AK]at hs
 unfold Nf.cells
 have k0:=((aa.refl [] w).alloc (.cells #[.int .u32 a.id,.string (bs a.name),.int .i64 a.size,va] 113)).alloc (.cells #[.int .u32 b.id,.string (bs b.name),.int .i64 b.size,vb] 113)
 obtain⟨oA,oB⟩:=cQ w #[.int .u32 a.id,.string (bs a.name),.int .i64 a.size,va] #[.int .u32 b.id,.string (bs b.name),.int .i64 b.size,vb] 113 113
 obtain⟨a0,a1,a2,a3⟩:=oA.c4
 obtain⟨b0,b1,b2,b3⟩:=oB.c4
 clear oA oB
 generalize Vy a.id b.id=C at*
 generalize Xl a.name b.name=D at*
 have ho:=fun b W h0 h1=>L8 C D b W h0 h1
 obtain⟨R,hR⟩:∃R,(if C=0 then D else C)=R:=⟨_,rfl⟩
 simp only[hR]at ho ⊢
 clear hR
 generalize bs a.name=NA at*
 generalize bs b.name=NB at*
 go_enter Tryz.func233,Tryz.ntmps233
 go_wp2_with fail
 refine Ml (S:=(fun W=>W.cell? ⟨w.heap.size,0,none⟩=some (.int .u32 a.id)/\W.cell? ⟨w.heap.size,1,none⟩=some (.string NA)/\W.cell? ⟨w.heap.size+1,0,none⟩=some (.int .u32 b.id)/\W.cell? ⟨w.heap.size+1,1,none⟩=some (.string NB))) (by kernel_rfl) (by go_keep) (fun hHeld=>?_)
 refine tk 0 5 ?_
 refine tk 1 6 ?_
 refine tk 2 7 ?_
 refine tk 3 8 ?_
 refine tk 5 10 ?_
 refine tk 6 11 ?_
 refine tk 7 12 ?_
 refine tk 8 13 ?_
 refine rd 4 (fun K hK=>?_)
 go_simp
 ((with_reducible refine(hc _).mono ?_));rintro e w' ⟨rfl,rfl⟩
 go_wp2_with fail
 refine hK.out _ _ ?_ (fun hHeld=>nm ?_)
 .go_keep
 clear hK K
 refine rd 9 (fun K hK=>?_)
 go_simp
 ((with_reducible refine(hs _).mono ?_));rintro e w' ⟨rfl,rfl⟩
 go_wp2_with fail
 refine hK.out _ _ ?_ (fun hHeld=>nm ?_)
 .go_keep
 clear hK K
 refine rd 10 (fun K hK=>?_)
 go_simp
 refine hK.out _ _ ?_ (fun hHeld=>nm ?_)
 .go_keep
 clear hK K
 refine rd 11 (fun K hK=>?_)
 go_simp
 ((with_reducible refine(ho _ _ ?_ ?_).mono ?_))
 .go_simp
 .go_simp
 rintro e w' ⟨rfl,rfl⟩
 go_wp2_with fail
 refine hK.out _ _ ?_ (fun hHeld=>nm ?_)
 .go_keep
 clear hK K
 refine tk 12 4 ?_
 refine MM (by kernel_rfl) ?_ _
 go_wp2_with fail
 go_ret
 exact⟨rfl,(k0.drew.alloc _)⟩
end Go.Proofs.YtdkimcnlhmhpgaaGreat

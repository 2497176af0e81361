/- -/
import Derived.Test.YtdkimcnlhmhpgaaGreatK05
set_option maxHeartbeats 16000000
set_option maxRecDepth 100000
set_option linter.unusedVariables false
namespace Go.Proofs.YtdkimcnlhmhpgaaGreat
open Go.RowKit
variable {l x y out:List (Int×Int)} {r q:Int×Int} {i k:Nat} {w:World}
theorem Nb:type_of% @List.mem_of_mem_drop:=@List.mem_of_mem_drop
theorem MB:type_of% @List.mem_singleton:=@List.mem_singleton
def eG (l:List (Int×Int)):List (Int×Int):=l.filterMap fun a=>if(bC a).2=true then some (bC a).1 else none
theorem Cf (l:List (Int×Int)) (a:Int×Int):eG (l++[a])=eG l++(if(bC a).2=true then[(bC a).1]else[]):=by
 unfold eG
 rw[List.filterMap_append]
 congr 1
 by_cases h:(bC a).2=true
 .simp[h]
 .simp[h]
theorem wk (l:List (Int×Int)):(eG l).length<=l.length:=List.length_filterMap_le _ _
theorem I9 {a:Int×Int} (h:(bC a).2=true):0<=(bC a).1.1/\1<=(bC a).1.2/\(bC a).1.1+(bC a).1.2<=8192:=by
 unfold bC at*
 by_cases h1:a.2<1\/8192<=a.1
 .rw[if_pos h1]at h;cases h
 .rw[if_neg h1]at h ⊢
  by_cases h2:a.1<0
  .rw[if_pos h2]at h ⊢
   have h:=of_decide_eq_true h
   simp only
   omega
  .rw[if_neg h2]at h ⊢
   have h:=of_decide_eq_true h
   simp only
   omega
theorem AL (a:Int×Int) (k:Nat) (hk:k<8192):((bC a).2=true/\(bC a).1.1<=k/\(k:Int)<(bC a).1.1+(bC a).1.2)↔(a.1<=k/\(k:Int)<a.1+a.2):=by
 unfold bC
 by_cases h1:a.2<1\/8192<=a.1
 .rw[if_pos h1];simp;omega
 .rw[if_neg h1]
  by_cases h2:a.1<0
  .rw[if_pos h2];simp;omega
  .rw[if_neg h2];simp;omega
theorem wj (h:r∈eG l):0<=r.1/\1<=r.2/\r.1+r.2<=8192:=by
 unfold eG at h
 rw[List.mem_filterMap]at h
 obtain⟨a,_,ha⟩:=h
 by_cases hc:(bC a).2=true
 .rw[if_pos hc]at ha
  injection ha with ha
  subst ha
  exact I9 hc
 .rw[if_neg hc]at ha;cases ha
theorem Gq (l:List (Int×Int)) (k:Nat) (hk:k<8192):bU (eG l) k↔aC l k=true:=by
 rw[bF]
 unfold bU eG
 constructor
 .rintro⟨r,hr,h1,h2⟩
  rw[List.mem_filterMap]at hr
  obtain⟨a,ha,hx⟩:=hr
  by_cases hc:(bC a).2=true
  .rw[if_pos hc]at hx
   injection hx with hx
   subst hx
   exact⟨a,ha,(AL a k hk).1 ⟨hc,h1,h2⟩⟩
  .rw[if_neg hc]at hx;cases hx
 .rintro⟨a,ha,h⟩
  obtain⟨h1,h2,h3⟩:=(AL a k hk).2 h
  exact⟨(bC a).1,List.mem_filterMap.2 ⟨a,ha,by rw[if_pos h1]⟩,h2,h3⟩
def ou (o:List (Int×Int)) (r:Int×Int):List (Int×Int):=
 match o.getLast? with
 |some q=>if r.1<=q.1+q.2 then o.dropLast++[(q.1,max q.2 (r.1+r.2-q.1))]else o++[r]
 |none=>[r]
theorem qm (r:Int×Int):ou [] r=[r]:=rfl
theorem sB {i:List (Int×Int)} (h:r.1<=q.1+q.2):ou (i++[q]) r=i++[(q.1,max q.2 (r.1+r.2-q.1))]:=by
 unfold ou
 rw[List.getLast?_append,List.dropLast_concat]
 show(if r.1<=q.1+q.2 then _ else _)=_
 rw[if_pos h]
 rfl
theorem sC {i:List (Int×Int)} (h:¬r.1<=q.1+q.2):ou (i++[q]) r=i++[q]++[r]:=by
 unfold ou
 rw[List.getLast?_append]
 show(if r.1<=q.1+q.2 then _ else _)=_
 rw[if_neg h]
def Ou (s:List (Int×Int)) (k:Nat):List (Int×Int):=(s.take k).foldl ou []
theorem lL (s:List (Int×Int)) (k:Nat) (h:k<s.length):Ou s (k+1)=ou (Ou s k) s[k]:=by
 unfold Ou;rw[Mf h,List.foldl_append];rfl
structure Jn (s:List (Int×Int)) (k:Nat):Prop where
 pl:Pl 0 (Ou s k)
 is:∀j:Int,bU (Ou s k) j↔bU (s.take k) j
 low:∀x∈Ou s k,∃y∈s.take k,x.1=y.1
theorem xN (s:List (Int×Int)) (hs:jE s) (hr:∀r∈s,0<=r.1/\1<=r.2/\r.1+r.2<=8192) (k:Nat) (hk:k<=s.length):Jn s k:=by
 induction k with
 |zero=>exact⟨trivial,fun j=>Iff.rfl,fun x hx=>by cases hx⟩
 |succ k ih=>
  obtain⟨h1,h2,h3⟩:=ih (by omega)
  have Ns:k<s.length:=by omega
  obtain⟨r1,r2,r3⟩:=hr s[k] (Mh _)
  have Pc:s.take (k+1)=s.take k++[s[k]]:=Mf Ns
  have Yl:∀x∈Ou s k,x.1<=s[k].1:=fun x hx=>by
   obtain⟨y,hy,e⟩:=h3 x hx
   rw[e]
   rw[List.mem_take_iff_getElem]at hy
   obtain⟨i,hi,rfl⟩:=hy
   exact(List.pairwise_iff_getElem.1 hs) i k (by omega) Ns (by omega)
  have TU:=lL s k Ns
  rcases List.eq_nil_or_concat (Ou s k)with e|⟨i,q,e⟩
  .rw[e,qm]at TU
   refine⟨by rw[TU];exact⟨r1,r2,r3,trivial⟩,fun j=>?_,fun x hx=>?_⟩
   .rw[TU,Pc,bY,<-h2 j,e]
    exact⟨fun h=>Or.inr h,fun h=>h.elim (fun h=>absurd h (ep j)) id⟩
   .rw[TU]at hx
    have hx:x=s[k]:=by simpa using hx
    exact⟨s[k],by rw[Pc];exact List.mem_append_right _ (MB.2 rfl),by rw[hx]⟩
  .rw[List.concat_eq_append]at e
   rw[e]at h1 Yl
   obtain⟨q1,q2,q3,q4,q5⟩:=h1.init
   have hq:=Yl q (by simp)
   by_cases hc:s[k].1<=q.1+q.2
   .rw[e,sB hc]at TU
    refine⟨?_,fun j=>?_,fun x hx=>?_⟩
    .rw[TU]
     exact q1.snoc q2 (by show 1<=max q.2 _;omega) (by show q.1+max q.2 _<=8192;omega) q5
    .rw[TU,Pc,bY,bY,<-h2 j,e,bY,ft,ft,ft,or_assoc]
     refine or_congr Iff.rfl ?_
     show(q.1<=j/\j<q.1+max q.2 (s[k].1+s[k].2-q.1))↔_
     omega
    .rw[TU]at hx
     rcases Mj.1 hx with hx|hx
     .obtain⟨y,hy,e2⟩:=h3 x (by rw[e];exact List.mem_append_left _ hx)
      exact⟨y,by rw[Pc];exact List.mem_append_left _ hy,e2⟩
     .obtain⟨y,hy,e2⟩:=h3 q (by rw[e];simp)
      have hx:x=(q.1,max q.2 (s[k].1+s[k].2-q.1)):=by simpa using hx
      exact⟨y,by rw[Pc];exact List.mem_append_left _ hy,by rw[hx];exact e2⟩
   .rw[e,sC hc]at TU
    refine⟨?_,fun j=>?_,fun x hx=>?_⟩
    .rw[TU]
     refine h1.snoc r1 r2 r3 (fun x hx=>?_)
     rcases Mj.1 hx with hx|hx
     .have:=q5 x hx;omega
     .have hx:x=q:=by simpa using hx
      subst hx;omega
    .have h2j:=h2 j
     rw[e]at h2j
     rw[TU,Pc,bY,bY (a:=s.take k),<-h2j]
    .rw[TU]at hx
     rcases Mj.1 hx with hx|hx
     .obtain⟨y,hy,e2⟩:=h3 x (by rw[e];exact hx)
      exact⟨y,by rw[Pc];exact List.mem_append_left _ hy,e2⟩
     .have hx:x=s[k]:=by simpa using hx
      exact⟨s[k],by rw[Pc];exact List.mem_append_right _ (MB.2 rfl),by rw[hx]⟩
theorem zg {s:List (Int×Int)} (hp:s.Perm (eG l)) (hs:jE s):Ou s s.length=NY l:=by
 have hr:∀r∈s,0<=r.1/\1<=r.2/\r.1+r.2<=8192:=fun r h=>wj (hp.mem_iff.1 h)
 have h:=xN s hs hr s.length (Md _)
 refine lU h.pl (fun m hm=>?_)
 rw[h.is,MC,<-Gq l m hm]
 unfold bU
 exact⟨fun⟨r,h1,h2⟩=>⟨r,hp.mem_iff.1 h1,h2⟩,fun⟨r,h1,h2⟩=>⟨r,hp.mem_iff.2 h1,h2⟩⟩
theorem zh (s:List (Int×Int)) (k:Nat):(Ou s k).length<=k:=by
 induction k with
 |zero=>exact Md _
 |succ k ih=>
  by_cases h:k<s.length
  .rw[lL s k h]
   rcases List.eq_nil_or_concat (Ou s k)with e|⟨i,q,e⟩
   .rw[e,qm];simp
   .rw[List.concat_eq_append]at e
    rw[e]at ih ⊢
    by_cases hc:s[k].1<=q.1+q.2
    .rw[sB hc];simp at ih ⊢;omega
    .rw[sC hc];simp at ih ⊢;omega
  .have e:Ou s (k+1)=Ou s k:=by unfold Ou;rw[Mk (by omega),Mk (by omega)]
   rw[e];omega
theorem jW (I:List (Int×Int)) (a n n':Int):(No (I++[(a,n)])).set (I.length*2+1) (.int .i64 n')=No (I++[(a,n')]):=by
 rw[cD,cD,List.set_append_right _ _ (by rw[dv];omega),dv]
 have e:I.length*2+1-I.length*2=1:=by omega
 rw[e]
 rfl
theorem uN (I:List (Int×Int)) (q:Int×Int):(No (I++[q]))[I.length*2]? =some (.int .i64 q.1)/\(No (I++[q]))[I.length*2+1]? =some (.int .i64 q.2):=by
 have h:=kI (I++[q]) I.length (by simp)
 simpa using h
theorem bK {base:Nat} {e:TypeId} {size:Nat} {v:Value} {n:Nat} {xs:List Value} (h:w.ownsRow base e size v n xs) (k:Nat):(w.drewN k).ownsRow base e size v n xs:=h
def bG (p:List (Int×Int)) (w:World) (e:Ending) (w':World):Prop:=
 ∃v,e=.returned v/\w'.ownsRow w.heap.size 128 2 v p.length (No p)/\aa [] w w'
theorem bG.runs {p:List (Int×Int)} {w':World} {e:Ending} (h:bG p w e w'):∃v,e=.returned v/\af w' v p w.heap.size w'.heap.size/\aa [] w w':=by
 obtain⟨v,h1,h2,h3⟩:=h;exact⟨v,h1,af.bo h2,h3⟩
theorem M74 {A:Prop}(h:A:=by
 have:=M0 (wr.alloc (.cells #[.int .i64 r.1,.int .i64 r.2] 128)) (.cells #[.int .i64 r.1,.int .i64 r.2] 128)
 rw[MK]at this
 exact this):A:=h
theorem pE (v:Value) (l:List (Int×Int)) (lo hi:Nat) (w:World) (h:af w v l lo hi) (hl:l.length<=1000000) (Ox:∀a∈l,aU a):
  Calls Tryz.prog 112 #[v] w (bG (NY l) w):=by
 obtain⟨i0,q0,q1,q2,q3⟩:=gT
 obtain⟨p,c,rfl⟩:=h.shape
 have H:=Mb h
 have XX:=Mb Ox
 have QZ:(l.length:Int)<=1000000:=by omega
 unfold bG
 clear h Ox
 go_enter Tryz.func112,Tryz.ntmps112
 go_upto_block 0 with fail
 go_cut [3] (fun v3 wx=>wx.ownsRow w.heap.size 128 2 v3 (eG l).length (No (eG l))/\aa [] w wx)
 case first=>
  go_wp2_with fail
  go_loopw [3,14] (fun v3 i wr=>∃k:Nat,k<=l.length/\i=.int .i64 k/\wr.ownsRow w.heap.size 128 2 v3 (eG (l.take k)).length (No (eG (l.take k)))/\aa [] w wr) (fun _ i _=>l.length-(intOf i).toNat)
  case atStart=>exact⟨0,by omega,rfl,MG _ _ _ _,aa.refl _ _⟩
  case round=>
   obtain⟨k,hk,rfl,Nt,hK⟩:=hrel
   by_cases Ns:k<l.length
   .obtain⟨b,off,rfl,c0,c1,hb,Py,Pb⟩:=(H.out.kept0 hK).at_ k Ns
    have Zm:=XX.out l[k] (Mh Ns)
    have hsn:eG (l.take (k+1))=eG (l.take k)++(if(bC l[k]).2=true then[(bC l[k]).1]else[]):=by rw[Mf Ns,Cf]
    have Pe:(eG (l.take k)).length<=1000000:=by
     have:=wk (l.take k)
     have:=List.length_take_le k l
     omega
    have hx:=fun W=>KE l[k] W Zm
    have HX:=Mb hx
    have HSN:=Mb hsn
    have NU:=Mb Ns
    have i1:(k:Int)<l.length:=by omega
    have r3:(eG (l.take k)).length+1<=maxLen:=by unfold maxLen;omega
    have r4:((eG (l.take k)).length+1)*16<=140737488355328:=by omega
    unfold tb at HX
    clear hx hsn Zm
    generalize hCL:eG (l.take k)=CL at*
    have Sn:=Mb hCL
    clear hCL
    generalize hcc:bC l[k]=cc at*
    have Y6:=Mb hcc
    clear hcc
    obtain⟨⟨cx,cn⟩,ok⟩:=cc
    simp only at HX HSN
    cases ok with
    |false=>
     go_wp2_with fail
     refine(HX.out _).mono ?_;rintro e w2 ⟨rfl,k2⟩
     have K2:aa [] w w2:=(hK.alloc _).trans k2
     have Re:=au (Me Nt _) k2 (fun x hx=>by cases hx)
     go_wp2_with fail
     go_roundw
     case rel=>exact⟨k+1,NU.out,by go_num,by rw[HSN.out];simpa using Me Re _,K2.alloc _⟩
     case measure=>(have hh:=NU.out;simp[intOf];omega)
    |true=>
     obtain⟨p3,c3,rfl⟩:=ai Nt
     go_wp2_with fail
     refine(HX.out _).mono ?_;rintro e w2 ⟨rfl,k2⟩
     have K2:aa [] w w2:=(hK.alloc _).trans k2
     have Re:=au (Me Nt (.cells #[.int .i64 l[k].1,.int .i64 l[k].2] 128)) k2 (fun x hx=>by cases hx)
     have Qt:=K2.size
     clear Nt k2 c0 c1
     go_wp2_with (at_builtin;go_must (refine Mv _ rfl (.tmp 24) (.tmp 26) 56 rfl w.heap.size 128 i0 (.agg #[.int .i64 0,.int .i64 0]) 2 16 Tryz.underlying56 q0 q1 q2 q3 rfl (by decide) _ _ _ rfl (Me (Me Re _) _) ⟨w2.heap.size+1,0,none⟩ 1 1 [.int .i64 cx,.int .i64 cn] rfl rfl ?_ ?_ r3 r4 ?_ ?_))
     .have RH:((w2.alloc (.cells #[.int .i64 cx,.int .i64 cn] 128)).alloc (.cells #[.int .i64 cx,.int .i64 cn] 128)).heap[w2.heap.size+1]? =some (.cells #[.int .i64 cx,.int .i64 cn] 128 (0,0)):=by
       have:=M0 (w2.alloc (.cells #[.int .i64 cx,.int .i64 cn] 128)) (.cells #[.int .i64 cx,.int .i64 cn] 128)
       rw[MK]at this
       exact this
      exact World.news_of_block RH
     .intro u hu;simp at hu;rcases hu with rfl|rfl<;>rfl
     .simp;omega
     intro v6 w6 o6 OE _ _
     have k6:aa [] w w6:=((K2.alloc _).alloc _).grown OE (fun g hg=>Or.inr (Mn Re g hg).1)
     have Wf:=Mb o6
     clear OE Re o6
     go_wp2_with fail
     go_roundw
     case rel=>exact⟨k+1,NU.out,by go_num,by rw[HSN.out];simpa[cD]using Wf.out,k6⟩
     case measure=>(have hh:=NU.out;simp[intOf];omega)
   .obtain rfl:k=l.length:=by omega
    rw[MC]at Nt
    go_wp2_with fail
    go_meet
    exact⟨Nt,hK⟩
 case rest=>
  obtain⟨Nt,hK⟩:=hcut
  have Pe:=wk l
  have Sf:=Jy w.heap.size _ (eG l) wc Nt (by omega)
  unfold im at Sf
  obtain⟨N,hN⟩:∃N,N=(eG l).length:=⟨_,rfl⟩
  rw[<-hN]at Nt Sf Pe
  have HN:=Mb hN
  clear hN
  have Xc:=Mb Sf
  obtain⟨p3,c3,rfl⟩:=ai Nt
  clear Sf Nt
  go_wp2_with fail
  refine Xc.out.mono ?_;rintro e w3 ⟨rfl,s,Pm,hris,Sl,k3⟩
  have K3:aa [] w w3:=by
   rcases Sl.2 with⟨e1,_⟩|⟨g,cap,cur,e1,hb,_⟩
   .exact hK.call (k3 [] (fun g hg=>by rw[e1]at hg;simp[Value.ownBlock]at hg)) (fun x hx=>by cases hx)
   .refine hK.call (k3 [g] (fun g' hg=>?_)) (fun x hx=>Or.inr ?_)
    .rw[e1]at hg
     have:g=g':=by simpa[Value.ownBlock]using hg
     simp[this]
    .have hx:x=g:=by simpa using hx
     omega
  have Px:N=s.length:=by rw[HN.out];exact Pm.length_eq.symm
  clear HN
  subst Px
  have hmp:=zg Pm hris
  have hrs:∀r∈s,0<=r.1/\1<=r.2/\r.1+r.2<=8192:=fun r hr=>wj (Pm.mem_iff.1 hr)
  have hmo:=fun k hk=>xN s hris hrs k hk
  have hS:=af.bo Sl
  have HMP:=Mb hmp
  have HS:=Mb hS
  have HMO:=Mb hmo
  have HRS:=Mb hrs
  clear hS hmo hrs hmp Pm hris Sl k3 Xc hK
  have adS:s.length<=1000000:=by omega
  have j1:(s.length:Int)<=1000000:=by omega
  have hw3:=K3.size
  go_wp2_with fail
  go_loopw [4,33] (fun v4 i wr=>∃k:Nat,k<=s.length/\i=.int .i64 k/\wr.ownsRow w3.heap.size 128 2 v4 (Ou s k).length (No (Ou s k))/\aa [] w3 wr) (fun _ i _=>s.length-(intOf i).toNat)
  case atStart=>exact⟨0,by omega,rfl,MG _ _ _ _,aa.refl _ _⟩
  case round=>
   obtain⟨k,hk,rfl,Nt,hK⟩:=hrel
   by_cases Ns:k<s.length
   .obtain⟨sb,soff,rfl,c0,c1,hb,Py,Pb⟩:=(HS.out.kept0 hK).at_ k Ns
    obtain⟨r1,r2,r3⟩:=HRS.out s[k] (Mh _)
    have TU:=lL s k Ns
    have hml:=zh s k
    have Ya:=Mb TU
    have NU:=Mb Ns
    have i1:(k:Int)<s.length:=by omega
    have Oj:=(HMO.out k hk).pl
    have Rw:=Mb Oj
    clear TU Oj
    generalize hM:Ou s k=M at*
    have HM:=Mb hM
    clear hM
    generalize s[k]=r at*
    have q3':M.length+1<=maxLen:=by unfold maxLen;omega
    have q4':(M.length+1)*16<=140737488355328:=by omega
    have hKa:=hK.alloc (.cells #[.int .i64 r.1,.int .i64 r.2] 128)
    have Qt:=hK.size
    rcases List.eq_nil_or_concat M with e|⟨I,q,e⟩
    .subst e
     rw[qm]at Ya
     obtain⟨p4,c4,rfl⟩:=ai Nt
     go_wp2_with fail
     go_quiet (fail)
     go_wp2_with (at_builtin;go_must (refine Mv _ rfl (.tmp 83) (.tmp 85) 56 rfl w3.heap.size 128 i0 (.agg #[.int .i64 0,.int .i64 0]) 2 16 Tryz.underlying56 q0 q1 q2 q3 rfl (by decide) _ _ _ rfl (Me (bK (Me Nt _) _) _) ⟨wr.heap.size+1,0,none⟩ 1 1 [.int .i64 r.1,.int .i64 r.2] rfl rfl ?_ ?_ q3' q4' ?_ ?_))
     .have RH:(((wr.alloc (.cells #[.int .i64 r.1,.int .i64 r.2] 128)).drewN nq).alloc (.cells #[.int .i64 r.1,.int .i64 r.2] 128)).heap[wr.heap.size+1]? =some (.cells #[.int .i64 r.1,.int .i64 r.2] 128 (0,0)):=by
       exact M74
      exact World.news_of_block RH
     .intro u hu;simp at hu;rcases hu with rfl|rfl<;>rfl
     .simp;omega
     intro v6 w6 o6 OE _ _
     have k6:aa [] w3 w6:=((hKa.drewN _).alloc _).grown OE (fun g hg=>Or.inr (Mn Nt g hg).1)
     have Wf:=Mb o6
     clear OE Nt o6
     go_wp2_with fail
     go_roundw
     case rel=>exact⟨k+1,NU.out,by go_num,by rw[Ya.out];simpa[No]using Wf.out,k6⟩
     case measure=>(have hh:=NU.out;simp[intOf];omega)
    .rw[List.concat_eq_append]at e
     subst e
     have abX:(I++[q]).length=I.length+1:=by simp
     rw[abX]at Nt q3' q4' hml
     obtain⟨g,c4,rfl,T4,Xr,hg3,hg4,TZ⟩:=fQ Nt (by omega)
     obtain⟨u1,u2⟩:=uN I q
     have e0:=TZ _ _ u1
     have e1:=TZ _ _ u2
     obtain⟨p1,p2,p3,p4,p5⟩:=Rw.out.init
     have i2:(I.length:Int)<=1000000:=by omega
     clear TZ u1 u2 abX
     by_cases hc:r.1<=q.1+q.2
     .rw[sB hc]at Ya
      have z1:=World.ownsRow.frozenAt Nt (I.length*2+1)
      rcases(by omega:q.2<=r.1+r.2-q.1\/r.1+r.2-q.1<q.2)with hm|hm
      .have SA:max q.2 (r.1+r.2-q.1)=r.1+r.2-q.1:=by omega
       rw[SA]at Ya
       go_wp2_with fail
       go_quiet (fail)
       go_wp2_with fail
       go_region
       all_goals
        have N8:=(World.ownsRow.stored Nt (I.length*2+1) (.int .i64 (r.1+r.2-q.1))).1
        rw[show q=(q.1,q.2)from rfl,jW]at N8
        have e9:(I++[(q.1,r.1+r.2-q.1)]).length=I.length+1:=by simp
        have OM:=Mb N8
        have Yk:=(hKa.drewN (nq+1)).setCell (p:=⟨g,I.length*2+1,none⟩) (Or.inr T4) (.int .i64 (r.1+r.2-q.1))
        have Pj:=(World.ownsRow.stored (bK (Me Nt (.cells #[.int .i64 r.1,.int .i64 r.2] 128)) (nq+1)) (I.length*2+1) (.int .i64 (r.1+r.2-q.1))).1
        rw[show q=(q.1,q.2)from rfl,jW]at Pj
        have HR9:=Mb Pj
        clear N8 Nt Pj
        go_wp2_with fail
        go_roundw
        case rel=>exact⟨k+1,NU.out,by go_num,by rw[Ya.out,e9];exact HR9.out,Yk⟩
        case measure=>(have hh:=NU.out;simp[intOf];omega)
      .have SA:max q.2 (r.1+r.2-q.1)=q.2:=by omega
       rw[SA]at Ya
       go_wp2_with fail
       go_quiet (fail)
       go_wp2_with fail
       go_region
       all_goals
        have N8:=(World.ownsRow.stored Nt (I.length*2+1) (.int .i64 (q.2))).1
        rw[show q=(q.1,q.2)from rfl,jW]at N8
        have e9:(I++[(q.1,q.2)]).length=I.length+1:=by simp
        have OM:=Mb N8
        have Yk:=(hKa.drewN (nq+1)).setCell (p:=⟨g,I.length*2+1,none⟩) (Or.inr T4) (.int .i64 (q.2))
        have Pj:=(World.ownsRow.stored (bK (Me Nt (.cells #[.int .i64 r.1,.int .i64 r.2] 128)) (nq+1)) (I.length*2+1) (.int .i64 (q.2))).1
        rw[show q=(q.1,q.2)from rfl,jW]at Pj
        have HR9:=Mb Pj
        clear N8 Nt Pj
        go_wp2_with fail
        go_roundw
        case rel=>exact⟨k+1,NU.out,by go_num,by rw[Ya.out,e9];exact HR9.out,Yk⟩
        case measure=>(have hh:=NU.out;simp[intOf];omega)
     .rw[sC hc]at Ya
      go_wp2_with fail
      go_quiet (fail)
      go_wp2_with (at_builtin;go_must (refine Mv _ rfl (.tmp 83) (.tmp 85) 56 rfl w3.heap.size 128 i0 (.agg #[.int .i64 0,.int .i64 0]) 2 16 Tryz.underlying56 q0 q1 q2 q3 rfl (by decide) _ _ _ rfl (Me (bK (Me Nt _) _) _) ⟨wr.heap.size+1,0,none⟩ 1 1 [.int .i64 r.1,.int .i64 r.2] rfl rfl ?_ ?_ q3' q4' ?_ ?_))
      .have RH:(((wr.alloc (.cells #[.int .i64 r.1,.int .i64 r.2] 128)).drewN nq).alloc (.cells #[.int .i64 r.1,.int .i64 r.2] 128)).heap[wr.heap.size+1]? =some (.cells #[.int .i64 r.1,.int .i64 r.2] 128 (0,0)):=by
        exact M74
       exact World.news_of_block RH
      .intro u hu;simp at hu;rcases hu with rfl|rfl<;>rfl
      .simp;omega
      intro v6 w6 o6 OE _ _
      have k6:aa [] w3 w6:=((hKa.drewN _).alloc _).grown OE (fun g hg=>Or.inr (Mn Nt g hg).1)
      have o7:w6.ownsRow w3.heap.size 128 2 v6 (I++[q]++[r]).length (No (I++[q]++[r])):=by
       have e9:(I++[q]++[r]).length=I.length+1+1:=by simp
       rw[cD (I++[q]) r,e9];exact o6
      have HO7:=Mb o7
      clear OE Nt o6 o7
      go_wp2_with fail
      go_roundw
      case rel=>exact⟨k+1,NU.out,by go_num,by rw[Ya.out];exact HO7.out,k6⟩
      case measure=>(have hh:=NU.out;simp[intOf];omega)
   .obtain rfl:k=s.length:=by omega
    rw[HMP.out]at Nt
    have HR:=Mb Nt
    clear Nt
    go_wp2_with fail
    go_ret
    exact⟨_,rfl,aH HR.out hw3,K3.trans hK⟩
structure qU (x y out:List (Int×Int)) (i k:Nat):Prop where
 hi:i<=x.length
 hk:k<=y.length
 pl:Pl 0 out
 is:∃T:Int,(∀j,bU out j↔bU x j/\bU y j/\j<T)/\(∀j,T<=j->bU x j->bU (x.drop i) j)/\(∀j,T<=j->bU y j->bU (y.drop k) j)
 gap:∀r∈out,(∀q∈x.drop i,r.1+r.2+1<=q.1)\/(∀q∈y.drop k,r.1+r.2+1<=q.1)
theorem Ef (hx:Pl 0 x) (hy:Pl 0 y):qU x y [] 0 0:=
 ⟨Mu _,Mu _,trivial,⟨0,fun j=>⟨fun h=>absurd h (ep j),fun⟨h1,_,h2⟩=>by have:=(hx.ge h1).1;omega⟩,fun j _ h=>h,fun j _ h=>h⟩,fun r hr=>by cases hr⟩
theorem rN (h:q∈l.drop (i+1)):q∈l.drop i:=by
 rw[<-List.drop_drop]at h
 exact Nb h
theorem uU (hx:Pl 0 x) (hi:i<x.length) (h:q∈x.drop (i+1)):x[i].1+x[i].2+1<=q.1:=((hx.next i hi).mem h).1
theorem uS (hi:i<x.length) (j:Int):bU (x.drop i) j↔(x[i].1<=j/\j<x[i].1+x[i].2)\/bU (x.drop (i+1)) j:=by
 rw[List.drop_eq_getElem_cons hi,dg]
theorem kJ (hx:Pl 0 x) (hi:i<x.length):0<=x[i].1/\1<=x[i].2/\x[i].1+x[i].2<=8192:=hx.mem (Mh hi)
theorem Gp (hx:Pl 0 x) (hy:Pl 0 y) (h:qU x y out i k) (hi:i<x.length) (hk:k<y.length) (lo hi':Int) (elo:lo=max x[i].1 y[k].1) (ehi:hi'=min (x[i].1+x[i].2) (y[k].1+y[k].2)) (i' k':Nat)
  (hik:(x[i].1+x[i].2=hi'/\i'=i+1/\k'=k)\/(x[i].1+x[i].2≠hi'/\i'=i/\k'=k+1)):qU x y (if lo<hi' then out++[(lo,hi'-lo)]else out) i' k':=by
 obtain⟨a1,a2,a3⟩:=kJ hx hi
 obtain⟨b1,b2,b3⟩:=kJ hy hk
 obtain⟨_,_,pl,⟨T,h1,h2,h3⟩,gap⟩:=h
 have dx:=fun j=>uS hi j
 have dy:=fun j=>uS hk j
 have gx:∀j,bU (x.drop (i+1)) j->x[i].1+x[i].2+1<=j:=fun j hj=>((hx.next i hi).ge hj).1
 have gy:∀j,bU (y.drop (k+1)) j->y[k].1+y[k].2+1<=j:=fun j hj=>((hy.next k hk).ge hj).1
 have hxm:∀j,x[i].1<=j->j<x[i].1+x[i].2->bU x j:=fun j p q=>⟨x[i],Mh hi,p,q⟩
 have hym:∀j,y[k].1<=j->j<y[k].1+y[k].2->bU y j:=fun j p q=>⟨y[k],Mh hk,p,q⟩
 have xi0:x[i]∈x.drop i:=by rw[List.drop_eq_getElem_cons hi];exact Mg
 have yk0:y[k]∈y.drop k:=by rw[List.drop_eq_getElem_cons hk];exact Mg
 have mx:∀q,q∈x.drop i'->q∈x.drop i:=by
  rcases hik with⟨_,rfl,_⟩|⟨_,rfl,_⟩
  .exact fun q hq=>rN hq
  .exact fun q hq=>hq
 have my:∀q,q∈y.drop k'->q∈y.drop k:=by
  rcases hik with⟨_,_,rfl⟩|⟨_,_,rfl⟩
  .exact fun q hq=>hq
  .exact fun q hq=>rN hq
 have adB:(∀q∈x.drop i',hi'+1<=q.1)\/(∀q∈y.drop k',hi'+1<=q.1):=by
  rcases hik with⟨e,rfl,_⟩|⟨e,_,rfl⟩
  .exact Or.inl (fun q hq=>by have:=uU hx hi hq;omega)
  .exact Or.inr (fun q hq=>by have:=uU hy hk hq;omega)
 have ex:∀j,max T hi'<=j->bU x j->bU (x.drop i') j:=by
  intro j hj Ph
  have hd:=h2 j (by omega) Ph
  rcases hik with⟨e,rfl,_⟩|⟨e,rfl,_⟩
  .rcases(dx j).1 hd with⟨_,q⟩|q
   .omega
   .exact q
  .exact hd
 have ey:∀j,max T hi'<=j->bU y j->bU (y.drop k') j:=by
  intro j hj Ph
  have hd:=h3 j (by omega) Ph
  rcases hik with⟨e,_,rfl⟩|⟨e,_,rfl⟩
  .exact hd
  .rcases(dy j).1 hd with⟨_,q⟩|q
   .omega
   .exact q
 have hii:i'<=x.length/\k'<=y.length:=by rcases hik with⟨_,rfl,rfl⟩|⟨_,rfl,rfl⟩<;>omega
 have back:∀j,bU x j->bU y j->T<=j->j<hi'->lo<=j:=by
  intro j p q r s
  have p2:=h2 j r p
  have q2:=h3 j r q
  have p3:x[i].1<=j:=by
   rcases(dx j).1 p2 with⟨p3,_⟩|p3
   .exact p3
   .have:=gx j p3;omega
  have q3:y[k].1<=j:=by
   rcases(dy j).1 q2 with⟨q3,_⟩|q3
   .exact q3
   .have:=gy j q3;omega
  omega
 by_cases Ns:lo<hi'
 .rw[if_pos Ns]
  refine⟨hii.1,hii.2,?_,⟨max T hi',fun j=>?_,ex,ey⟩,?_⟩
  .refine pl.snoc (by show(0:Int)<=lo;omega) (by show 1<=hi'-lo;omega) (by show lo+(hi'-lo)<=8192;omega) (fun r hr=>?_)
   show r.1+r.2+1<=lo
   rcases gap r hr with g|g
   .have:=g _ xi0;omega
   .have:=g _ yk0;omega
  .rw[bY,ft,h1 j]
   constructor
   .rintro(⟨p,q,r⟩|⟨p,q⟩)
    .exact⟨p,q,by omega⟩
    .have p:lo<=j:=p
     have q:j<lo+(hi'-lo):=q
     exact⟨hxm j (by omega) (by omega),hym j (by omega) (by omega),by omega⟩
   .rintro⟨p,q,r⟩
    by_cases hT:j<T
    .exact Or.inl ⟨p,q,hT⟩
    .refine Or.inr ⟨?_,?_⟩
     .show lo<=j;exact back j p q (by omega) (by omega)
     .show j<lo+(hi'-lo);omega
  .intro r hr
   rcases Mj.1 hr with hr|hr
   .rcases gap r hr with g|g
    .exact Or.inl (fun q hq=>g q (mx q hq))
    .exact Or.inr (fun q hq=>g q (my q hq))
   .have hr:r=(lo,hi'-lo):=by simpa using hr
    subst hr
    rcases adB with g|g
    .exact Or.inl (fun q hq=>by have:=g q hq;show lo+(hi'-lo)+1<=q.1;omega)
    .exact Or.inr (fun q hq=>by have:=g q hq;show lo+(hi'-lo)+1<=q.1;omega)
 .rw[if_neg Ns]
  refine⟨hii.1,hii.2,pl,⟨max T hi',fun j=>?_,ex,ey⟩,?_⟩
  .rw[h1 j]
   constructor
   .rintro⟨p,q,r⟩;exact⟨p,q,by omega⟩
   .rintro⟨p,q,r⟩
    by_cases hT:j<T
    .exact⟨p,q,hT⟩
    .have:=back j p q (by omega) (by omega);omega
  .intro r hr
   rcases gap r hr with g|g
   .exact Or.inl (fun q hq=>g q (mx q hq))
   .exact Or.inr (fun q hq=>g q (my q hq))
theorem I6 {a b:List (Int×Int)} (h:qU (NY a) (NY b) out i k) (he:i=(NY a).length\/k=(NY b).length):out=uW a b:=by
 obtain⟨_,_,pl,⟨T,h1,h2,h3⟩,_⟩:=h
 refine lU pl (fun m hm=>?_)
 rw[h1]
 have ea:bU (NY a) m↔aC a m=true:=by rw[<-bF];unfold NY;rw[kh _ m hm]
 have eb:bU (NY b) m↔aC b m=true:=by rw[<-bF];unfold NY;rw[kh _ m hm]
 rw[MJ,<-ea,<-eb]
 constructor
 .rintro⟨p,q,_⟩;exact⟨p,q⟩
 .rintro⟨p,q⟩
  refine⟨p,q,?_⟩
  by_cases hT:(m:Int)<T
  .exact hT
  .exfalso
   rcases he with he|he
   .have:=h2 m (by omega) p
    rw[he,List.drop_length]at this
    exact ep _ this
   .have:=h3 m (by omega) q
    rw[he,List.drop_length]at this
    exact ep _ this
end Go.Proofs.YtdkimcnlhmhpgaaGreat

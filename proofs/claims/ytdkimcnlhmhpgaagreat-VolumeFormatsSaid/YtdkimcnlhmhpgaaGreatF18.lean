/- -/
import Derived.Test.YtdkimcnlhmhpgaaGreatF17
import Derived.Deep.DeepCutAuto
import Derived.Deep.RegionLaw
import Derived.IntWalk
import Derived.Laws.OwnMore
import Derived.Maps.AppendAt
set_option maxHeartbeats 32000000
set_option maxRecDepth 100000
namespace Go.Proofs.YtdkimcnlhmhpgaaGreat
section
open Go.Proofs.Tryz Go.RowKit
theorem F0a {w:World} {base:Nat} {e:TypeId} {size:Nat} {v:Value} {n:Nat} {xs:List Value} (h:w.ownsRow base e size v n xs):w.drew.ownsRow base e size v n xs:=h
end
section
open Go.Proofs.Tryz Go.RowKit Go.Maps Go.ChangeMaps
def F0b (w:World) (v:Value) (l:List Bool) (lo hi:Nat):Prop:=
 (l=[]/\∃a c,v=.slice a 0 c)\/
 ∃b off c,v=.slice (some ⟨b,off,none⟩) l.length c/\(∀i (h:i<l.length),w.cell? ⟨b,off+i,none⟩=some (.bool l[i]))/\lo<=b/\b<hi/\hi<=w.heap.size/\l≠[]/\l.length<=c/\c<=maxLen
theorem F0b.kept {S w w' v l lo hi} (h:F0b w v l lo hi) (k:NP S w w') (hS:∀x∈S,x<lo\/hi<=x):F0b w' v l lo hi:=by
 rcases h with h|⟨b,off,c,h1,h2,h3,h4,h5,h6⟩
 .exact Or.inl h
 .refine Or.inr ⟨b,off,c,h1,fun i hi=>?_,h3,h4,Nk h5 k.size,h6⟩
  rw[k.cell d! (fun hb=>by have:=hS b hb;omega)]
  exact h2 i hi
def F0c (l:List Bool) (i:Nat):Bool:=l.getD i false
theorem F0d (g i:Nat) (v l) (lo hi:Nat) (w) (o:ae w g #[v] 39) (h:F0b w v l lo hi) (hl:l.length<=maxLen) (_:i<=1000000):
  am! 144 #[(i:Int),g] w fun e w'=>e=.returned (.bool (F0c l i))/\w=w':=by
 have c0:=o.cell 0 b?
 by_cases hlt:i<l.length
 .rcases h with⟨rfl,_⟩|⟨b,off,c,rfl,h2,h3,h4,h5,h6,h7,h8⟩
  .simp at hlt
  .have hc:=h2 i hlt
   have hk:F0c l i=l[i]:=by unfold F0c;rw[Nx,MZ hlt];rfl
   rw[hk]
   have i1:(i:Int)<l.length:=a?
   simp only[List.getElem_toArray,List.getElem_cons_zero]at c0
   clear h2 hk o
   generalize l[i]=x at*
   generalize l.length=n at*
   go_enter func144,ntmps144
   go_wp2_with fail
   go_ret
   exact⟨rfl,rfl⟩
 .have hk:F0c l i=false:=by unfold F0c;rw[Nx,List.getElem?_eq_none a?];rfl
  rw[hk]
  have hs:∃p c,v=.slice p l.length c:=by
   rcases h with⟨rfl,a,c,rfl⟩|⟨b,off,c,rfl,_⟩
   .exact⟨a,c,rfl⟩
   .exact⟨_,c,rfl⟩
  obtain⟨p,c,rfl⟩:=hs
  have i1:¬((i:Int)<l.length):=a?
  simp only[List.getElem_toArray,List.getElem_cons_zero]at c0
  clear h o hk
  generalize l.length=n at*
  go_enter func144,ntmps144
  go_wp2_with fail
  go_ret
  exact⟨rfl,rfl⟩
end
section
open Go.Proofs.Tryz Go.RowKit Go.Maps
theorem F0e (p:Option Addr) (n c:Nat) (w:World):am! 76 #[(p,n,c)] w fun e w'=>e=.returned (.func (.func 144) #[] #[w.heap.size])/\w'=w.alloc (.cells #[(p,n,c)] 39):=by
 go_enter func76,ntmps76
 go_wp2_with fail
 go_ret
 exact⟨rfl,rfl⟩
theorem F0b.shape {w v l lo hi} (h:F0b w v l lo hi):∃p c,v=.slice p l.length c:=by
 rcases h with⟨rfl,a,c,rfl⟩|⟨b,off,c,rfl,_⟩
 .exact⟨a,c,rfl⟩
 .exact⟨_,c,rfl⟩
def F0f (d:DK) (keep:List Bool):DK:=⟨sk d.stand d.waits (F0c keep) d.waits.length,[],-1,d.ops,false⟩
def F0g (d:DK) (n:Int):DK:=⟨d.stand,d.waits,max n (-1),d.ops,d.down⟩
end
section
open Go.Proofs.Tryz Go.ChangeShapes Go.WideShapes Go.ChangeAt Go.RowKit Go.Deep
theorem F0t (d k):(F0f d k).stand.length=d.stand.length:=su _ _ _ _
end
section
open Go.Proofs.Tryz Go.ChangeShapes Go.WideShapes Go.ChangeAt Go.RowKit Go.Deep
section
variable {H:Type} {enc:TypeId×Value->H} {w:World} {base:Nat} {held:Bool} {r:Reach} {b0:Nat}
theorem F0b.len {w v l lo hi} (h:F0b w v l lo hi):l.length<=maxLen:=by
 rcases h with⟨rfl,a,c,rfl⟩|⟨b,off,c,rfl,_,_,_,_,_,h7,h8⟩
 .exact Nb _
 .omega
end
end
section
open Go.Proofs.Tryz Go.RowKit Go.Maps
theorem F0h (l):(ky l).length=l.length:=by simp[ky]
theorem F0i (l):∀u∈ky l,u.oneCell'=true:=by
 intro u hu;simp only[ky,ND]at hu;obtain⟨s,_,rfl⟩:=hu;rfl
theorem aD.own {w b sb mb lo d} (h:aD w b sb mb lo d):∃cs,ae w b cs 138:=by obtain⟨wv,n,o,_⟩:=h;exact⟨_,o⟩
end
section
open Go.Proofs.Tryz Go.RowKit Go.Maps
theorem F0j (l i s):(ky l).set i (.string (bs s))=ky (l.set i s):=by
 unfold ky;simp[List.map_set]
theorem F0k (r lo d v w) (h:eK w r lo d) (hfine:∀x∈d.waits,x.1<d.stand.length):
  am! 77 #[.pointer (some ⟨r,0,none⟩),v,.bool true] w fun e w'=>e=.returned (.tuple #[])/\eK w' r lo (kX d (fun _=>true))/\NP [r] w w':=by
 obtain⟨i0,q0,q1,q2,q3⟩:=zF
 obtain⟨sv,wv,o⟩:=h.own
 obtain⟨p,c,p',c',c0,c1,c2,c3,c4,hsr,hwr,h1,h2,h3,h4,h5⟩:=h.mz
 have rlt:=o.lt
 have hem:=bJ w w.heap.size 9 1 (MG _)
 have hsr2:=MH hsr (.cells #[] 9)
 have r3:0+d.stand.length<=maxLen:=m?
 have r4:(0+d.stand.length)*16<=140737488355328:=a?
 have hfin:∀W v,NP [r] w W->W.ownsRow w.heap.size 9 1 v d.stand.length (ky (sk d.stand d.waits (fun _=>true) d.waits.length))->(∀v0 v1,ae w r #[v0,v1,.int .i64 d.fuse,.int .i64 d.ops,.bool d.down] 134->ae W r #[v,.slice none 0 0,.int .i64 d.fuse,.int .i64 d.ops,.bool d.down] 134)->eK W r lo (kX d (fun _=>true)):=by
  intro W v k hv ho2
  obtain⟨sv,wv,o,hs,hw,h1,h2,h3,h4,h5,h6,h7⟩:=h
  refine⟨v,.slice none 0 0,ho2 _ _ o,?_,Nf _ _ _ _,Nk h1 k.size,h2,?_,?_,h5,h6,Nb _⟩
  .show W.ownsRow lo _ 1 v (sk d.stand d.waits (fun _=>true) d.waits.length).length (ky (sk d.stand d.waits (fun _=>true) d.waits.length))
   rw[su]
   exact aF hv h1
  .show 1<=(sk d.stand d.waits (fun _=>true) d.waits.length).length
   rw[su];exact h3
  .show(sk d.stand d.waits (fun _=>true) d.waits.length).length<=8192
   rw[su];exact h4
 have HFIN:=tK hfin
 have HFINE:=tK hfine
 have HW:=tK hwr
 clear hfin hfine hwr h
 go_enter func77,ntmps77
 go_wp2_with (at_builtin;go_must (refine oL rfl (.tmp 8) (.tmp 12) 76 rfl w.heap.size lo 9 i0 (.string ⟨#[]⟩) 1 16 underlying76 q0 q1 q2 q3 rfl d? _ _ _ rfl hem _ _ _ rfl hsr2 (F0i _) r3 r4 b? ?_))
 intro v5 w5 o3 gr3 hat3
 have o3':w5.ownsRow w.heap.size 9 1 v5 d.stand.length (ky d.stand):=by simpa using o3
 have k5:NP [] w w5:=((NP.refl [] w).alloc _).grown gr3 (fun g hg=>by
  have:w.heap.size=g:=y!
  exact Or.inr a?)
 obtain⟨g,cap,rfl,hg1,_,hg3,hg4,_⟩:=cU o3' a?
 clear gr3 hat3 hem hsr2 o3
 go_wp2_with fail
 go_loopw [7] (fun i wr=>∃k:Nat,k<=d.waits.length/\i=.int .i64 k/\wr.ownsRow w.heap.size 9 1 (.slice (some ⟨g,0,none⟩) d.stand.length cap) d.stand.length (ky (sk d.stand d.waits (fun _=>true) k))/\NP [] w wr) (fun i _=>d.waits.length-(intOf i).toNat)
 case atStart=>exact⟨0,a?,rfl,o3',k5⟩
 case round=>
  obtain⟨k,hk,rfl,hrow,hK⟩:=hrel
  have or_:=hK.own o b?
  obtain⟨x0,x1,x2,x3,x4⟩:=or_.c5
  have y0:wr.cell? ⟨r,0,none⟩=some (.slice p d.stand.length c):=by rw[hK.cell (by exact rlt) b?];exact c0
  have y1:wr.cell? ⟨r,1,none⟩=some (.slice p' d.waits.length c'):=by rw[hK.cell (by exact rlt) b?];exact c1
  clear x0 x1 x2 x3 x4
  by_cases hlt:k<d.waits.length
  .obtain⟨at1,dt,hst,hq1,hq2,hat⟩:∃(at1:Nat) (dt:List UInt8),sk d.stand d.waits (fun _=>true) (k+1)=(if(fun _=>true) k then(sk d.stand d.waits (fun _=>true) k).set at1 dt else sk d.stand d.waits (fun _=>true) k)/\(PG d.waits)[k*2]? =some (.int .i64 (at1:Int))/\(PG d.waits)[k*2+1]? =some (.string (bs dt))/\at1<d.stand.length:=
    ⟨_,_,tP d.stand d.waits (fun _=>true) k hlt,(nc d.waits k hlt).1,(nc d.waits k hlt).2,HFINE.out _ (MJ _)⟩
   obtain⟨gw,cw,ew,_,hgw,_,_,hwc⟩:=cU HW.out a?
   have w1:=hwc _ _ hq1
   have w2:=hwc _ _ hq2
   rw[<-hK.cell (a:=⟨gw,k*2,none⟩) (by exact hgw) b?]at w1
   rw[<-hK.cell (a:=⟨gw,k*2+1,none⟩) (by exact hgw) b?]at w2
   injection ew with ew _ ecw
   subst ew ecw
   have i2:(k:Int)<d.waits.length:=a?
   have i3:(at1:Int)<d.stand.length:=a?
   have HLT:=tK hlt
   have v0:∃u,wr.cell? ⟨g,at1,none⟩=some u:=by
    have hl:at1<(ky (sk d.stand d.waits (fun _=>true) k)).length:=by rw[F0h,su];exact hat
    have:=World.ownsRow.cells hrow (g:=g) rfl at1 _ (MZ hl)
    rw[Ni,Nat.zero_add]at this
    exact⟨_,this⟩
   obtain⟨u0,v0⟩:=v0
   have z0:=World.ownsRow.frozenAt hrow at1
   have hstore:=World.ownsRow.stored hrow at1 (.string (bs dt))
   rw[F0j]at hstore
   have hkf:=hK.setCell (p:=⟨g,at1,none⟩) (Or.inr hg1) (.string (bs dt))
   have HST:=tK hst
   have HSTORE:=tK hstore.1
   have HROW:=tK hrow
   clear hq1 hq2 hwc hst hstore hrow c0 c1
   go_wp2_with fail
   go_region
   all_goals
    go_wp2_with fail
    go_roundw
    case rel=>exact⟨k+1,HLT.out,j?,by rw[HST.out,if_pos trivial];exact F0a HSTORE.out,hkf.drew⟩
    case measure=>(have hh:=HLT.out;simp[intOf];omega)
  .obtain rfl:k=d.waits.length:=a?
   have zr:=or_.free 0
   have zr1:=or_.free 1
   have kk:=((hK.mono (T:=[r]) b?).setCell (p:=⟨r,0,none⟩) (Or.inl b?) (.slice (some ⟨g,0,none⟩) d.stand.length cap)).setCell (p:=⟨r,1,none⟩) (Or.inl b?) (.slice none 0 0)
   have hne:=aB hrow or_ d?
   have hrow2:=bT (bT hrow (p:=⟨r,0,none⟩) hne (.slice (some ⟨g,0,none⟩) d.stand.length cap)) (p:=⟨r,1,none⟩) hne (.slice none 0 0)
   have HR0:=tK (HFIN.out _ _ kk hrow2 (fun v0 v1 o=>((hK.own o b?).set 0 _).set 1 _))
   clear hrow2 hrow hne
   go_wp2_with fail
   go_end0
   exact⟨rfl,HR0.out,kk⟩
theorem F0m (r lo d v keep lo1 hi1 w) (h:eK w r lo d) (hfine:∀x∈d.waits,x.1<d.stand.length) (hb:F0b w v keep lo1 hi1):
  am! 77 #[.pointer (some ⟨r,0,none⟩),v,.bool false] w fun e w'=>e=.returned (.tuple #[])/\eK w' r lo (kX d (F0c keep))/\NP [r] w w':=by
 obtain⟨pk,ck,rfl⟩:=hb.shape
 have hkl:(keep.length:Int)<=9223372036854775807:=by have:=hb.len;unfold maxLen at this;omega
 have HB:=tK hb
 clear hb
 obtain⟨i0,q0,q1,q2,q3⟩:=zF
 obtain⟨sv,wv,o⟩:=h.own
 obtain⟨p,c,p',c',c0,c1,c2,c3,c4,hsr,hwr,h1,h2,h3,h4,h5⟩:=h.mz
 have rlt:=o.lt
 have hem:=bJ w w.heap.size 9 1 (MG _)
 have hsr2:=MH hsr (.cells #[] 9)
 have r3:0+d.stand.length<=maxLen:=m?
 have r4:(0+d.stand.length)*16<=140737488355328:=a?
 have hfin:∀W v,NP [r] w W->W.ownsRow w.heap.size 9 1 v d.stand.length (ky (sk d.stand d.waits (F0c keep) d.waits.length))->(∀v0 v1,ae w r #[v0,v1,.int .i64 d.fuse,.int .i64 d.ops,.bool d.down] 134->ae W r #[v,.slice none 0 0,.int .i64 d.fuse,.int .i64 d.ops,.bool d.down] 134)->eK W r lo (kX d (F0c keep)):=by
  intro W v k hv ho2
  obtain⟨sv,wv,o,hs,hw,h1,h2,h3,h4,h5,h6,h7⟩:=h
  refine⟨v,.slice none 0 0,ho2 _ _ o,?_,Nf _ _ _ _,Nk h1 k.size,h2,?_,?_,h5,h6,Nb _⟩
  .show W.ownsRow lo _ 1 v (sk d.stand d.waits (F0c keep) d.waits.length).length (ky (sk d.stand d.waits (F0c keep) d.waits.length))
   rw[su]
   exact aF hv h1
  .show 1<=(sk d.stand d.waits (F0c keep) d.waits.length).length
   rw[su];exact h3
  .show(sk d.stand d.waits (F0c keep) d.waits.length).length<=8192
   rw[su];exact h4
 have HFIN:=tK hfin
 have HFINE:=tK hfine
 have HW:=tK hwr
 clear hfin hfine hwr h
 go_enter func77,ntmps77
 go_wp2_with (at_builtin;go_must (refine oL rfl (.tmp 8) (.tmp 12) 76 rfl w.heap.size lo 9 i0 (.string ⟨#[]⟩) 1 16 underlying76 q0 q1 q2 q3 rfl d? _ _ _ rfl hem _ _ _ rfl hsr2 (F0i _) r3 r4 b? ?_))
 intro v5 w5 o3 gr3 hat3
 have o3':w5.ownsRow w.heap.size 9 1 v5 d.stand.length (ky d.stand):=by simpa using o3
 have k5:NP [] w w5:=((NP.refl [] w).alloc _).grown gr3 (fun g hg=>by
  have:w.heap.size=g:=y!
  exact Or.inr a?)
 obtain⟨g,cap,rfl,hg1,_,hg3,hg4,_⟩:=cU o3' a?
 clear gr3 hat3 hem hsr2 o3
 go_wp2_with fail
 go_loopw [7] (fun i wr=>∃k:Nat,k<=d.waits.length/\i=.int .i64 k/\wr.ownsRow w.heap.size 9 1 (.slice (some ⟨g,0,none⟩) d.stand.length cap) d.stand.length (ky (sk d.stand d.waits (F0c keep) k))/\NP [] w wr) (fun i _=>d.waits.length-(intOf i).toNat)
 case atStart=>exact⟨0,a?,rfl,o3',k5⟩
 case round=>
  obtain⟨k,hk,rfl,hrow,hK⟩:=hrel
  have or_:=hK.own o b?
  obtain⟨x0,x1,x2,x3,x4⟩:=or_.c5
  have y0:wr.cell? ⟨r,0,none⟩=some (.slice p d.stand.length c):=by rw[hK.cell (by exact rlt) b?];exact c0
  have y1:wr.cell? ⟨r,1,none⟩=some (.slice p' d.waits.length c'):=by rw[hK.cell (by exact rlt) b?];exact c1
  clear x0 x1 x2 x3 x4
  by_cases hlt:k<d.waits.length
  .obtain⟨at1,dt,hst,hq1,hq2,hat⟩:∃(at1:Nat) (dt:List UInt8),sk d.stand d.waits (F0c keep) (k+1)=(if(F0c keep) k then(sk d.stand d.waits (F0c keep) k).set at1 dt else sk d.stand d.waits (F0c keep) k)/\(PG d.waits)[k*2]? =some (.int .i64 (at1:Int))/\(PG d.waits)[k*2+1]? =some (.string (bs dt))/\at1<d.stand.length:=
    ⟨_,_,tP d.stand d.waits (F0c keep) k hlt,(nc d.waits k hlt).1,(nc d.waits k hlt).2,HFINE.out _ (MJ _)⟩
   obtain⟨gw,cw,ew,_,hgw,_,_,hwc⟩:=cU HW.out a?
   have w1:=hwc _ _ hq1
   have w2:=hwc _ _ hq2
   rw[<-hK.cell (a:=⟨gw,k*2,none⟩) (by exact hgw) b?]at w1
   rw[<-hK.cell (a:=⟨gw,k*2+1,none⟩) (by exact hgw) b?]at w2
   injection ew with ew _ ecw
   subst ew ecw
   have i2:(k:Int)<d.waits.length:=a?
   have i3:(at1:Int)<d.stand.length:=a?
   have HLT:=tK hlt
   have v0:∃u,wr.cell? ⟨g,at1,none⟩=some u:=by
    have hl:at1<(ky (sk d.stand d.waits (F0c keep) k)).length:=by rw[F0h,su];exact hat
    have:=World.ownsRow.cells hrow (g:=g) rfl at1 _ (MZ hl)
    rw[Ni,Nat.zero_add]at this
    exact⟨_,this⟩
   obtain⟨u0,v0⟩:=v0
   have z0:=World.ownsRow.frozenAt hrow at1
   have hstore:=World.ownsRow.stored hrow at1 (.string (bs dt))
   rw[F0j]at hstore
   have hkf:=hK.setCell (p:=⟨g,at1,none⟩) (Or.inr hg1) (.string (bs dt))
   have HST:=tK hst
   have HSTORE:=tK hstore.1
   have HROW:=tK hrow
   clear hq1 hq2 hwc hst hstore hrow c0 c1
   rcases Nat.lt_or_ge k keep.length with hlk|hlk
   .have i4:(k:Int)<keep.length:=a?
    have hkk:F0c keep k=keep[k]:=by unfold F0c;rw[Nx,MZ hlk];rfl
    rcases HB.out with⟨e,_⟩|⟨bb,off,cb,eb,hbc,hb3,hb4,hb5,_,hb7,hb8⟩
    .rw[e]at hlk;simp at hlk
    .have bc:=hbc k hlk
     rw[<-hK.cell (a:=⟨bb,off+k,none⟩) (by show bb<_;omega) b?]at bc
     injection eb with eb _ ecb
     subst eb ecb
     clear hbc
     cases hkv:keep[k]
     .rw[hkv]at bc hkk
      have HKK:=tK hkk
      clear hkv hkk
      go_wp2_with fail
      go_roundw
      case rel=>exact⟨k+1,HLT.out,j?,by rw[HST.out,if_neg (by rw[HKK.out];simp)];exact HROW.out,hK⟩
      case measure=>(have hh:=HLT.out;simp[intOf];omega)
     .rw[hkv]at bc hkk
      have HKK:=tK hkk
      clear hkv hkk
      go_wp2_with fail
      go_region
      all_goals
       go_wp2_with fail
       go_roundw
       case rel=>exact⟨k+1,HLT.out,j?,by rw[HST.out,if_pos HKK.out];exact F0a HSTORE.out,hkf.drew⟩
       case measure=>(have hh:=HLT.out;simp[intOf];omega)
   .have hkk:F0c keep k=false:=by unfold F0c;rw[Nx,List.getElem?_eq_none hlk];rfl
    have i4:¬((k:Int)<keep.length):=a?
    have HKK:=tK hkk
    clear hkk
    go_wp2_with fail
    go_roundw
    case rel=>exact⟨k+1,HLT.out,j?,by rw[HST.out,if_neg (by rw[HKK.out];simp)];exact HROW.out,hK⟩
    case measure=>(have hh:=HLT.out;simp[intOf];omega)
  .obtain rfl:k=d.waits.length:=a?
   have zr:=or_.free 0
   have zr1:=or_.free 1
   have kk:=((hK.mono (T:=[r]) b?).setCell (p:=⟨r,0,none⟩) (Or.inl b?) (.slice (some ⟨g,0,none⟩) d.stand.length cap)).setCell (p:=⟨r,1,none⟩) (Or.inl b?) (.slice none 0 0)
   have hne:=aB hrow or_ d?
   have hrow2:=bT (bT hrow (p:=⟨r,0,none⟩) hne (.slice (some ⟨g,0,none⟩) d.stand.length cap)) (p:=⟨r,1,none⟩) hne (.slice none 0 0)
   have HR0:=tK (HFIN.out _ _ kk hrow2 (fun v0 v1 o=>((hK.own o b?).set 0 _).set 1 _))
   clear hrow2 hrow hne
   go_wp2_with fail
   go_end0
   exact⟨rfl,HR0.out,kk⟩
end
section
open Go.Proofs.Tryz Go.RowKit Go.Maps
theorem eK.nums {w w' r lo d d'} (h:eK w r lo d) (k:NP [r] w w') (hs:d'.stand=d.stand) (hw:d'.waits=d.waits) (hf:(Lit.int .i64 d'.fuse).wf=true) (ho:d'.ops<=100000) (hown:∀v0 v1,ae w r #[v0,v1,d.fuse,(d.ops:Int),.bool d.down] 134->ae w' r #[v0,v1,d'.fuse,(d'.ops:Int),.bool d'.down] 134):eK w' r lo d':=by
 obtain⟨sv,wv,o,hsr,hwr,h1,h2,h3,h4,h5,h6,h7⟩:=h
 exact⟨sv,wv,hown _ _ o,by rw[hs];exact bI hsr k o d?,by rw[hw];exact bI hwr k o d?,Nk h1 k.size,h2,by rw[hs];exact h3,by rw[hs];exact h4,hf,ho,by rw[hw];exact h7⟩
theorem F0n (r lo d v keep lo1 hi1 w) (h:eK w r lo d) (hfine:∀x∈d.waits,x.1<d.stand.length) (hb:F0b w v keep lo1 hi1):
  am! 29 #[r,v] w fun e w'=>e=.returned (.tuple #[])/\eK w' r lo (F0f d keep)/\NP [r] w w':=by
 have hst:=F0m r lo d v keep lo1 hi1 w h hfine hb
 have ho:d.ops<=100000:=by obtain⟨_,_,_,_,_,_,_,_,_,_,_,_,_,h3,_⟩:=h.mz;exact h3
 obtain⟨p,c,rfl⟩:=hb.shape
 have HS:=tK hst
 have HO:=tK ho
 clear hst hb h ho
 go_enter func29,ntmps29
 go_wp2_with fail
 refine HS.out.mono ?_;rintro e w2 ⟨rfl,h2,k2⟩
 obtain⟨v0,v1,o2⟩:=h2.own
 obtain⟨c0,c1,c2,c3,c4⟩:=o2.c5
 have z:=o2.z5
 have kk:=((NP.refl [r] w2).setCell (p:=(aa r 2)) (Or.inl b?) (-1:Int)).setCell (p:=(aa r 4)) (Or.inl b?) false
 have hR:=eK.nums (d':=F0f d keep) h2 kk rfl rfl (by show(Lit.int .i64 (-1)).wf=true;rfl) HO.out (fun v0 v1 o=>(o.set 2 _).set 4 _)
 have HR0:=tK hR
 clear hR h2 o2
 go_wp2_with fail
 go_end0
 exact⟨rfl,HR0.out,k2.trans kk⟩
theorem F0o (r lo d w) (h:eK w r lo d) (hd:d.down=true):am! 141 #[r] w fun e w'=>e=(90:Int)/\w=w':=by
 obtain⟨p,c,p',c',c0,c1,c2,c3,c4,_⟩:=h.mz
 rw[hd]at c4
 clear h hd
 go_enter func141,ntmps141
 go_wp2_with fail
 go_ret
 exact⟨rfl,rfl⟩
theorem F0p (r lo d w) (h:eK w r lo d) (hd:d.down=false) (hf:d.fuse=0) (ho:d.ops<100000):am! 141 #[r] w fun e w'=>e=(90:Int)/\eK w' r lo (dq d)/\NP [r] w w':=by
 obtain⟨p,c,p',c',c0,c1,c2,c3,c4,_⟩:=h.mz
 have hop:=Mj r lo d w h ho
 rw[MV hf]at hop
 rw[hd]at c4
 clear h hd hf
 go_enter func141,ntmps141
 go_wp2_with (go_at_call 211;refine hop.mono ?_;rintro e w1 ⟨rfl,h1,k1⟩)
 go_ret
 exact⟨rfl,h1,k1⟩
theorem F0q (r lo d w) (h:eK w r lo d) (hd:d.down=false) (hf:d.fuse≠0) (ho:d.ops<100000) (hfine:∀x∈d.waits,x.1<d.stand.length):
  am! 141 #[r] w fun e w'=>e=(0:Int)/\eK w' r lo (kX (dq d) (fun _=>true))/\NP [r] w w':=by
 obtain⟨p,c,p',c',c0,c1,c2,c3,c4,_⟩:=h.mz
 have hop:=Mj r lo d w h ho
 have hset:=fun W (hW:eK W r lo (dq d))=>F0k r lo (dq d) () W hW hfine
 rw[MS hf]at hop
 rw[hd]at c4
 have HSET:=tK hset
 clear h hd hf hset hfine
 go_enter func141,ntmps141
 go_wp2_with (first
  |(go_at_call 211;refine hop.mono ?_;rintro e w1 ⟨rfl,h1,k1⟩)
  |(go_at_call 77;refine(HSET.out _ h1).mono ?_;rintro e w2 ⟨rfl,h2,k2⟩))
 go_ret
 exact⟨rfl,h2,k1.trans k2⟩
def F0r (d:DK) (n:Int):DK:=⟨d.stand,d.waits,n,d.ops,d.down⟩
theorem eK.fuse {w r lo d} (h:eK w r lo d) (n) (hn:(Lit.int .i64 n).wf=true):eK (w.setCell (aa r 2) n) r lo (F0r d n)/\NP [r] w (w.setCell (aa r 2) n):=by
 have kk:=(NP.refl [r] w).setCell (p:=(aa r 2)) (Or.inl b?) n
 have ho:d.ops<=100000:=by obtain⟨_,_,_,_,_,_,_,_,_,_,_,_,_,h3,_⟩:=h.mz;exact h3
 exact⟨eK.nums (d':=F0r d n) h kk rfl rfl hn ho (fun v0 v1 o=>o.set 2 _),kk⟩
theorem F0s (n:Nat) (w) (h1:1<=n) (h2:n<=8192):
  am! 73 #[(n:Int)] w fun e w'=>e=.returned w.heap.size/\eK w' w w (QP (List.replicate n N9))/\NP [] w w':=by
 obtain⟨i0,q0,q1,q2,q3⟩:=zF
 have hmk:=qC
 have hcv:=yp
 have o:=ae.new w #[(),(),(-1:Int),(0:Int),false] 134
 have i1:(n:Int)<=8192:=a?
 have i2:(1:Int)<=n:=a?
 generalize N9=Z at*
 go_enter func73,ntmps73
 go_wp2_with fail
 go_loopw [4] (fun i wr=>∃(k:Nat) (v:Value),k<=n/\i=(k:Int)/\ae wr w #[v,(),(-1:Int),(0:Int),false] 134/\wr.ownsRow w 9 1 v k (ky (List.replicate k Z))/\NP [] w wr) (fun i _=>n-(intOf i).toNat)
 case atStart=>exact⟨0,_,a?,rfl,o,Nf _ _ _ _,(NP.refl _ _).alloc _⟩
 case round=>
  obtain⟨k,v,hk,rfl,orr,hrow,hK⟩:=hrel
  by_cases hlt:k<n
  .have HLT:=tK hlt
   have i3:(k:Int)<n:=a?
   obtain⟨p,c,rfl⟩:=ah hrow
   have r3:k+1<=maxLen:=m?
   have r4:(k+1)*16<=140737488355328:=a?
   have hsz:=hK.size
   have rlt:=orr.lt
   obtain⟨c0,_⟩:=orr.c5
   have zr:=orr.free 0
   have hcv2:(convert 61 9 (.slice (some wr) 128 128)).run prog (wr.alloc (.cells (Array.replicate 128 (.int .u8 0)) 5)).drew=.ok Z (wr.alloc (.cells (Array.replicate 128 (.int .u8 0)) 5)).drew:=hcv wr.drew
   have hnb:(((wr.alloc (.cells (Array.replicate 128 (.int .u8 0)) 5)).alloc (.cells #[Z] 9)).drew).heap[wr.heap.size+1]? =some (.cells #[Z] 9 (0,0)):=by
    have:=Ns (wr.alloc (.cells (Array.replicate 128 (.int .u8 0)) 5)) (.cells #[Z] 9)
    rw[Nd]at this
    exact this
   have HNB:=tK hnb
   clear hnb
   go_wp2_with fail
   go_region_law (first
    |(refine step_append_lies _ L? (.tmp 16) (.tmp 19) 76 L? w 9 i0 (.string ⟨#[]⟩) 1 16 underlying76 q0 q1 q2 q3 rfl d? _ _ _ L? (World.ownsRow.drew (MH (MH hrow _) _)) (aa (wr+1) 0) 1 1 [.string (bs Z)] L? rfl (World.news_of_block HNB.out) (by intro u hu;simp at hu;subst hu;rfl) d? r3 r4 e? (wr.heap.size+2) b? ?_;intro g3 cap3 w5 o3 gr3 at3 lt3;have og5:=bW (World.ownsRow.drew (MH (MH hrow _) _)) gr3 (ae.drew ((orr.alloc _).alloc _)) d?;have hc5:=ae.cell og5 0 b?;have hf5:=og5.free 0))
   all_goals go_wp2_with fail
   all_goals
    have hKf:NP [] w (w5.setCell w (g3,k+1,cap3)):=NP.setCell (NP.grown (NP.drew ((hK.alloc _).alloc _)) gr3 (fun j hj=>Or.inr (ML hrow j hj).1)) (p:=w) (Or.inr (MG _)) _
    have o6:=bT o3 (p:=w) (aB o3 og5 d?) (g3,k+1,cap3)
    have ec:ky (List.replicate (k+1) Z)=ky (List.replicate k Z)++[.string (bs Z)]:=by unfold ky;rw[List.replicate_succ'];simp
    rw[<-ec]at o6
    refine⟨⟨k+1,_,HLT.out,j?,og5.set 0 _,o6,hKf⟩,?_⟩
    have hh:=HLT.out
    simp[intOf];omega
  .obtain rfl:k=n:=a?
   go_wp2_with fail
   go_ret
   refine⟨rfl,⟨v,(),orr,?_,Nf _ _ _ _,hK.size,MG _,?_,?_,rfl,Nb _,Nb _⟩,hK⟩
   .show wr.ownsRow _ _ 1 v (List.replicate k Z).length (ky (List.replicate k Z))
    rw[Np];exact hrow
   .show 1<=(List.replicate k Z).length
    rw[Np];omega
   .show(List.replicate k Z).length<=8192
    rw[Np];omega
end
section
open Go.Proofs.Tryz Go.RowKit Go.Maps
theorem dS.power {d} (h:dS d) (k):dS (F0f d k):=
 ⟨(fun x hx=>by cases hx),Jh (p:=fun s=>s.length=128) _ _ _ h.all (fun x hx=>(h.fine x hx).2) _ (MG _)⟩
theorem dS.fuse {d} (h:dS d) (n):dS (F0g d n):=⟨h.fine,h.all⟩
theorem dS.fuseR {d} (h:dS d) (n):dS (F0r d n):=⟨h.fine,h.all⟩
end
section
open Go.Proofs.Tryz Go.RowKit
theorem QA.flush {w r rlo d} (h:QA w r rlo d) (ho:d.ops<100000):
  am! 141 #[r] w fun e w'=>e=(qv d:Int)/\QA w' r rlo (iO d)/\NP [r] w w':=by
 have hf:=h.fit.flush
 unfold qv iO at*
 by_cases hd:d.down=true
 .rw[if_pos hd]at hf ⊢
  rw[if_pos hd]
  exact(F0o r rlo d w h.ref hd).mono fun e w' ⟨h4,h5⟩=>⟨h4,by subst h5;exact h,by subst h5;exact NP.refl _ _⟩
 .have hd':d.down=false:=by simpa using hd
  rw[if_neg hd]at hf ⊢
  rw[if_neg hd]
  by_cases h0:d.fuse=0
  .rw[if_pos h0]at hf ⊢
   rw[if_pos h0]
   exact(F0p r rlo d w h.ref hd' h0 ho).mono fun e w' ⟨h4,h5,h6⟩=>⟨h4,⟨h5,hf⟩,h6⟩
  .rw[if_neg h0]at hf ⊢
   rw[if_neg h0]
   exact(F0q r rlo d w h.ref hd' h0 ho (fun x hx=>(h.fit.fine x hx).1)).mono fun e w' ⟨h4,h5,h6⟩=>⟨h4,⟨h5,hf⟩,h6⟩
theorem QA.power {w r rlo d} (h:QA w r rlo d) (v keep lo1 hi1) (hb:F0b w v keep lo1 hi1):
  am! 29 #[r,v] w fun e w'=>e=.returned (.tuple #[])/\QA w' r rlo (F0f d keep)/\NP [r] w w':=
 (F0n r rlo d v keep lo1 hi1 w h.ref (fun x hx=>(h.fit.fine x hx).1) hb).mono fun _ _ ⟨h4,h5,h6⟩=>⟨h4,⟨h5,h.fit.power keep⟩,h6⟩
end
section
open Go.Proofs.Tryz Go.RowKit Go.Maps
theorem F0u (b sb mb lo d v keep g lo1 hi1 w) (h:aD w b sb mb lo d) (hfine:∀x∈d.waits,x.1<d.stand.length) (hwl:d.waits.length<=10000) (hg:ae w g #[v] 39) (hgsb:g≠sb) (hb:F0b w v keep lo1 hi1) (hbs:sb<lo1\/hi1<=sb) (hkl:keep.length<=maxLen):
  am! 75 #[b,.func (.func 144) #[] #[g]] w fun e w'=>e=.returned (.tuple #[])/\aD w' b sb mb lo (kX d (F0c keep))/\PK [] b sb mb w w':=by
 obtain⟨wv,n,o,os,hw,hm,hn,g2,g3,g4,g5,g6,g7,g8,g9,g10,g11⟩:=h
 obtain⟨p,c,rfl⟩:=ah hw
 obtain⟨c0,c1,c2,c3,c4,c5⟩:=o.c6
 obtain⟨st,ws,fu,op,dn⟩:=d
 simp only at*
 go_enter func75,ntmps75
 go_wp2_with fail
 go_loopw [11] (fun i wr=>∃k:Nat,k<=ws.length/\i=(k:Int)/\ae wr sb (bV (sk st ws (F0c keep) k)) 9/\NP [sb] w wr) (fun i _=>ws.length-(intOf i).toNat)
 case atStart=>exact⟨0,a?,rfl,os,NP.refl _ _⟩
 case round=>
  obtain⟨k,hk,rfl,os2,hK⟩:=hrel
  have o2:=hK.own o e?
  have hw2:=ax hw hK e?
  by_cases hlt:k<ws.length
  .obtain⟨gw,rfl,hgw⟩:∃gw,p=some ⟨gw,0,none⟩/\lo<=gw:=by
    rcases hw2.2 with⟨e1,e2⟩|⟨g',cap,cur,e1,hge,_⟩
    .omega
    .injection e1 with e1
     exact⟨g',e1,hge⟩
   obtain⟨q1,q2⟩:=nc ws k hlt
   have w1c:=World.ownsRow.cells hw2 rfl (k*2) _ q1
   have w2c:=World.ownsRow.cells hw2 rfl (k*2+1) _ q2
   rw[Ni,Nat.zero_add]at w1c w2c
   have hat:ws[k].1<st.length:=hfine _ (MJ _)
   have hsl:(sk st ws (F0c keep) k).length=st.length:=su _ _ _ _
   have hstep:=tP st ws (F0c keep) k hlt
   obtain⟨d0,d1,d2,d3,d4,d5⟩:=o2.c6
   have hgs:gw<wr.heap.size:=sW w1c
   have hsbl:=os2.lt
   have HST:=tK hstep
   have HLT:=tK hlt
   have HSL:=tK hsl
   clear hstep hsl q1 q2 c0 c1 c2 c3 c4 c5
   generalize ws[k].1=at1 at*
   generalize ws[k].2=dt at*
   have i1:(at1:Int)<st.length:=a?
   have ot:=ae.new wr #[(at1:Int),dt] 206
   have os3:=os2.alloc (.cells #[(at1:Int),dt] 206)
   have o3:=o2.alloc (.cells #[(at1:Int),dt] 206)
   have hK3:=hK.alloc (.cells #[(at1:Int),dt] 206)
   obtain⟨e0,e1,e2,e3,e4,e5⟩:=o3.c6
   obtain⟨f0,f1⟩:=ot.c2
   have hsize:at1<(bV (sk st ws (F0c keep) k)).size:=by simp[bV,HSL.out];exact hat
   obtain⟨v0,s0⟩:∃v0,(wr.alloc (.cells #[(at1:Int),dt] 206)).cell? (aa sb at1)=some v0:=⟨_,os3.cell at1 hsize⟩
   have zs:=os3.free at1
   have hkb:k<=1000000:=a?
   have hch:∀(k:Nat) (W:World),NP [sb] w W->k<=1000000->am! 144 #[(k:Int),g] W fun e w'=>e=.returned (.bool (F0c keep k))/\W=w':=fun k W hk hk2=>F0d g k v keep lo1 hi1 W (hk.own hg (by simpa using hgsb)) (hb.kept hk (fun x hx=>by simp at hx;omega)) hkl hk2
   go_wp2_with fail
   refine(hch k _ hK3 hkb).mono ?_;rintro e w' ⟨rfl,rfl⟩
   have hkfin:=HST.out
   cases hkp:F0c keep k
   .rw[hkp]at hkfin
    simp only[Bool.false_eq_true,if_false]at hkfin
    have hfin:ae (wr.alloc (.cells #[(at1:Int),dt] 206)) sb (bV (sk st ws (F0c keep) (k+1))) 9:=by
     rw[hkfin];exact os3
    have HF:=tK hfin
    clear hkfin hkp hfin
    go_wp2_with fail
    go_roundw
    case rel=>exact⟨k+1,HLT.out,j?,HF.out,hK3⟩
    case measure=>(have hh:=HLT.out;simp[intOf];omega)
   .rw[hkp]at hkfin
    simp only[if_true]at hkfin
    have hfin:ae ((wr.setCell (aa sb at1) dt).alloc (.cells #[(at1:Int),dt] 206)).drew sb (bV (sk st ws (F0c keep) (k+1))) 9:=by
     rw[hkfin,<-nh]
     exact((os2.set at1 _).alloc _).drew
    have hkf:=((hK.setCell (p:=(aa sb at1)) (Or.inl b?) dt).alloc (.cells #[(at1:Int),dt] 206)).drew
    have HF:=tK hfin
    clear hkfin hkp hfin
    go_wp2_with fail
    go_region
    go_wp2_with fail
    go_roundw
    case rel=>exact⟨k+1,HLT.out,j?,HF.out,hkf⟩
    case measure=>(have hh:=HLT.out;simp[intOf];omega)
  .obtain rfl:k=ws.length:=a?
   obtain⟨d0,d1,d2,d3,d4,d5⟩:=o2.c6
   have z2:=o2.z6
   have hm2:=hm.kept hK e?
   have hm3:=hm2.other (p:=(aa b 1)) (by show mb≠b;omega) ()
   have os3:=os2.other (p:=(aa b 1)) (by show sb≠b;omega) ()
   have o3:=o2.set 1 ()
   have hsx:(wr.setCell (aa b 1) ()).heap.size=wr.heap.size:=z!
   have hk3:=(hK.mono (T:=[sb,b,mb]) b?).setCell (p:=(aa b 1)) (Or.inl b?) ()
   have hlen:(sk st ws (F0c keep) ws.length).length=st.length:=su _ _ _ _
   obtain⟨w7,hrun7,hm7,hk7⟩:=hm3.Kb 0
   go_wp2_with fail
   go_end0
   have hsz7:=hk7.size
   have hszK:=hK.size
   refine⟨rfl,⟨(),0,?_,hk7.own os3 e?,Nf _ _ _ _,hm7,MG _,g2,g3,g4,g5,a?,?_,?_,g9,g10,g11⟩,?_⟩
   .have:=hk7.own o3 e?
    show ae w7 b #[(sb,(sk st ws (F0c keep) ws.length).length,(sk st ws (F0c keep) ws.length).length),_,_,_,_,_] _
    rw[hlen];exact this
   .show 1<=(sk st ws (F0c keep) ws.length).length
    rw[hlen];exact g7
   .show(sk st ws (F0c keep) ws.length).length<=8192
    rw[hlen];exact g8
   .exact PK.Mn (hk3.trans (hk7.mono b?)) (hk7.own o3 e?) b?
theorem F0v (b sb mb lo d v keep lo1 hi1 w) (h:aD w b sb mb lo d) (hfine:∀x∈d.waits,x.1<d.stand.length) (hwl:d.waits.length<=10000) (hb:F0b w v keep lo1 hi1) (hbs:sb<lo1\/hi1<=sb) (hkl:keep.length<=maxLen):
  am! 28 #[b,v] w fun e w'=>e=.returned (.tuple #[])/\aD w' b sb mb lo (F0f d keep)/\PK [] b sb mb w w':=by
 obtain⟨p,c,rfl⟩:=hb.shape
 have hA:=h.keep ((NP.refl [] w).alloc (.cells #[(p,keep.length,c)] 39)) (fun x hx=>by cases hx)
 have hbA:=hb.kept ((NP.refl [] w).alloc (.cells #[(p,keep.length,c)] 39)) (fun x hx=>by cases hx)
 have hsb:sb<w.heap.size:=by obtain⟨_,_,_,os,_⟩:=h;exact os.lt
 have hbl:b<w.heap.size:=by obtain⟨_,_,o,_⟩:=h;exact o.lt
 have hset:=F0u b sb mb lo d (p,keep.length,c) keep w lo1 hi1 _ hA hfine hwl (ae.new w _ _) a? hbA hbs hkl
 have hkA:=(NP.refl [] w).alloc (.cells #[(p,keep.length,c)] 39)
 have HS:=tK hset
 clear hset hbA hb h
 go_enter func28,ntmps28
 go_wp2_with fail
 refine(F0e _ _ _ _).mono ?_;rintro e w' ⟨rfl,rfl⟩
 go_wp2_with fail
 refine HS.out.mono ?_;rintro e w2 ⟨rfl,h2,k2⟩
 obtain⟨wv2,n2,o2,_⟩:=id h2
 have HO2:=tK o2
 clear o2
 obtain⟨p2,c2,y0,y1,y2,y3,y4,y5,_⟩:=h2.qG
 have z:w2.frozen? (aa b 3)=false/\w2.frozen? (aa b 5)=false:=by
  obtain⟨_,_,o,_⟩:=h2;exact⟨o.free 3,o.free 5⟩
 go_wp2_with fail
 go_end0
 have kk:=((NP.refl [b] w2).setCell (p:=(aa b 3)) (Or.inl b?) (-1:Int)).setCell (p:=(aa b 5)) (Or.inl b?) false
 have ho:(kX d (F0c keep)).ops<=100000:=by obtain⟨_,_,_,_,_,_,_,_,_,_,_,_,_,_,_,_,h11⟩:=h2;exact h11
 refine⟨rfl,aD.nums (d':=F0f d keep) h2 kk rfl rfl (by show(-1:Int)<= -1;omega) (by show(-1:Int)<=9223372036854775807;omega) ho (fun v0 v1 v2 o=>(o.set 3 _).set 5 _),?_⟩
 exact((hkA.eH hbl).trans k2).trans (PK.JQ kk (by rw[(((HO2.out).set 3 _).set 5 _).cell 1 b?,HO2.out.cell 1 b?];rfl))
end
section
open Go.Proofs.Tryz Go.RowKit Go.Maps
theorem F0w (b sb mb lo:Nat) (d) (n:Int) (w) (h:aD w b sb mb lo d) (hn:n<=9223372036854775807):
  am! 31 #[b,n] w fun e w'=>e=.returned (.tuple #[])/\aD w' b sb mb lo (F0g d n)/\PK [] b sb mb w w':=by
 obtain⟨p2,c2,y0,y1,y2,y3,y4,y5,_,_,ho⟩:=h.qG
 have z:w.frozen? (aa b 3)=false:=by obtain⟨_,_,o,_⟩:=h;exact o.free 3
 have hbo:∃cs,ae w b cs 138/\1<cs.size:=by obtain⟨_,_,o,_⟩:=h;exact⟨_,o,b?⟩
 have kq:∀m:Int,NP [b] w (w.setCell (aa b 3) m)->PK [] b sb mb w (w.setCell (aa b 3) m):=fun m k=>PK.JQ k (by
  obtain⟨cs,o,h1⟩:=hbo
  rw[(o.set 3 _).cell 1 P?,o.cell 1 h1,Array.getElem_setIfInBounds]
  rfl)
 have KQ:=tK kq
 clear kq hbo
 have kk:=(NP.refl [b] w).setCell (p:=(aa b 3)) (Or.inl b?) (max n (-1):Int)
 have hD:=aD.nums (d':=F0g d n) h kk rfl rfl (by show(-1:Int)<=max n (-1);omega) (by show max n (-1)<=(9223372036854775807:Int);omega) ho (fun v0 v1 v2 o=>o.set 3 _)
 have HD:=tK hD
 have HD0:=HD
 have kk0:=kk
 clear hD h ho
 rcases(by omega:n< -1\/n= -1\/ -1<n)with h1|h1|h1
 .have em:max n (-1)= -1:=a?
  have h2:n<= -1:=a?
  rw[em]at kk HD
  clear em
  go_enter func31,ntmps31
  go_wp2_with fail
  all_goals first
   |(exfalso;omega)
   |(go_end0;(first|exact⟨rfl,HD.out,KQ.out _ kk⟩|exact⟨rfl,HD0.out,KQ.out _ kk0⟩))
 .subst h1
  have em:max (-1:Int) (-1)= -1:=a?
  rw[em]at kk HD
  clear em
  go_enter func31,ntmps31
  go_wp2_with fail
  all_goals (go_end0;(first|exact⟨rfl,HD.out,KQ.out _ kk⟩|exact⟨rfl,HD0.out,KQ.out _ kk0⟩))
 .have em:max n (-1)=n:=a?
  have h2:¬(n<= -1):=a?
  rw[em]at kk HD
  clear em
  go_enter func31,ntmps31
  go_wp2_with fail
  all_goals first
   |(exfalso;omega)
   |(go_end0;(first|exact⟨rfl,HD.out,KQ.out _ kk⟩|exact⟨rfl,HD0.out,KQ.out _ kk0⟩))
section
variable {w:World} {b sb mb lo:Nat} {d:DK}
theorem DA.power (h:DA w b sb mb lo d) (v keep lo1 hi1) (hb:F0b w v keep lo1 hi1) (hbs:sb<lo1\/hi1<=sb) (hw:d.waits.length<=10000):
  am! 28 #[b,v] w fun e w'=>e=.returned (.tuple #[])/\DA w' b sb mb lo (F0f d keep)/\PK [] b sb mb w w':=
 (F0v b sb mb lo d v keep lo1 hi1 w h.disk (fun x hx=>(h.fit.fine x hx).1) hw hb hbs hb.len).mono fun _ _ ⟨h4,h5,h6⟩=>⟨h4,⟨h5,h.fit.power keep⟩,h6⟩
theorem DA.fuse (h:DA w b sb mb lo d) (n) (hn:(Lit.int .i64 n).wf=true):
  am! 31 #[b,n] w fun e w'=>e=.returned (.tuple #[])/\DA w' b sb mb lo (F0g d n)/\PK [] b sb mb w w':=by
 have hn2:n<=9223372036854775807:=by
  simp only[Lit.wf,No,decide_eq_true_eq]at hn
  have:=hn.2;exact this
 exact(F0w b sb mb lo d n w h.disk hn2).mono fun e w' ⟨h4,h5,h6⟩=>⟨h4,⟨h5,h.fit.fuse n⟩,h6⟩
end
end
section
open Go.Proofs.Tryz Go.ChangeShapes Go.WideShapes Go.ChangeAt Go.RowKit Go.Deep
section
variable {H:Type} {enc:TypeId×Value->H} {w:World} {base:Nat} {held:Bool} {r:Reach} {b0:Nat}
theorem F0x {fuel c} {x:DataW H×List MemPlace} (h:DataW.trod enc prog w base (fun _=>true) held fuel 39 [c]=some x):
  ∃l,F0b w c l 0 w:=by
 rcases Go.Deep.open_bools underlying39 underlying4 c? h with⟨e,_⟩|⟨a,len,cap,B,e,_,hl,hm,_,hx⟩
 .injection e with e
  exact⟨[],Or.inl ⟨rfl,_,_,e⟩⟩
 .injection e with e
  subst e
  by_cases h0:len=0
  .subst h0;exact⟨[],Or.inl ⟨rfl,_,_,rfl⟩⟩
  .obtain⟨b,off,spot⟩:=a
   have hspot:spot=none:=by simpa[Addr.add]using World.cell?_spot (hx 0 a?)
   subst hspot
   have hb:b<w.heap.size:=by
    have:=hx 0 a?
    rw[Ni]at this
    exact World.block_lt_of_cell? _ _ this
   refine⟨(List.range len).map B,Or.inr ⟨b,off,cap,b?,fun i hi=>?_,Nb _,hb,MG _,fun e=>?_,ae!,hm⟩⟩
   .have hi':i<len:=D?
    have:=hx i a?
    rw[Ni]at this
    rw[this]
    simp
   .have:=congrArg List.length e
    simp at this;omega
theorem open_vbools {v} {d:DataW H} {p} (hv:Value.okWide prog w r b0 39 v) (h:DataW.Trod enc prog w base (fun _=>true) held 39 v d p):∃l,F0b w v l 0 w:=by
 obtain⟨a0,len,cap,rfl⟩:=okWide_slice underlying39 hv
 obtain⟨fuel,hf⟩:=h
 exact F0x (by simpa[Value.cells]using hf)
end
end
section
open Go.Proofs.Tryz Go.RowKit
theorem PK.toKeptS {T b sb mb w w'} (k:PK T b sb mb w w'):∃S,NP S w w'/\∀x∈S,SD T w b sb mb x:=by
 classical
 by_cases h:∃g,WB w b g
 .obtain⟨g,hg⟩:=h
  have hu:∀g',WB w b g'->g'=g:=fun g' hg'=>by
   obtain⟨v,h1,h2⟩:=hg
   obtain⟨v',h3,h4⟩:=hg'
   rw[h1]at h3
   injection h3 with e
   subst e
   rw[h2]at h4
   injection h4 with e
   exact e.symm
  refine⟨g::b::sb::mb::T,⟨k.os,k.tape,k.output,k.size,fun q hq hS=>?_⟩,fun x hx ho=>?_⟩
  .simp only[List.mem_cons,not_or]at hS
   exact k.block q hq hS.2.2.2.2 hS.2.1 hS.2.2.1 hS.2.2.2.1 (fun hw=>hS.1 (hu q hw))
  .obtain⟨o1,o2,o3,o4,o5⟩:=ho
   simp only[List.mem_cons]at hx
   rcases hx with rfl|rfl|rfl|rfl|hx
   .exact o5 hg
   .exact o2 rfl
   .exact o3 rfl
   .exact o4 rfl
   .exact o1 hx
 .refine⟨b::sb::mb::T,⟨k.os,k.tape,k.output,k.size,fun q hq hS=>?_⟩,fun x hx ho=>?_⟩
  .simp only[List.mem_cons,not_or]at hS
   exact k.block q hq hS.2.2.2 hS.1 hS.2.1 hS.2.2.1 (fun hw=>h ⟨q,hw⟩)
  .obtain⟨o1,o2,o3,o4,o5⟩:=ho
   simp only[List.mem_cons]at hx
   rcases hx with rfl|rfl|rfl|hx
   .exact o2 rfl
   .exact o3 rfl
   .exact o4 rfl
   .exact o1 hx
end
section
open Go.Proofs.Tryz Go.RowKit
theorem F0y (s d):cN s d=if OW d ((s.seq%2:Nat):Int) s.aT=0 then(iO (OJ d ((s.seq%2:Nat):Int) s.aT),qv (OJ d ((s.seq%2:Nat):Int) s.aT))else(OJ d ((s.seq%2:Nat):Int) s.aT,OW d ((s.seq%2:Nat):Int) s.aT):=by
 show(if OW d ((s.seq%2:Nat):Int) s.aT=0 then(if qv (OJ d ((s.seq%2:Nat):Int) s.aT)=0 then(iO (OJ d ((s.seq%2:Nat):Int) s.aT),(0:Int))else(iO (OJ d ((s.seq%2:Nat):Int) s.aT),qv (OJ d ((s.seq%2:Nat):Int) s.aT)))else(OJ d ((s.seq%2:Nat):Int) s.aT,OW d ((s.seq%2:Nat):Int) s.aT))=_
 split
 .split
  .rename_i h;rw[h]
  .rfl
 .rfl
theorem F0z {w r rlo d} (s v lo hi) (hD:QA w r rlo d) (hr:af w v s.runs lo hi) (hm:s.may) (hq:s.seq<18446744073709551616) (ho:d.ops<=90000) (hw:d.waits.length<=9000):
  am! 142 #[r,.agg (s.cells v)] w fun e w'=>e=.returned (.int .i64 (cN s d).2)/\QA w' r rlo (cN s d).1/\NP [r] w w':=by
 have hk1:=(NP.refl [] w).alloc (.cells (s.cells v) 58)
 have ob:=ae.new w (s.cells v) 58
 have HPUT0:Hid (∀W,NP [] w W->am! 212 #[.agg (s.cells v)] W fun e w'=>e=.returned s.aT/\NP [] W w'):=tK (fun W k=>Mc s v lo hi W (hr.kept0 k) hm hq)
 have HWR0:Hid (∀W,NP [] w W->am! 140 #[r,((s.seq%2:Nat):Int),s.aT] W fun e w'=>e=(OW d ((s.seq%2:Nat):Int) s.aT:Int)/\QA w' r rlo (OJ d ((s.seq%2:Nat):Int) s.aT)/\NP [r] W w'):=tK (fun W k=>(hD.aJ k).write _ _ a? a?)
 have hfew:=jS ((s.seq%2:Nat):Int) s.aT d
 have HFL:Hid (∀W,QA W r rlo (OJ d ((s.seq%2:Nat):Int) s.aT)->am! 141 #[r] W fun e w'=>e=(qv (OJ d ((s.seq%2:Nat):Int) s.aT):Int)/\QA w' r rlo (iO (OJ d ((s.seq%2:Nat):Int) s.aT))/\NP [r] W w'):=tK (fun W h=>h.flush (by have h1:(OJ d ((s.seq%2:Nat):Int) s.aT).ops<=d.ops+1:=hfew.1;omega))
 have hrl:r<w.heap.size:=hD.lt
 obtain⟨p,c,rfl⟩:=hr.shape
 rw[F0y]
 obtain⟨m,hmm⟩:∃m:Nat,s.seq%2=m:=⟨_,rfl⟩
 have e1:(s.seq:Int).tmod 2=(m:Int):=by rw[Int.tmod_eq_emod_of_nonneg a?];omega
 have e4:IntKind.i64.wrap (m:Int)=(m:Int):=by rcases(by omega:m=0\/m=1)with rfl|rfl<;>decide
 have e2:(m:Int)<=1:=a?
 have e3:(0:Int)<=(m:Int):=a?
 rw[hmm]at HWR0 HFL ⊢
 clear hmm hfew hD hr hm hq ho hw
 generalize OW d (m:Int) s.aT=C at*
 generalize OJ d (m:Int) s.aT=d1 at*
 generalize (m:Int)=mi at*
 obtain⟨RX,hRX⟩:∃RX,(if C=0 then(iO d1,qv d1)else(d1,C))=RX:=⟨_,rfl⟩
 rw[hRX]
 have HRX:=tK hRX
 clear hRX
 unfold SB.cells at*
 obtain⟨x0,x1,x2,x3,x4,x5⟩:=ob.c6
 have OB:=tK ob
 have HK1:=tK hk1
 have HRL:=tK hrl
 clear ob hk1 hrl
 go_enter func142,ntmps142
 go_upto_region 1 with fail
 clear x0 x1 x2 x3 x4 x5
 obtain⟨w1,hw1⟩:∃w1,w.alloc (.cells #[.int .u64 s.seq,s.sectors,s.journal,s.used,s.size,(p,s.runs.length,c)] 58)=w1:=⟨_,rfl⟩
 rw[hw1]at OB HK1 ⊢
 clear hw1
 obtain⟨nB,hnB⟩:∃n,w.heap.size=n:=⟨_,rfl⟩
 rw[hnB]at OB HRL ⊢
 clear hnB
 have HCELL:Hid (∀W,NP [r] w1 W->W.cell? nB=some (.int .u64 s.seq)/\W.cell? (aa nB 1)=s.sectors/\W.cell? (aa nB 2)=s.journal/\W.cell? (aa nB 3)=s.used/\W.cell? (aa nB 4)=s.size/\W.cell? (aa nB 5)=(p,s.runs.length,c)):=tK (fun W k=>(k.own OB.out (by have:=HRL.out;simp only[Nm];omega)).c6)
 have HPUT:=tK (fun W (k:NP [] w1 W)=>HPUT0.out W (HK1.out.trans k))
 have HWR:=tK (fun W (k:NP [] w1 W)=>HWR0.out W (HK1.out.trans k))
 refine MK (S:=(fun W=>W.cell? nB=some (.int .u64 s.seq)/\W.cell? (aa nB 1)=s.sectors/\W.cell? (aa nB 2)=s.journal/\W.cell? (aa nB 3)=s.used/\W.cell? (aa nB 4)=s.size/\W.cell? (aa nB 5)=(p,s.runs.length,c))) c? (by exact HCELL.out _ (NP.refl [r] w1).drew) (fun hHeld=>?_)
 refine tS ?_
 refine rD 6 (fun K hK=>?_)
 go_simp
 ((with_reducible refine(HPUT.out _ (NP.refl [] w1).drew).mono ?_));rintro e w2 ⟨rfl,k2⟩
 have K2:=tK (((NP.refl [] w1).drew).trans k2)
 clear k2
 go_wp2_with fail
 refine hK.out _ _ (HCELL.out _ (K2.out.mono b?)) (fun hHeld=>nM ?_)
 clear hK K
 refine rD 7 (fun K hK=>?_)
 go_simp
 ((with_reducible refine(HWR.out _ K2.out).mono ?_));rintro e w3 ⟨rfl,hD3,k3⟩
 have K3:=tK ((K2.out.mono b?).trans k3)
 have HD3:=tK hD3
 clear k3 hD3
 go_wp2_with fail
 refine hK.out _ _ (HCELL.out _ K3.out) (fun hHeld=>nM ?_)
 clear hK K
 refine tS ?_
 refine Ng c? ?_ _
 try simp only[List.set_cons_succ,List.set_cons_zero]
 by_cases h0:C=0
 .have h00:(C != 0)=false:=aa!
  have hrx:=HRX.out
  rw[if_pos h0]at hrx
  subst hrx
  clear h0 HRX
  go_wp2_with fail
  refine(HFL.out _ HD3.out).mono ?_;rintro e w4 ⟨rfl,hD4,k4⟩
  have HD4:=tK hD4
  have K4:=tK ((HK1.out.mono b?).trans (K3.out.trans k4))
  clear hD4 k4
  go_wp2_with fail
  go_ret
  exact⟨rfl,HD4.out,K4.out⟩
 .have h00:(C != 0)=true:=by simpa using h0
  have hrx:=HRX.out
  rw[if_neg h0]at hrx
  subst hrx
  clear h0 HRX
  have K4:=tK ((HK1.out.mono (T:=[r]) b?).trans K3.out)
  go_wp2_with fail
  go_ret
  exact⟨rfl,HD3.out,K4.out⟩
end
section
open Go.Proofs.Tryz Go.RowKit
def F1a (r rlo:Nat) (d:DK) (j:Int) (w:World) (e:Ending) (w':World):Prop:=
 ((j<1\/(d.stand.length:Int)<4\/(d.stand.length:Int)-2<j)/\e=.returned (.tuple #[.pointer none,(1:Int)])/\w=w')\/
 ((1<=j/\4<=(d.stand.length:Int)/\j<=(d.stand.length:Int)-2)/\QA w' r rlo (du j d).1/\NP [r] w w'/\
  (((du j d).2≠0/\e=.returned (.tuple #[.pointer none,.int .i64 (du j d).2]))\/
  ((du j d).2=0/\∃R,w.heap.size<=R/\ae w' R (bL r (dX d.stand.length j) () ⟨1,1,[],[],[]⟩ () () () false) 202/\e=.returned (.tuple #[.pointer (some ⟨R,0,none⟩),(0:Int)]))))
theorem F1a.no {r rlo d D j C w w'} (h:1<=j/\4<=(d.stand.length:Int)/\j<=(d.stand.length:Int)-2) (hF:(D,C)=du j d) (hC:C≠0) (hQ:QA w' r rlo D) (k:NP [r] w w'):F1a r rlo d j w (.returned (.tuple #[.pointer none,.int .i64 C])) w':=by
 unfold F1a
 rw[<-hF]
 exact Or.inr ⟨h,hQ,k,Or.inl ⟨hC,rfl⟩⟩
theorem F1a.yes {r rlo R d D j C w w'} (h:1<=j/\4<=(d.stand.length:Int)/\j<=(d.stand.length:Int)-2) (hF:(D,C)=du j d) (hC:C=0) (hQ:QA w' r rlo D) (k:NP [r] w w') (hR:w.heap.size<=R) (o:ae w' R (bL r (dX d.stand.length j) () ⟨1,1,[],[],[]⟩ () () () false) 202):F1a r rlo d j w (.returned (.tuple #[.pointer (some ⟨R,0,none⟩),(0:Int)])) w':=by
 unfold F1a
 rw[<-hF]
 exact Or.inr ⟨h,hQ,k,Or.inr ⟨hC,R,hR,o,rfl⟩⟩
theorem F1b (f:DK->DK×Int) (fs d):aG (f::fs) d=if(f d).2=0 then aG fs (f d).1 else f d:=rfl
theorem F1c (f:DK->DK×Int) (d):aG [f] d=f d:=by
 show(if(f d).2=0 then((f d).1,(0:Int))else f d)=f d
 split
 .rename_i h;rw[<-h]
 .rfl
theorem F1d (j) {w r rlo d} (hD:QA w r rlo d) (hj:(Lit.int .i64 j).wf=true) (h1:1<=d.stand.length) (h2:d.stand.length<=8192) (ho:d.ops<=80000) (hw:d.waits.length<=8000):
  am! 74 #[r,j] w (F1a r rlo d j w):=by
 obtain⟨p0,c0,ps,cs,y0,y1,y2,y3,y4,_⟩:=hD.ref.mz
 obtain⟨j1,j2⟩:=ko hj
 obtain⟨n,hn⟩:∃n,d.stand.length=n:=⟨_,rfl⟩
 rw[hn]at y0
 have HN:=tK hn
 have hmk:=qC
 have hcv:=yp
 have HW:Hid (∀D W (i:Int),QA W r rlo D->D.ops<=d.ops+9->D.waits.length<=d.waits.length+9->am! 140 #[r,i,N9] W fun e w'=>e=.returned (.int .i64 (aM i N9 D).2)/\QA w' r rlo (aM i N9 D).1/\NP [r] W w'):=tK (fun D W i h h1 h2=>h.write i N9 a? a?)
 have HF:Hid (∀D W,QA W r rlo D->D.ops<=d.ops+9->am! 141 #[r] W fun e w'=>e=.returned (.int .i64 (aA D).2)/\QA w' r rlo (aA D).1/\NP [r] W w'):=tK (fun D W h h1=>h.flush a?)
 have HL:Hid (1<=j->4<=(n:Int)->j<=(n:Int)-2->∀D W,QA W r rlo D->D.ops<=d.ops+9->D.waits.length<=d.waits.length+9->am! 142 #[r,.agg #[.int .u64 1,(n:Int),j,(0:Int),(0:Int),()]] W fun e w'=>e=.returned (.int .i64 (cN (dX n j) D).2)/\QA w' r rlo (cN (dX n j) D).1/\NP [r] W w'):=tK (fun c1 c2 c3 D W h h1 h2=>F0z (dX n j) () 0 0 h (Or.inl ⟨rfl,_,_,rfl⟩) (qh c1 c2 c3 a?) (by show 1<_;omega) a? a?)
 have e1:=jS 0 N9 d
 have e2:=jS 1 N9 (aM 0 N9 d).1
 have e3:=gU (aM 1 N9 (aM 0 N9 d).1).1
 have HB:Hid ((aM 0 N9 d).1.ops<=d.ops+9/\(aM 0 N9 d).1.waits.length<=d.waits.length+9/\(aM 1 N9 (aM 0 N9 d).1).1.ops<=d.ops+9/\(aM 1 N9 (aM 0 N9 d).1).1.waits.length<=d.waits.length+9/\(aA (aM 1 N9 (aM 0 N9 d).1).1).1.ops<=d.ops+9/\(aA (aM 1 N9 (aM 0 N9 d).1).1).1.waits.length<=d.waits.length+9):=tK a?
 have HEM:Hid (∀W,am! 143 #[] W fun e w'=>e=.returned (.agg #[.int .u32 1,.int .u32 1,(),(),()])/\NP [] W w'):=tK (fun W=>JF W)
 have HD:=tK hD
 have i1:(1:Int)<=n:=a?
 have i2:(n:Int)<=8192:=a?
 have HFF:Hid (aG [aM 0 N9,aM 1 N9,aA,cN (dX n j)] d=du j d):=tK (by unfold du;rw[hn])
 have HRL:=tK hD.lt
 clear e1 e2 e3 ho hw hD h1 h2 y1 y2 y3 y4
 clear hn
 rcases(by omega:j<1\/(1<=j/\(n:Int)<4)\/(1<=j/\4<=(n:Int)/\(n:Int)-2<j)\/(1<=j/\4<=(n:Int)/\j<=(n:Int)-2))with c1|⟨c1,c2⟩|⟨c1,c2,c3⟩|⟨c1,c2,c3⟩
 iterate 3
  .go_enter func74,ntmps74
   go_wp2_with fail
   go_ret2
   exact Or.inl ⟨by rw[HN.out];omega,rfl,rfl⟩
 have HC:Hid (1<=j/\4<=(d.stand.length:Int)/\j<=(d.stand.length:Int)-2):=tK (by rw[HN.out];exact⟨c1,c2,c3⟩)
 have HLL:=tK (HL.out c1 c2 c3)
 clear HL
 go_enter func74,ntmps74
 go_upto_region 5 with fail
 clear hmk hcv y0
 have k1:NP [] w (w.alloc (.cells (Array.replicate 128 (.int .u8 0)) 5)):=(NP.refl [] w).alloc _
 generalize w.alloc (.cells (Array.replicate 128 (.int .u8 0)) 5)=w1 at*
 have q1:=HW.out d w1 0 (HD.out.aJ k1) a? a?
 have K1:=tK k1
 obtain⟨⟨D1,C1⟩,hF1⟩:∃F,aM 0 N9 d=F:=⟨_,rfl⟩
 rw[F1b,F1b,F1b,F1c]at HFF
 rw[hF1]at HFF HB q1
 simp only at HFF HB
 obtain⟨⟨D2,C2⟩,hF2⟩:∃F,aM 1 N9 D1=F:=⟨_,rfl⟩
 have q2:=fun W h=>HW.out D1 W 1 h HB.out.1 HB.out.2.1
 rw[hF2]at HFF HB q2
 simp only at HFF HB
 obtain⟨⟨D3,C3⟩,hF3⟩:∃F,aA D2=F:=⟨_,rfl⟩
 have q3:=fun W h=>HF.out D2 W h HB.out.2.2.1
 rw[hF3]at HFF HB q3
 simp only at HFF HB
 obtain⟨⟨D4,C4⟩,hF4⟩:∃F,cN (dX n j) D3=F:=⟨_,rfl⟩
 have q4:=fun W h=>HLL.out D3 W h HB.out.2.2.2.2.1 HB.out.2.2.2.2.2
 rw[hF4]at HFF q4
 simp only at q1 q2 q3 q4 HFF
 have Q2:=tK q2
 have Q3:=tK q3
 have Q4:=tK q4
 clear hF1 hF2 hF3 hF4 q2 q3 q4 HW HF HLL HB HD k1 c1 c2 c3 i1 i2
 generalize N9=Z at*
 go_wp2_with fail
 refine q1.mono ?_;rintro e w2 ⟨rfl,hD2,k2⟩
 have HD2:=tK hD2
 have K2:=tK ((K1.out.mono b?).trans k2)
 have HNE:Hid (∀a:Int,a≠0->(a==0)=false/\(a != 0)=true):=tK (fun a h=>by simp[h])
 clear hD2 k2 q1 K1
 by_cases g1:C1=0
 case neg=>
  rw[if_neg g1]at HFF
  obtain⟨t1,t2⟩:=HNE.out _ g1
  have HG:=tK g1
  clear g1 Q2 Q3 Q4
  go_wp2_with fail
  go_ret2
  exact F1a.no HC.out HFF.out HG.out (HD2.out.aJ ((NP.refl _ _).alloc _)) (K2.out.trans ((NP.refl _ _).alloc _))
 rw[if_pos g1]at HFF
 have t1:(C1==0)=true:=by rw[g1];rfl
 clear g1
 go_wp2_with fail
 refine(Q2.out _ HD2.out).mono ?_;rintro e w3 ⟨rfl,hD3,k3⟩
 have HD3:=tK hD3
 have K3:=tK (K2.out.trans k3)
 clear hD3 k3 HD2 K2 t1 Q2
 by_cases g2:C2=0
 case neg=>
  rw[if_neg g2]at HFF
  obtain⟨t1,t2⟩:=HNE.out _ g2
  have HG:=tK g2
  clear g2 Q3 Q4
  go_wp2_with fail
  go_ret2
  exact F1a.no HC.out HFF.out HG.out (HD3.out.aJ ((NP.refl _ _).alloc _)) (K3.out.trans ((NP.refl _ _).alloc _))
 rw[if_pos g2]at HFF
 have t1:(C2==0)=true:=by rw[g2];rfl
 clear g2
 go_wp2_with fail
 refine(Q3.out _ HD3.out).mono ?_;rintro e w4 ⟨rfl,hD4,k4⟩
 have HD4:=tK hD4
 have K4:=tK (K3.out.trans k4)
 clear hD4 k4 HD3 K3 t1 Q3
 by_cases g3:C3=0
 case neg=>
  rw[if_neg g3]at HFF
  obtain⟨t1,t2⟩:=HNE.out _ g3
  have HG:=tK g3
  clear g3 Q4
  go_wp2_with fail
  go_ret2
  exact F1a.no HC.out HFF.out HG.out (HD4.out.aJ ((NP.refl _ _).alloc _)) (K4.out.trans ((NP.refl _ _).alloc _))
 rw[if_pos g3]at HFF
 have t1:(C3==0)=true:=by rw[g3];rfl
 clear g3
 go_wp2_with fail
 have oS:=ae.new w4 #[.int .u64 1,(n:Int),j,(0:Int),(0:Int),()] 58
 have k5:=(NP.refl [] w4).alloc (.cells #[.int .u64 1,(n:Int),j,(0:Int),(0:Int),()] 58)
 obtain⟨w5,hw5⟩:∃w5,w4.alloc (.cells #[.int .u64 1,(n:Int),j,(0:Int),(0:Int),()] 58)=w5:=⟨_,rfl⟩
 rw[hw5]at oS k5 ⊢
 have hR4:r<w4.heap.size:=HD4.out.lt
 generalize w4.heap.size=nS at*
 clear hw5
 refine(Q4.out _ (HD4.out.aJ k5)).mono ?_;rintro e w6 ⟨rfl,hD6,k6⟩
 have o6:=k6.own oS (by simp only[Nm];omega)
 have HD6:=tK hD6
 have K6:=tK ((K4.out.trans (k5.mono b?)).trans k6)
 have HO6:=tK o6
 obtain⟨x0,x1,x2,x3,x4,x5⟩:=o6.c6
 clear oS k5 hD6 k6 HD4 K4 t1 Q4 hR4 o6
 by_cases g4:C4=0
 case neg=>
  obtain⟨t1,t2⟩:=HNE.out _ g4
  have HG:=tK g4
  clear g4
  go_wp2_with fail
  go_ret2
  exact F1a.no HC.out HFF.out HG.out HD6.out K6.out
 have t1:(C4 != 0)=false:=by rw[g4];rfl
 have HG:=tK g4
 clear g4
 have HEMP:=HEM
 go_upto_region 15 with fail
 refine MK (S:=(fun W=>W.cell? nS=some (.int .u64 1)/\W.cell? (aa nS 1)=(n:Int)/\W.cell? (aa nS 2)=j/\W.cell? (aa nS 3)=(0:Int)/\W.cell? (aa nS 4)=(0:Int)/\W.cell? (aa nS 5)=())) c? (by exact(((NP.refl [] w6).drew).own HO6.out b?).c6) (fun hHeld=>?_)
 refine tS ?_
 refine rD 2 (fun K hK=>?_)
 go_simp
 ((with_reducible refine(HEM.out _).mono ?_));rintro e w7 ⟨rfl,k7⟩
 have K7:=tK (((NP.refl [] w6).drew).trans k7)
 clear k7
 go_wp2_with fail
 refine hK.out _ _ ?_ (fun hHeld=>nM ?_)
 .exact(K7.out.own HO6.out b?).c6
 clear hK K
 refine tS ?_
 refine rD 4 (fun K hK=>?_)
 go_simp
 refine hK.out _ _ ?_ (fun hHeld=>nM ?_)
 .exact((K7.out.drew.alloc _).own HO6.out b?).c6
 clear hK K
 refine tS ?_
 refine Ng c? ?_ _
 try simp only[List.set_cons_succ,List.set_cons_zero]
 go_wp2_with fail
 go_ret2
 have k8:=(K7.out).alloc (.cells (bL r (dX n j) () ⟨1,1,[],[],[]⟩ () () () false) 202)
 exact F1a.yes HC.out HFF.out HG.out (HD6.out.aJ k8) (K6.out.trans (k8.mono b?)) (Nk K6.out.size K7.out.size) (by rw[HN.out];exact ae.new _ _ _)
end
section
open Go.Proofs.Tryz Go.RowKit
noncomputable def F1e (j:Int) (d:DK):DK×Option VS:=
 if 1<=j/\4<=(d.stand.length:Int)/\j<=(d.stand.length:Int)-2 then((du j d).1,if(du j d).2=0 then some ⟨(du j d).1,dX d.stand.length j,⟨1,1,[],[],[]⟩,false⟩else none)else(d,none)
theorem QA.eH {w w' r rlo b sb mb lo d e} (h:QA w r rlo d) (k:PK [] b sb mb w w') (hD:DA w b sb mb lo e) (hsb:sb<rlo) (hr:bf [] w b sb mb r):QA w' r rlo d:=by
 obtain⟨S,q,hS⟩:=k.toKeptS
 refine⟨h.ref.aside q (fun hx=>hS r hx hr) (fun x hx hge cs'=>?_),h.fit⟩
 have hc:x=b\/x=sb\/x=mb\/WB w b x:=by
  apply NG
  intro hn
  simp only[not_or]at hn
  exact hS x hx ⟨b?,hn.1,hn.2.1,hn.2.2.1,hn.2.2.2⟩
 rcases hc with rfl|rfl|rfl|hc
 .obtain⟨cs2,o2⟩:=hD.disk.own
  exact⟨zn o2 d?,zn o2 d?⟩
 .omega
 .obtain⟨_,_,_,_,_,hm,_⟩:=hD.disk
  obtain⟨D,⟨es,clock,hh,_⟩,_⟩:=hm
  exact⟨fun hc2=>(by rw[hh]at hc2;cases hc2),fun hc2=>(by rw[hh]at hc2;cases hc2)⟩
 .obtain⟨_,cs2,h2⟩:=hD.disk.wb hc
  exact⟨zn (show ae w x cs2 206 from h2) d?,zn (show ae w x cs2 206 from h2) d?⟩
theorem kQ.aside {S w w' b sb mb lo r rlo d} (h:kQ w b sb mb lo r rlo d) (k:NP S w w') (hS:∀x∈S,bf [] w b sb mb x/\x≠r/\∃cs,ae w x cs 66):kQ w' b sb mb lo r rlo d:=
 ⟨h.da.aside k (fun x hx=>(hS x hx).1),⟨h.qa.ref.aside k (fun hx=>(hS r hx).2.1 rfl) (fun x hx _ cs=>by
  obtain⟨cs',o'⟩:=(hS x hx).2.2
  exact⟨zn o' d?,zn o' d?⟩),h.qa.fit⟩,h.off.aside h.da.bH k (fun hx=>(hS b hx).1.2.1 rfl),h.rl⟩
theorem kQ.both {w1 w2 w3 b sb mb lo r rlo d d'} (h:kQ w1 b sb mb lo r rlo d) (k:PK [] b sb mb w1 w2) (hD:DA w2 b sb mb lo d') (q:NP [r] w2 w3) (hQ:QA w3 r rlo d'):kQ w3 b sb mb lo r rlo d'/\PK [r] b sb mb w1 w3:=by
 have ho:=h.off.pk k h.qa.lt
 have hb:=h.off.2.1
 have hb2:b∉[r]:=by simpa using fun e=>hb e.symm
 exact⟨⟨hD.aside q (fun x hx=>by cases Nm.1 hx;exact ho),hQ,ho.aside hD.bH q hb2,h.rl⟩,(k.mono b?).trans (q.pk hD.bH (fun x hx=>by cases Nm.1 hx;exact⟨hb,Or.inl b?⟩))⟩
theorem F1f {S w1 w2 w3 w4} {b sb mb lo r rlo:Nat} {d} {j:Int} {vp rp} {C C2:Int} (h1:z8 [] b sb mb lo d j w1 (.returned (.tuple #[.pointer vp,C])) w2) (h2:F1a r rlo d j w2 (.returned (.tuple #[.pointer rp,C2])) w3) (hD:kQ w1 b sb mb lo r rlo d) (k4:NP S w3 w4) (hS:∀x∈S,x<w1.heap.size/\bf [] w1 b sb mb x/\x≠r/\∃cs,ae w3 x cs 66):C2=C/\mj w4 b sb mb lo r rlo (F1e j d).1 vp rp (F1e j d).2/\PK [r] b sb mb w1 w3:=by
 unfold F1e
 rcases h1 with⟨c,e1,rfl⟩|⟨c,hDA,hk,h1⟩
 .rcases h2 with⟨_,e2,rfl⟩|⟨c2,-⟩
  .obtain⟨rfl,rfl⟩:=mF e1
   obtain⟨rfl,rfl⟩:=mF e2
   rw[if_neg (show ¬(1<=j/\4<=(d.stand.length:Int)/\j<=(d.stand.length:Int)-2)by omega)]
   exact⟨rfl,Or.inl ⟨rfl,rfl,rfl,hD.aside k4 (fun x hx=>(hS x hx).2)⟩,PK.refl _ _ _ _ _⟩
  .omega
 rcases h2 with⟨c2,-⟩|⟨_,hQA,hq,h2⟩
 .omega
 rw[if_pos c]
 obtain⟨hS3,hP⟩:=hD.both hk hDA hq hQA
 have hoS:∀x∈S,bf [] w3 b sb mb x/\x≠r/\∃cs,ae w3 x cs 66:=fun x hx=>by
  obtain⟨a1,a2,a3,a4⟩:=hS x hx
  exact⟨(a2.pk hk a1).aside hDA.bH hq (by simpa using fun e=>hD.off.2.1 e.symm),a3,a4⟩
 have hS4:=hS3.aside k4 hoS
 rcases h1 with⟨n1,e1⟩|⟨n1,B,hB,hoB,oB,e1⟩
 .rcases h2 with⟨n2,e2⟩|⟨n2,_⟩
  .obtain⟨rfl,rfl⟩:=mF e1
   obtain⟨rfl,rfl⟩:=mF e2
   refine⟨rfl,Or.inl ⟨?_,rfl,rfl,hS4⟩,hP⟩
   show(if(du j d).2=0 then some _ else none)=none
   rw[if_neg n1]
  .exact absurd n2 n1
 rcases h2 with⟨n2,_⟩|⟨n2,R,hR,oR,e2⟩
 .exact absurd n1 n2
 obtain⟨rfl,rfl⟩:=mF e1
 obtain⟨rfl,rfl⟩:=mF e2
 refine⟨rfl,Or.inr ⟨B,R,⟨(du j d).1,dX d.stand.length j,⟨1,1,[],[],[]⟩,false⟩,?_,rfl,rfl,?_⟩,hP⟩
 .show(if(du j d).2=0 then some _ else none)=some _
  rw[if_pos n1]
 have hr1:=hD.qa.lt
 have s1:=hk.size
 have s3:=hq.size
 have s4:=k4.size
 have hBl:=oB.lt
 have hBr:B≠r:=a?
 have hBS:B∉S:=fun hx=>by have:=(hS B hx).1;omega
 have hRS:R∉S:=fun hx=>by have:=(hS R hx).1;omega
 have oB4:=k4.own (hq.own oB (by simpa using hBr)) hBS
 have hoB4:bf [] w4 b sb mb B:=(hoB.aside hDA.bH hq (by simpa using fun e=>hD.off.2.1 e.symm)).aside hS3.da.bH k4 (fun hx=>(hoS b hx).1.2.1 rfl)
 have oR4:=k4.own oR hRS
 have hwb:∀x,WB w4 b x->x<w2.heap.size:=fun x hw=>hDA.Ak ((WB.aside hDA.bH hq (by simpa using fun e=>hD.off.2.1 e.symm) x).1 ((WB.aside hS3.da.bH k4 (fun hx=>(hoS b hx).1.2.1 rfl) x).1 hw))
 have hbl:=hDA.bH
 have hsl:=hDA.sC
 have hml:=hDA.vP
 have hoR:bf [] w4 b sb mb R:=⟨b?,a?,a?,a?,fun hw=>by have:=hwb R hw;omega⟩
 have hT:∀x∈[B,r,R],x<w4.heap.size:=fun x hx=>by
  simp only[List.mem_cons,List.not_mem_nil,or_false]at hx
  have:=oB4.lt;have:=oR4.lt
  rcases hx with rfl|rfl|rfl<;>omega
 have hV:aL [B,r,R] w4 B b sb mb lo ⟨(du j d).1,dX d.stand.length j,⟨1,1,[],[],[]⟩,false⟩:=⟨hS4.da,⟨_,_,_,_,oB4,ep.nil none 0,dE.empty _ _ _ _ _⟩,b?,hT,hoB4⟩
 have hQ:oe (SD [B,r,R] w4 b sb mb) w4 R r rlo ⟨(du j d).1,dX d.stand.length j,⟨1,1,[],[],[]⟩,false⟩:=⟨hS4.qa,⟨_,_,_,_,oR4,⟨0,0,Or.inl ⟨rfl,_,_,rfl⟩⟩,fun g off sp n' c' e hn=>by simp[dX]at hn,dE.empty _ _ _ _ _⟩,fun ho=>ho.1 b?,fun ho=>ho.1 b?,hV.da.vL hT,a?⟩
 exact⟨⟨hV,hQ,⟨hS4.off,hoR⟩,hD.rl,⟨fun e=>by omega,fun e=>by omega⟩⟩,rfl,qh c.1 c.2.1 c.2.2 (by have:=hD.da.len;omega),pG,by show 0+0+0<=5000;omega⟩
end
section
open Go.Proofs.Tryz Go.RowKit
def fz (fu:Int) (d:DK):DK:=if 0<=fu then F0r d fu else d
theorem F1g (d) {n} (h:0<=n):F0g d n=F0r d n:=by unfold F0g F0r;rw[Int.max_eq_left a?]
theorem F1h {w b sb mb lo x d} (h:DA w b sb mb lo d) (h1:x<b) (h2:x<sb) (h3:x<mb) (h4:x<lo):bf [] w b sb mb x:=
 ⟨b?,a?,a?,a?,fun hw=>by have:=(h.disk.wb hw).1;omega⟩
theorem z8.pk {b sb mb lo d j w w'} {e:Ending} (h:z8 [] b sb mb lo d j w e w'):PK [] b sb mb w w'/\∃d',DA w b sb mb lo d->DA w' b sb mb lo d':=by
 rcases h with⟨_,_,rfl⟩|⟨_,h1,h2,_⟩
 .exact⟨PK.refl _ _ _ _ _,d,id⟩
 .exact⟨h2,_,fun _=>h1⟩
theorem z8.shape {b sb mb lo d j w w'} {e:Ending} (h:z8 [] b sb mb lo d j w e w'):∃vp C,e=.returned (.tuple #[.pointer vp,.int .i64 C]):=by
 rcases h with⟨_,h,_⟩|⟨_,_,_,⟨_,h⟩|⟨_,_,_,_,_,h⟩⟩<;>exact⟨_,_,h⟩
theorem F1a.shape {r rlo d j w w'} {e:Ending} (h:F1a r rlo d j w e w'):∃vp C,e=.returned (.tuple #[.pointer vp,.int .i64 C]):=by
 rcases h with⟨_,h,_⟩|⟨_,_,_,⟨_,h⟩|⟨_,_,_,_,h⟩⟩<;>exact⟨_,_,h⟩
def F1i (w:World) (b sb mb lo r:Nat):Prop:=w.heap.size<=b/\w.heap.size<=sb/\w.heap.size<=mb/\w.heap.size<=lo/\w.heap.size<=r
theorem kQ.pkept {w w1 w2 b sb mb lo r rlo d} (h:kQ w1 b sb mb lo r rlo d) (k1:NP [] w w1) (n:F1i w b sb mb lo r) (k:PK [r] b sb mb w1 w2):NP [] w w2:=
 k1.gg (k.kept w k1.size (fun x hx=>by
  obtain rfl:x=r:=h?
  exact n.2.2.2.2) n.1 n.2.1 n.2.2.1 (fun x hx=>Nk n.2.2.2.1 (h.da.disk.wb hx).1))
def F1j (n:Nat) (w:World):Prop:=am! 9 #[(n:Int)] w fun e w'=>∃b sb mb lo,e=.returned (.tuple #[.pointer (some ⟨b,0,none⟩),(0:Int)])/\DA w' b sb mb lo (QP (List.replicate n N9))/\NP [] w w'/\w.heap.size<=b/\w.heap.size<=sb/\w.heap.size<=mb/\w.heap.size<=lo
def F1k (w:World) (F:DK×Option VS) (e:Ending) (w':World):Prop:=
 (∃(b sb mb lo r rlo:Nat) (vp rp:Option Addr),e=.returned (.tuple #[.agg #[b,r,.pointer vp,.pointer rp],true])/\mj w' b sb mb lo r rlo F.1 vp rp F.2/\F1i w b sb mb lo r)/\NP [] w w'
theorem F1m {A:Prop} (h:A:=by
 have hfm:=G7 (T:=[]) j HS5.out.da b? HJ.out HB.out.2.2.1 HB.out.2.2.2
 refine hfm.mono ?_;intro e w5 hm1
 obtain⟨vp,C,rfl⟩:=hm1.shape
 obtain⟨hk5,-⟩:=hm1.pk
 have hq:=F1d j (HS5.out.qa.eH hk5 HS5.out.da HS5.out.rl HS5.out.off) HJ.out HB.out.1 (by have:=HB.out.2.1;omega) HB.out.2.2.1 HB.out.2.2.2
 have HM1:=tK hm1
 have HQ:=tK hq
 clear hfm hm1 hk5 hq
 go_wp2_with fail
 refine HQ.out.mono ?_;intro e w6 hm2
 obtain⟨rp,C2,rfl⟩:=hm2.shape
 have HM2:=tK hm2
 obtain⟨hC,hO6,hP6⟩:=F1f HM1.out hm2 HS5.out (NP.refl [] w6) b?
 subst hC
 have HP6:=tK (HP5.out.trans hP6)
 have o7:=ae.new w6 #[b,r,.pointer vp,.pointer rp] 66
 have k7:=(NP.refl [] w6).alloc (.cells #[b,r,.pointer vp,.pointer rp] 66)
 have HO6:=tK hO6
 clear hm2 hO6 hP6 HQ
 go_upto_region 11 with fail
 obtain⟨w7,hw7⟩:∃w7,w6.alloc (.cells #[b,r,.pointer vp,.pointer rp] 66)=w7:=⟨_,rfl⟩
 rw[hw7]at o7 k7 ⊢
 obtain⟨n7,hn7⟩:∃n,w6.heap.size=n:=⟨_,rfl⟩
 rw[hn7]at o7 ⊢
 have HSAME:=tK (fun W (k:NP [] w7 W)=>Ks ((HO6.out.aJ k7).aJ k))
 have HC:Hid (∀W,NP [n0] w7 W->W.cell? n7=b/\W.cell? (aa n7 1)=r/\W.cell? (aa n7 2)=some (.pointer vp)/\W.cell? (aa n7 3)=some (.pointer rp)):=tK (fun W k=>(k.own o7 (by
  have h6:=(H6.out _ HP6.out).1.lt
  simp only[Nm];omega)).c4)
 have O67:=tK (k7.own (H6.out _ HP6.out).1 b?)
 have K7:=tK k7
 have HN7:=tK hn7
 clear o7 k7 hw7 hn7
 refine MK (S:=(fun W=>W.cell? n7=b/\W.cell? (aa n7 1)=r/\W.cell? (aa n7 2)=some (.pointer vp)/\W.cell? (aa n7 3)=some (.pointer rp))) c? (by exact HC.out _ ((NP.refl [n0] w7).drew)) (fun hHeld=>?_)
 refine tS ?_
 refine rD 6 (fun K hK=>?_)
 go_simp
 ((with_reducible refine(HSAME.out _ ((NP.refl [] w7).drew)).mono ?_));rintro e w8 ⟨rfl,k8⟩
 have K8:=tK (((NP.refl [] w7).drew).trans k8)
 clear k8
 go_wp2_with fail
 refine hK.out _ _ (HC.out _ (K8.out.mono b?)) (fun hHeld=>nM ?_)
 clear hK K
 refine tS ?_
 have O68:=tK (K8.out.own O67.out b?)
 refine rD 8 (fun K hK=>?_)
 refine dz rfl 66 _ _ rfl n0 0 #[b,r,.pointer vp,.pointer rp] g? g? (O68.out.drew.there 0 4 b?) c? (NL (cs:=[.pointer (some b),.pointer (some r),.pointer vp,.pointer rp]) t?) ?_
 rw[tQ]
 have o9:=O68.out.AJ b r (.pointer vp) (.pointer rp)
 have k9:NP [n0] w8 ((((w8.setCell (aa n0 0) b).setCell (aa n0 1) r).setCell (aa n0 2) (.pointer vp)).setCell (aa n0 3) (.pointer rp)):=NP.fU (NP.refl _ _) (Or.inl b?) _ _ _ _
 generalize ((((w8.setCell (aa n0 0) b).setCell (aa n0 1) r).setCell (aa n0 2) (.pointer vp)).setCell (aa n0 3) (.pointer rp))=w9 at*
 have O9:=tK o9
 have K9:=tK k9
 clear o9 k9
 refine hK.out _ _ (HC.out _ ((K8.out.mono b?).trans K9.out)) (fun hHeld=>nM ?_)
 clear hK K
 refine tS ?_
 refine Ng c? ?_ _
 try simp only[List.set_cons_succ,List.set_cons_zero]
 obtain⟨_,hS9,_⟩:=F1f HM1.out HM2.out HS5.out (S:=[n0]) (w4:=w9) (((K7.out.trans K8.out).mono b?).trans K9.out) (fun x hx=>by
  obtain rfl:=Nm.1 hx
  have h6:=H6.out _ HP5.out
  have a:=HNB.out;have b:=HN0.out.1;have c:=HR.out.1
  exact⟨h6.1.lt,h6.2,a?,_,(H6.out _ HP6.out).1⟩)
 have HS9:=tK hS9
 have HKF:Hid (NP [] w w9):=tK (((HS.out.pkept (K1.out.trans K3.out) NB HP6.out).trans (K7.out.trans K8.out)).call K9.out (fun x hx=>by
  obtain rfl:=Nm.1 hx
  exact Or.inr (Nat.le_of_eq HN0.out.2.symm)))
 clear hS9
 go_wp2_with fail
 refine MN (v:=.tuple #[.agg #[b,r,.pointer vp,.pointer rp],true]) (aj results27 rfl rfl (t:=66) ?_ underlying66 rfl c?) rfl ?_
 .exact O9.out
 .exact⟨⟨b,sb,mb,lo,r,r,vp,rp,rfl,HS9.out,NB⟩,HKF.out⟩):A:=h
theorem F1n (n:Nat) (j fu:Int) (w) (h1:1<=n) (h2:n<=96) (hj:(Lit.int .i64 j).wf=true) (hf:(Lit.int .i64 fu).wf=true):
  am! 27 #[(n:Int),j,fu] w (F1k w (F1e j (fz fu (QP (List.replicate n N9))))):=by
 have hk1:=(NP.refl [] w).alloc (.cells #[.pointer none,.pointer none,.pointer none,.pointer none] 66)
 have o6:=ae.new w #[.pointer none,.pointer none,.pointer none,.pointer none] 66
 have HN0:Hid (∀w1,F1j n w1):=tK (fun w1=>Lw n w1 h1 a?)
 have HQN:=tK (fun W=>F0s n W h1 a?)
 have hl0:(QP (List.replicate n N9)).stand.length=n:=Np
 have hfit:dS (QP (List.replicate n N9)):=dS.new n
 have how:(QP (List.replicate n N9)).ops=0/\(QP (List.replicate n N9)).waits=[]:=⟨rfl,rfl⟩
 unfold F1j at HN0
 generalize QP (List.replicate n N9)=d0 at*
 obtain⟨D,hDe⟩:∃D,fz fu d0=D:=⟨_,rfl⟩
 rw[hDe]
 have HB:Hid (1<=D.stand.length/\D.stand.length<=96/\D.ops<=80000/\D.waits.length<=8000):=tK (by
  subst hDe
  have e1:(fz fu d0).stand=d0.stand/\(fz fu d0).ops=d0.ops/\(fz fu d0).waits=d0.waits:=by unfold fz;split<;>exact⟨rfl,rfl,rfl⟩
  rw[e1.1,e1.2.1,e1.2.2,hl0,how.1,how.2]
  simp;omega)
 have hcut:(0<=fu/\D=F0r d0 fu)\/(¬0<=fu/\D=d0):=by
  unfold fz at hDe
  by_cases h:0<=fu
  .rw[if_pos h]at hDe;exact Or.inl ⟨h,hDe.symm⟩
  .rw[if_neg h]at hDe;exact Or.inr ⟨h,hDe.symm⟩
 have HCUT:=tK hcut
 have HFIT:=tK hfit
 have HJ:=tK hj
 have HF:=tK hf
 clear hl0 hfit how hDe hj hf hcut
 go_enter func27,ntmps27
 go_upto_region 1 with fail
 generalize w.alloc (.cells #[.pointer none,.pointer none,.pointer none,.pointer none] 66)=w1 at*
 have K1:=tK hk1
 have O6:=tK o6
 clear hk1 o6
 have HN:=HN0.out w1
 clear HN0
 go_wp2_with fail
 refine HN.mono ?_;rintro e w2 ⟨b,sb,mb,lo,rfl,hD,k2,n1,n2,n3,n4⟩
 have HD:=tK hD
 have K2:=tK k2
 have HNB:Hid (w1.heap.size<=b/\w1.heap.size<=sb/\w1.heap.size<=mb/\w1.heap.size<=lo):=tK ⟨n1,n2,n3,n4⟩
 clear HN hD k2 n1 n2 n3 n4
 go_wp2_with fail
 refine(HQN.out _).mono ?_;rintro e w3 ⟨rfl,hR,k3⟩
 have hS:kQ w3 b sb mb lo w2 w2 d0:=⟨HD.out.aJ k3,⟨hR,HFIT.out⟩,HD.out.bU (fun x hx=>by cases hx) k3 (MG _),HD.out.sC⟩
 have HR:Hid (w1.heap.size<=w2.heap.size/\w2.heap.size<w3.heap.size):=tK ⟨K2.out.size,hS.qa.lt⟩
 generalize w2.heap.size=r at*
 have K3:=tK (K2.out.trans k3)
 have HS:=tK hS
 clear hR k3 hS HQN HD K2
 have H6:Hid (∀W,PK [r] b sb mb w3 W->ae W w #[.pointer none,.pointer none,.pointer none,.pointer none] 66/\bf [] W b sb mb w):=tK (fun W k=>by
  have o3:=K3.out.own O6.out b?
  have a:=HNB.out
  have b:=O6.out.lt
  have c:=HR.out.1
  have h3:=F1h HS.out.da (x:=w.heap.size) a? a? a? a?
  have h4:bf [r] w3 _ sb mb w:=⟨by simp only[Nm];omega,h3.2⟩
  exact⟨k.own o3 h4,⟨b?,(h4.pk k o3.lt).2⟩⟩)
 obtain⟨n0,hn0⟩:∃n,w.heap.size=n:=⟨_,rfl⟩
 have NB:F1i w b sb mb lo r:=by
  have a:=HNB.out;have b:=O6.out.lt;have c:=HR.out.1
  exact⟨a?,a?,a?,a?,a?⟩
 have HN0:Hid (n0<w1.heap.size/\n0=w.heap.size):=tK ⟨by rw[<-hn0];exact O6.out.lt,hn0.symm⟩
 rw[hn0]at H6 ⊢
 clear O6 hn0
 rcases HCUT.out with⟨g,rfl⟩|⟨g,rfl⟩
 .have t1:decide (fu≥0)=true:=MV g
  have t2:decide (0<=fu)=true:=t1
  have G:=tK g
  clear g
  go_wp2_with fail
  refine(HS.out.da.fuse fu HF.out).mono ?_;rintro e w4 ⟨rfl,hD4,k4⟩
  rw[F1g _ G.out]at hD4
  have hR4:=QA.eH HS.out.qa k4 HS.out.da HS.out.rl HS.out.off
  obtain⟨p0,c0,ps,cs,y0,y1,y2,y3,y4,_⟩:=hR4.ref.mz
  obtain⟨hRF,kF⟩:=hR4.ref.fuse fu HF.out
  obtain⟨v0,v1,oo⟩:=hR4.ref.own
  have z2:=oo.free 2
  obtain⟨hS5,hP5⟩:=HS.out.both k4 hD4 kF ⟨hRF,HFIT.out.fuseR fu⟩
  clear hD4 k4 hR4 y0 y1 y3 y4 hRF kF oo
  go_wp2_with fail
  clear y2 t1 t2 z2
  have HS5:=tK hS5
  have HP5:=tK hP5
  clear hS5 hP5
  generalize w4.setCell (aa r 2) fu=W at*
  generalize F0r d0 fu=D at*
  exact F1m
 .have t1:decide (fu≥0)=false:=MS a?
  have t2:decide (0<=fu)=false:=t1
  have HS5:=HS
  have HP5:=tK (PK.refl [r] b sb mb w3)
  clear g
  go_wp2_with fail
  clear t1 t2
  exact F1m
end
section
open Go.Proofs.Tryz Go.RowKit
theorem F1o (j d):(F1e j d).1.ops<=d.ops+8/\(F1e j d).1.waits.length<=d.waits.length+8/\(F1e j d).1.stand.length=d.stand.length:=by
 unfold F1e
 split
 .have h:=pU 2 [aM 0 N9,aM 1 N9,aA,cN (dX d.stand.length j)] (fun f hf d=>by
   simp only[List.mem_cons,List.not_mem_nil,or_false]at hf
   rcases hf with rfl|rfl|rfl|rfl
   .have:=jS 0 N9 d;exact⟨a?,a?,this.2.2⟩
   .have:=jS 1 N9 d;exact⟨a?,a?,this.2.2⟩
   .have:=gU d;exact⟨a?,a?,this.2.2⟩
   .exact FK _ d) d
  exact h
 .exact⟨Nat.le_add_right _ _,Nat.le_add_right _ _,rfl⟩
theorem F1p (fu d):(fz fu d).ops=d.ops/\(fz fu d).waits=d.waits/\(fz fu d).stand=d.stand:=by unfold fz;split<;>exact⟨rfl,rfl,rfl⟩
theorem F1q (k) (h:(Lit.int .u8 k).wf=true):∃n:Nat,k=n/\n<256:=by
 simp only[Lit.wf,No,decide_eq_true_eq]at h
 have h1:0<=k:=h.1
 have h2:k<=255:=h.2
 exact⟨k.toNat,a?,a?⟩
theorem vformatsLaw (Pe jr fu v3 keep w) (h0:(Lit.int .u8 Pe).wf=true) (h1:(Lit.int .i64 jr).wf=true) (h2:(Lit.int .i64 fu).wf=true) (h3:F0b w v3 keep 0 w.heap.size):
  am! 6 #[.int .u8 Pe,jr,fu,v3] w fun e w'=>e=true/\Below w w w':=by
 have HAW:=tK (fun W=>Jb W)
 obtain⟨sn,rfl,hsn⟩:=F1q Pe h0
 obtain⟨n,hn⟩:∃n:Nat,1+sn%80=n:=⟨_,rfl⟩
 have hn1:1<=n/\n<=80:=a?
 have HF:=F1n n jr fu w a? a? h1 h2
 have hfew:=F1o jr (fz fu (QP (List.replicate n N9)))
 have hz:=F1p fu (QP (List.replicate n N9))
 have hz3:(QP (List.replicate n N9)).stand.length=n:=Np
 have hz4:(QP (List.replicate n N9)).ops=0/\(QP (List.replicate n N9)).waits.length=0:=⟨rfl,rfl⟩
 rw[hz.1,hz.2.1,hz.2.2,hz3,hz4.1,hz4.2]at hfew
 generalize F1e jr (fz fu (QP (List.replicate n N9)))=F at*
 obtain⟨d1,o1⟩:=F
 simp only at hfew HF
 have HFEW:=tK hfew
 have HKP:=tK h3
 have HN1:=tK hn1
 obtain⟨p3,c3,rfl⟩:=h3.shape
 have e1:(1:Int)+(sn:Int)%80=(n:Int):=a?
 clear h0 h1 h2 h3 hfew hz hz3 hz4 hn1
 go_enter func6,ntmps6
 go_wp2_with fail
 refine HF.mono ?_;intro e w1 hs
 obtain⟨⟨b,sb,mb,lo,r,rlo,vp,rp,rfl,hO,hN⟩,k1⟩:=hs
 have hS1:=hO.side
 have o9:=ae.new w1 #[b,r,.pointer vp,.pointer rp] 66
 have k2:=(NP.refl [] w1).alloc (.cells #[b,r,.pointer vp,.pointer rp] 66)
 have HSD:=tK hS1
 have HNB:=tK hN
 have K1:=tK k1
 clear HF hO hS1 hN k1 e1
 go_upto_region 4 with fail
 obtain⟨w2,hw2⟩:∃w2,w1.alloc (.cells #[b,r,.pointer vp,.pointer rp] 66)=w2:=⟨_,rfl⟩
 rw[hw2]at o9 k2 ⊢
 obtain⟨n9,hn9⟩:∃n,w1.heap.size=n:=⟨_,rfl⟩
 rw[hn9]at o9 ⊢
 have hS2:=HSD.out.aJ k2
 have hof:bf [r] w2 b sb mb n9:=by
  have h1:=HSD.out.da.bU (T:=[]) (fun x hx=>by cases hx) k2 (g:=n9) a?
  have h2:=HSD.out.qa.lt
  exact⟨by simp only[Nm];omega,h1.2⟩
 have K2:=tK (K1.out.trans k2)
 have HS2:=tK hS2
 have O9:Hid (∀W,PK [r] b sb mb w2 W->ae W n9 #[b,r,.pointer vp,.pointer rp] 66):=tK (fun W k=>k.own o9 hof)
 have hpw:=hS2.da.power _ keep 0 w.heap.size (HKP.out.kept (K1.out.trans k2) (fun x hx=>by cases hx)) (Or.inr HNB.out.2.1) (by have:=HFEW.out.2.1;omega)
 obtain⟨x0,x1,x2,x3⟩:=o9.c4
 have HN9:=tK hn9
 clear hw2 hn9 o9 k2 hS2 hof HSD
 go_wp2_with fail
 refine hpw.mono ?_;rintro e w3 ⟨rfl,hD3,k3⟩
 have hQ3:=HS2.out.qa.eH k3 HS2.out.da HS2.out.rl HS2.out.off
 have hqp:=hQ3.power _ keep 0 w.heap.size (HKP.out.kept (HS2.out.pkept K2.out HNB.out (k3.mono b?)) (fun x hx=>by cases hx))
 have HK3:=tK k3
 have HD3:=tK hD3
 clear hpw x0 x1 x2 x3
 obtain⟨x0,x1,x2,x3⟩:=(O9.out _ (k3.mono b?)).c4
 clear k3 hD3
 go_wp2_with fail
 refine hqp.mono ?_;rintro e w4 ⟨rfl,hQ4,k4⟩
 obtain⟨hS4,hP4⟩:=HS2.out.both HK3.out HD3.out k4 hQ4
 have HP4:=tK hP4
 have HM:=tK (za hS4 (by rw[F0t];have:=HFEW.out.2.2;have:=HN1.out;omega) vp rp)
 have K4:=tK (HS2.out.pkept K2.out HNB.out hP4)
 have o4:=O9.out _ hP4
 have O4:=tK o4
 unfold xW at HM
 clear hqp hQ4 k4 hS4 hP4 hQ3 x0 x1 x2 x3
 obtain⟨x0,x1,x2,x3⟩:=o4.c4
 clear o4
 go_wp2_with fail
 refine HM.out.mono ?_;rintro e w5 ⟨⟨vp2,rp2,rfl,hO⟩,k5⟩
 have K5:=tK (K4.out.trans k5)
 have o5:=k5.own O4.out b?
 obtain⟨z0,z1,z2,z3⟩:=o5.z4
 obtain⟨x0,x1,x2,x3⟩:=o5.c4
 have HK9:Hid (∀W,NP [n9] w5 W->NP [] w W):=tK (fun W k=>K5.out.call k (fun x hx=>by
  obtain rfl:=Nm.1 hx
  exact Or.inr (by have:=K1.out.size;have:=HN9.out;omega)))
 clear hO k5 HM
 go_upto_region 7 with fail
 have k9:=(((((NP.refl [n9] w5).setCell (p:=(aa n9 0)) (Or.inl b?) b).setCell (p:=(aa n9 1)) (Or.inl b?) r).setCell (p:=(aa n9 2)) (Or.inl b?) (.pointer vp2)).setCell (p:=(aa n9 3)) (Or.inl b?) (.pointer rp2))
 have K9:=tK (HK9.out _ k9)
 clear k9 x0 x1 x2 x3 z0 z1 z2 z3 o5
 go_wp2_with fail
 refine(HAW.out _).mono ?_;rintro e w9 ⟨rfl,k9⟩
 have HF:=tK (K9.out.trans k9).below
 clear k9
 go_wp2_with fail
 go_ret
 exact⟨rfl,HF.out⟩
end
end Go.Proofs.YtdkimcnlhmhpgaaGreat

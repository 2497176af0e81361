/- -/
import Derived.Test.YtdkimcnlhmhpgaaGreatM05
import Derived.Lib.ConvBytes
import Derived.Lib.SlBytesRow
import Derived.Deep.Grids
set_option maxHeartbeats 32000000
set_option maxRecDepth 100000
namespace Go.Proofs.YtdkimcnlhmhpgaaGreat
section
open Go.Proofs.Tryz Go.RowKit Go.Maps
theorem NJ:type_of% @List.mem_of_mem_take:=@List.mem_of_mem_take
theorem NI:type_of% @List.nil_append:=@List.nil_append
theorem NC:type_of% @List.take_append_of_le_length:=@List.take_append_of_le_length
theorem Nv:type_of% @List.flatten_append:=@List.flatten_append
theorem Np:type_of% @List.length_replicate:=@List.length_replicate
theorem MP:type_of% @List.length_map:=@List.length_map
theorem FU:∃i,prog.info? 206=some i/\i.zero=some (.agg #[(0:Int),.string ⟨#[]⟩])/\i.size=2/\i.bytes=24:=by
 have hi:(prog.info? 206).map (fun i=>(i.zero,i.size,i.bytes))=some (some (.agg #[(0:Int),.string ⟨#[]⟩]),2,24):=_c
 exact Yh
theorem qD (l:List (Nat×List UInt8)) (x:Nat×List UInt8):PG (l++[x])=PG l++[.int .i64 (x.1:Int),.string (bs x.2)]:=by simp[PG]
theorem DG (b sb mb lo:Nat) (d:DK) (i:Int) (s:ByteArray) (w:World) (h:aD w b sb mb lo d) (OF:OM d i≠0):am! 88 #[b,i,.string s] w fun e w'=>e=(OM d i:Int)/\w=w':=by
 have hr:=DH b sb mb lo d i w h
 clear h
 generalize OM d i=x at*
 have hx:(x==0)=false:=by simpa using OF
 clear OF
 go_enter func88,ntmps88
 exact M27
theorem Bs (b sb mb lo:Nat) (d:DK) (i:Int) (s:ByteArray) (w:World) (h:aD w b sb mb lo d) (h0:OM d i=0) (hs:s.size≠128):am! 88 #[b,i,.string s] w fun e w'=>e=(1:Int)/\w=w':=by
 have hr:=DH b sb mb lo d i w h
 rw[h0]at hr
 clear h h0
 have hx:((s.size:Int)==128)=false:=_y
 clear hs
 go_enter func88,ntmps88
 exact M27
def cW (d:DK) (i:Nat) (s:List UInt8):DK:=⟨d.stand,d.waits++[(i,s)],(dq d).fuse,d.ops+1,(dq d).down⟩
def BK (b sb mb lo:Nat) (w w':World):Prop:=
 w'.os=w.os/\w'.tape=w.tape/\w'.output=w.output/\w.heap.size<=w'.heap.size/\∀k,k<w.heap.size->k≠b->k≠sb->k≠mb->(k<lo\/∀cs f,w.heap[k]? ≠some (.cells cs 206 f))->w'.heap[k]? =w.heap[k]?
end
section
open Go.Proofs.Tryz Go.RowKit Go.Maps Go.ChangeMaps
theorem cV.Kb {w:World} {mb n:Nat} {f:Nat->Option (List UInt8)} (h:cV w mb n f) (ty:TypeId):
  ∃w',(Builtin.clear_ #[136] ty #[.map (some mb)]).run prog w=.ok (.tuple #[]) w'/\cV w' mb 0 (fun _=>none)/\NP [mb] w w':=by
 have⟨D,Ot,hf⟩:=h
 obtain⟨es,clock,hb,F,hs,rfl⟩:=Ot
 have Oe:(Builtin.clear_ #[136] ty #[.map (some mb)]).run prog w=.ok (.tuple #[]) (setBlock w mb (.map #[] clock)):=by
  simp[Builtin.clear_,run_underlying underlying136,MapKept.run_getObj_map hb,MapKept.run_setObj_map _ hb,Result.andThen,setBlock]
 have ht:w.mapTurned (setBlock w mb (.map #[] clock)) mb:=⟨es,clock,#[],clock,hb,rfl⟩
 refine⟨_,Oe,⟨.map [],⟨#[],clock,heap_setBlock_same hb _,⟨_b,MapKept.stamped_empty clock,_b⟩,MG _,rfl⟩,fun i _=>⟨rfl,fun s h=>by cases h⟩⟩,?_⟩
 exact(NP.refl [mb] w).grown ht.grown (fun k hk=>Or.inl (by simp at hk;simp[hk]))
theorem Mr (i:Int) (w:World):am! 91 #[i] w fun e w'=>e=true/\w=w':=by
 go_enter func91,ntmps91
 go_wp2_with fail
 go_ret
 exact⟨rfl,rfl⟩
end
section
open Go.Proofs.Tryz Go.RowKit Go.Maps
variable {w:World} {A:Prop}
def sk (st:List (List UInt8)) (ws:List (Nat×List UInt8)) (keep:Nat->Bool):Nat->List (List UInt8)
 |0=>st
 |k+1=>if keep k then(sk st ws keep k).set (ws.getD k (0,[])).1 (ws.getD k (0,[])).2 else sk st ws keep k
theorem su (st:List (List UInt8)) (ws:List (Nat×List UInt8)) (keep:Nat->Bool) (k:Nat):(sk st ws keep k).length=st.length:=by
 induction k with
 |zero=>rfl
 |succ k ih=>
   unfold sk;split
   .rw[List.length_set,ih]
   .exact ih
theorem tP (st:List (List UInt8)) (ws:List (Nat×List UInt8)) (keep:Nat->Bool) (k:Nat) (h:k<ws.length):sk st ws keep (k+1)=if keep k then(sk st ws keep k).set ws[k].1 ws[k].2 else sk st ws keep k:=by
 have e:ws.getD k (0,[])=ws[k]:=by rw[Nx,MZ h];rfl
 rw[sk,e]
theorem nh (l:List (List UInt8)) (i:Nat) (s:List UInt8):(bV l).setIfInBounds i s=bV (l.set i s):=by
 unfold bV;simp[List.map_set]
theorem nc (l:List (Nat×List UInt8)) (i:Nat) (h:i<l.length):(PG l)[i*2]? =(l[i].1:Int)/\(PG l)[i*2+1]? =some (.string (bs l[i].2)):=by
 induction l generalizing i with
 |nil=>simp at h
 |cons a l ih=>
  cases i with
  |zero=>exact⟨rfl,rfl⟩
  |succ i=>
   have e:PG (a::l)=Value.int .i64 (a.1:Int)::Value.string (bs a.2)::PG l:=rfl
   exact M57
def kX (d:DK) (keep:Nat->Bool):DK:=⟨sk d.stand d.waits keep d.waits.length,[],d.fuse,d.ops,d.down⟩
theorem sW {g j:Nat} {v:Value} (h:w.cell? (aa g j)=some v):g<w.heap.size:=World.block_lt_of_cell? _ _ h
theorem yS (b sb mb lo:Nat) (d:DK) (w:World) (h:aD w b sb mb lo d) (hd:d.down=true):am! 39 #[b] w fun e w'=>e=(90:Int)/\w=w':=by
 have hr:=ti b sb mb lo d w h
 unfold kY at hr
 rw[hd]at hr
 simp only[if_true]at hr
 go_enter func39,ntmps39
 exact M27
theorem aD.keep {S:List Nat} {w':World} {b sb mb lo:Nat} {d:DK} (h:aD w b sb mb lo d) (k:NP S w w') (hS:∀x∈S,x<lo/\x≠b/\x≠sb/\x≠mb):aD w' b sb mb lo d:=by
 have⟨wv,n,o,os,Sr,hm,hn,h2,h3,h4,h5,h6,r⟩:=h
 exact⟨wv,n,k.own o (fun hx=>(hS _ hx).2.1 rfl),k.own os (fun hx=>(hS _ hx).2.2.1 rfl),ax Sr k (fun x hx=>(hS x hx).1),hm.kept k (fun hx=>(hS _ hx).2.2.2 rfl),hn,h2,h3,h4,h5,Nk h6 k.size,r⟩
theorem Ex (k:Nat):Lib.repeatL [0] k=List.replicate k 0:=by
 induction k with
 |zero=>rfl
 |succ k ih=>rw[Lib.repeatL,ih];rfl
def N9:List UInt8:=List.replicate 128 0
theorem Mp (w:World):am! 34 #[.string {data:=#[0]},(128:Int)] w fun e w'=>e=.returned N9/\NP [] w w':=by
 have h:=strings_Repeat {data:=#[0]} 128 w _a (by show 1*128<=_;omega)
 have e:(⟨(Lib.repeatL (ByteArray.mk #[0]).data.toList 128).toArray⟩:ByteArray)=bs N9:=by
  show bs (Lib.repeatL [0] 128)=_
  rw[Ex];rfl
 rw[e]at h
 exact h.mono fun e w' hh=>⟨hh.1,NP.xp hh.2⟩
def QP (st:List (List UInt8)):DK:=⟨st,[],-1,0,false⟩
theorem GM (sb:Nat) (st:List (List UInt8)) (w:World) (o:ae w sb (bV st) 9) (h1:1<=st.length) (h2:st.length<=8192):
  am! 35 #[(sb,st.length,st.length)] w fun e w'=>e=.returned ↑(w+1:Nat)/\aD w' (w.heap.size+1) sb w (w.heap.size+2) (QP st)/\NP [] w w':=by
 have hmm:= @run_makeMap prog
 have NV:=o.lt
 have hm:=(cV.made w).alloc (.cells #[(sb,st.length,st.length),(),.map (some w),(-1:Int),(0:Int),false] 138)
 have ob:=ae.new (w.alloc (.map #[] 0)) #[(sb,st.length,st.length),(),.map (some w),(-1:Int),(0:Int),false] 138
 rw[Nd]at ob
 have os:=(o.alloc (.map #[] 0)).alloc (.cells #[(sb,st.length,st.length),(),.map (some w),(-1:Int),(0:Int),false] 138)
 go_enter func35,ntmps35
 go_wp2_with fail
 go_ret
 refine⟨rfl,⟨(),0,ob,os,Nf _ _ _ _,hm,MG _,?_,?_,?_,?_,?_,h1,h2,?_,?_,?_⟩,((NP.refl _ _).alloc _).alloc _⟩
 .omega
 .omega
 .omega
 .omega
 .simp
 .show(-1:Int)<= -1;omega
 .show(-1:Int)<=9223372036854775807;omega
 .exact Nb _
def fi (n k:Nat):List (List UInt8):=List.replicate k N9++List.replicate (n-k) []
theorem Bq (n k:Nat) (h:k<=n):(fi n k).length=n:=by unfold fi;rw[tN,Np,Np];omega
theorem yO (n k:Nat) (h:k<n):(fi n k).set k N9=fi n (k+1):=by
 unfold fi
 rw[List.set_append_right _ _ _b]
 have e:n-k=(n-(k+1))+1:=_a
 rw[e,List.replicate_succ,Np,Nat.sub_self,List.set_cons_zero,List.replicate_succ']
 simp
theorem zF:∃i,prog.info? 9=some i/\i.zero=some (.string ⟨#[]⟩)/\i.size=1/\i.bytes=16:=by
 have hi:(prog.info? 9).map (fun i=>(i.zero,i.size,i.bytes))=some (some (.string ⟨#[]⟩),1,16):=_c
 exact Yh
theorem oE (n:Nat) (hn:n<=8192) (w:World):(Instr.makeSlice 76 (n:Int) (n:Int)).run prog w=.ok (w.heap.size,n,n) (w.alloc (.cells (bV (fi n 0)) 9)):=by
 have⟨i0,h1,h2,h3,h4⟩:=zF
 rw[lu (P:=prog) 76 9 i0 (.string ⟨#[]⟩) underlying76 h1 h2 h3 rfl n Z! _a w]
 have e:Array.replicate n (Value.string ⟨#[]⟩)=bV (fi n 0):=by
  unfold bV fi
  apply Array.toList_inj.1
  simp[bs]
 rw[e]
theorem M97 (h:A:=by
 go_wp2_with fail
 go_roundw
 case rel=>exact⟨k+1,Of.out,_j,HF.out,WD⟩
 case measure=>(have hh:=Of.out;simp[intOf];omega)):A:=h
theorem M68 (h:A:=by
 have PW:=hK.size
 have HM:=tK Z5
 clear Z5 os
 go_wp2_with fail
 refine HM.out.mono ?_;rintro e w2 ⟨rfl,hD,k2⟩
 go_wp2_with fail
 go_ret2
 exact⟨_,_,_,_,rfl,hD,MG _,PW,_a,hK.trans k2⟩):A:=h
theorem Mq (n:Nat) (w:World) (h1:1<=n) (h2:n<=8192):
  am! 9 #[(n:Int)] w fun e w'=>∃b sb mb lo,e=.returned (.tuple #[.pointer (some ⟨b,0,none⟩),(0:Int)])/\aD w' b sb mb lo (QP (List.replicate n N9))/\w.heap.size<=sb/\w.heap.size<=mb/\w.heap.size<=b/\NP [] w w':=by
 have RO:=oE n h2
 have o:=ae.new w (bV (fi n 0)) 9
 have i1:(1:Int)<=n:=_a
 have i2:(n:Int)<=8192:=_a
 go_enter func9,ntmps9
 go_wp2_with fail
 go_loopw [16] (fun i wr=>∃k:Nat,k<=n/\i=(k:Int)/\ae wr w (bV (fi n k)) 9/\NP [] w wr) (fun i _=>n-(intOf i).toNat)
 case atStart=>exact⟨0,_a,rfl,o,(NP.refl _ _).alloc _⟩
 case round=>
  obtain⟨k,hk,rfl,os,hK⟩:=hrel
  by_cases NV:k<n
  .have Of:=tK NV
   go_wp2_with fail
   refine(Mp _).mono ?_;rintro e w1 ⟨rfl,k1⟩
   have os1:=k1.own os _b
   have QW:k<(bV (fi n k)).size:=by simp[bV,Bq n k hk];exact NV
   obtain⟨v0,s0⟩:∃v0,w1.cell? (aa w k)=some v0:=⟨_,os1.cell k QW⟩
   have zs:=os1.free k
   have Oy:ae (w1.setCell (aa w k) N9) w (bV (fi n (k+1))) 9:=by
    rw[<-yO n k NV,<-nh]
    exact os1.set k _
   have WD:=(hK.trans k1).setCell (p:=(aa w k)) (Or.inr (MG _)) N9
   have HF:=tK Oy
   clear Oy os os1 QW o
   generalize N9=Z at*
   exact M97
  .obtain rfl:k=n:=_a
   have e0:fi k k=List.replicate k N9:=by unfold fi;rw[Nat.sub_self];simp
   rw[e0]at os
   have Z5:=GM w (List.replicate k N9) wr os (by rw[Np];exact h1) (by rw[Np];exact h2)
   rw[Np]at Z5
   exact M68
end
section
open Go.Proofs.Tryz Go.RowKit
theorem GJ:∃j,prog.info? 153=some j/\j.size=2:=by
 have h:(prog.info? 153).map (·.size)=some 2:=_c
 have⟨j,hj,hjs⟩:=Option.map_eq_some_iff.1 h
 exact⟨j,hj,hjs⟩
theorem yX (b:Nat) (w:World) (h0:w.cell? b=b):
  am! 162 #[b] w fun e w'=>e=.returned (.tuple #[])/\w'=w:=by
 have⟨j,hj,_⟩:=GJ
 go_enter func162,ntmps162
 go_wp2
 rw[Lib.run_neq_ptr_same w _ underlying151 hj]
 go_wp2
 go_end0
 exact⟨rfl,rfl⟩
theorem xS (b:Nat) (w:World) (h0:w.cell? b=some (.pointer none)) (V5:w.shape? b=some (153,2)) (hfz:w.frozen? b=false):
  am! 162 #[b] w fun e w'=>e=.returned (.tuple #[])/\w'=w.setCell b b:=by
 have⟨j,hj,hjs⟩:=GJ
 have adk:liesAt prog prog.depth 153 (2/prog.cellsOf 153) 0 153 1=true:=_c
 go_enter func162,ntmps162
 go_wp2
 rw[Lib.run_to_unsafe w ⟨b,0,none⟩ underlying151 underlying273 hj (by rw[hjs];decide) V5 (Nat.zero_lt_succ 1)]
 simp only[Result.andThen]
 rw[Oper.upon_value]
 go_wp2
 rw[run_callFunc_extern func221 _c _c _c (e:=Extern.AbiNoEscape.same) _c]
 rw[Lib.run_noEscape]
 simp only[Result.andThen]
 rw[Oper.upon_value]
 go_wp2
 rw[Lib.run_from_unsafe w ⟨b,0,none⟩ underlying273 underlying151 hj V5 adk]
 simp only[Result.andThen]
 rw[Oper.upon_value]
 go_wp2
 go_end0
 exact⟨rfl,rfl⟩
theorem Kg (B b:Nat) (bs:List Value) (w:World) (h:Lib.IsBuilder 153 5 B b bs w):
  am! 162 #[b] w fun e w'=>e=.returned (.tuple #[])/\(Lib.BuilderAt 153 5 B b b bs w'/\Below B w w'):=by
 rcases h with h|h
 .refine(xS b w h.cell0 h.shape h.frozen0).mono ?_
  rintro e w' ⟨rfl,rfl⟩
  exact⟨rfl,h.used _,(Below.refl B w).setCell (p:=b) h.1 _⟩
 .refine(yX b w h.cell0).mono ?_
  rintro e w' ⟨rfl,rfl⟩
  exact⟨rfl,h,Below.refl B _⟩
theorem Kf (B b:Nat) (bs:List Value) (s:ByteArray) (w:World) (h:Lib.IsBuilder 153 5 B b bs w) (hlen:bs.length+s.size<=140737488355328) (hBw:B<=w.heap.size):
  am! 84 #[b,.string s] w fun e w'=>e=.returned (.tuple #[(s.size:Int),.nilIface])/\(Lib.BuilderAt 153 5 B b b (bs++Lib.strCells s) w'/\Below B w w'):=by
 have Rr:(prog.info? 5).map (fun i=>(i.zero,i.size,i.bytes))=some (some (.int .u8 0),1,1):=_c
 have⟨i0,hi,Rh,Qc,Qx⟩:=info_parts Rr
 go_enter func84,ntmps84
 go_wp2_with fail
 refine(Kg B b bs _ h).mono ?_
 rintro e w1 ⟨rfl,h1,TG⟩
 have⟨hB,v,Uj,Ot,Pb⟩:=h1
 have c0:w1.cell? b=b:=by rw[Lib.cell_of_heap Uj];rfl
 have c1:w1.cell? (aa b 1)=some v:=by rw[Lib.cell_of_heap Uj];rfl
 go_wp2_with (at_builtin;refine Lib.wpList_append_own_string _ rfl _ _ 61 9 rfl B 5 i0 underlying61 underlying9 hi Rh Qc Qx _ _ _ rfl Ot s rfl ?c3 ?c4 ?c5 ?_)
 case c3=>unfold maxLen;omega
 case c4=>omega
 case c5=>have:=TG.size;omega
 intro v' w2 Rj Pi _
 have NV:b<w1.heap.size:=NK Uj
 have Q3:w2.heap[b]? =some (.cells #[b,v] 153 (0,0)):=by
  rw[Pi.block b NV (fun e=>Pb e.symm)]
  exact Uj
 have d0:w2.cell? b=b:=by rw[Lib.cell_of_heap Q3];rfl
 have d1:w2.cell? (aa b 1)=some v:=by rw[Lib.cell_of_heap Q3];rfl
 have f1:w2.frozen? (aa b 1)=false:=Lib.frozen_of_heap Q3 1
 obtain⟨ao,n',cap,rfl⟩:∃ao n' cap,v'=.slice ao n' cap:=by
  rcases Rj.2 with⟨hv,_⟩|⟨g,cap,cur,hv,_⟩
  .exact⟨_,_,_,hv⟩
  .exact⟨_,_,_,hv⟩
 go_wp2
 go_ret2
 refine⟨rfl,?_,?_⟩
 .exact Lib.BuilderAt.put (T:=153) (e:=5) hB Q3 (bs':=bs++Lib.strCells s) (by simpa[Lib.strCells_length]using Rj) _d
 .exact(TG.grown Pi (by have:=TG.size;omega) (fun k hk=>(Ot.lt k hk).1)).setCell (p:=(aa b 1)) hB _
def lg (w:World) (B b:Nat) (l:List UInt8):Prop:=Lib.IsBuilder 153 5 B b (Lib.byteCells l) w
theorem yg (l:List UInt8):Lib.strCells (bs l)=Lib.byteCells l:=rfl
theorem rV (a b:List UInt8):Lib.byteCells a++Lib.byteCells b=Lib.byteCells (a++b):=by simp[Lib.byteCells]
theorem mC (B b:Nat) (l m:List UInt8) (w:World) (h:lg w B b l) (hlen:l.length+m.length<=140737488355328) (hBw:B<=w.heap.size):
  am! 84 #[b,m] w fun e w'=>e=.returned (.tuple #[.int .i64 (bs m).size,.nilIface])/\lg w' B b (l++m)/\Below B w w':=
 (Kf B b (Lib.byteCells l) (bs m) w h (by rw[Lib.byteCells_length,NQ];exact hlen) hBw).mono fun e w' ⟨he,h1,h2⟩=>⟨he,by
  rw[yg,rV]at h1;exact Or.inr h1,h2⟩
theorem xR (B b:Nat) (l:List UInt8) (w:World) (h:lg w B b l) (hBw:B<=w.heap.size):
  am! 86 #[b] w fun e w'=>e=.returned l/\Below B w w':=Builder_String_any B b l w h hBw
theorem NP.gg {a w w':World} (h:NP [] a w) (hb:Below a w w'):NP [] a w':=
 ⟨hb.os.trans h.os,hb.tape.trans h.tape,hb.output.trans h.output,Nk h.size hb.size,fun k hk _=>(hb.block k hk).trans (h.block k hk _b)⟩
end
section
open Go.Proofs.Tryz Go.RowKit Go.Maps
def Qq (l:List (List UInt8)) (k:Nat):Nat:=((l.take k).map (·.length)).sum
theorem sj (l:List (List UInt8)) (k:Nat) (h:k<l.length):Qq l (k+1)=Qq l k+l[k].length:=by
 unfold Qq;rw[MI h,M0,List.sum_append];simp
theorem Eh (l:List (List UInt8)) (m k:Nat) (hm:∀s∈l,s.length<=m) (hk:k<=l.length):Qq l k<=m*k:=by
 induction k with
 |zero=>simp[Qq]
 |succ k ih=>
  rw[sj l k _a,Nat.mul_succ]
  have:=ih _a
  have:=hm _ (MJ (show k<l.length by omega))
  omega
def PL (l:List (List UInt8)) (k:Nat):List UInt8:=(l.take k).flatten
theorem Bx (l:List (List UInt8)) (k:Nat) (h:k<l.length):PL l (k+1)=PL l k++l[k]:=by
 unfold PL;rw[MI h,Nv];simp
theorem DS (l:List (List UInt8)) (k:Nat):(PL l k).length=Qq l k:=by
 unfold PL Qq;rw[List.length_flatten]
theorem vM {w:World} {sb:Nat} {st:List (List UInt8)} {t:TypeId} (o:ae w sb (bV st) t) (k:Nat) (h:k<st.length):w.cell? (aa sb k)=some (.string (bs st[k])):=by
 rw[<-sB st k h]
 exact o.cell k (by simp[bV];exact h)
theorem LA (sb:Nat) (st:List (List UInt8)) (w:World) (o:ae w sb (bV st) 9) (h1:1<=st.length) (h2:st.length<=8192) (hm:∀s∈st,s.length<=128):
  am! 72 #[(sb,st.length,st.length),.string ⟨#[]⟩] w fun e w'=>e=.returned st.flatten/\NP [] w w':=by
 have c0:=vM o 0 _a
 by_cases Pp:st.length=1
 .obtain⟨a,rfl⟩:=List.length_eq_one_iff.1 Pp
  have c00:w.cell? sb=a:=c0
  clear c0
  rw[show[a].flatten=a by simp]
  show am! 72 #[.slice (some sb) 1 1,.string ⟨#[]⟩] w _
  clear o h1 h2 hm Pp
  go_enter func72,ntmps72
  go_wp2_with fail
  go_ret
  exact⟨rfl,NP.refl _ _⟩
 .have n0:((st.length:Int)==0)=false:=_y
  have n1:((st.length:Int)==1)=false:=_y
  have hS:=fun k hk=>Eh st 128 k hm hk
  have⟨HS,HO⟩:=_f hS h1
  clear hS
  go_enter func72,ntmps72
  go_wp2_with fail
  go_loop [5,41] (fun t i=>∃k:Nat,k<=st.length/\i=(k:Int)/\t=(Qq st k:Int)) (fun _ i=>st.length-(intOf i).toNat)
  case atStart=>exact⟨0,_a,rfl,by simp[Qq]⟩
  case round=>
   obtain⟨k,hk,rfl,rfl⟩:=hrel
   have hb:=HS.out k hk
   by_cases NV:k<st.length
   .have ck:=vM o k NV
    have hz:(bs st[k]).size<=128:=by rw[NQ];exact hm _ (MJ NV)
    have hzz:((bs st[k]).size:Int)=st[k].length:=ak!
    have UU:Hid (Qq st (k+1)=Qq st k+(bs st[k]).size):=by show _=_;rw[NQ];exact sj st k NV
    have Q3:(Qq st k:Int)<=1048576:=_a
    have hkb:(k:Int)<st.length:=_a
    have Of:=tK NV
    clear hb hzz
    generalize bs st[k]=T at*
    generalize Qq st k=q at*
    generalize Wu:Qq st (k+1)=q2 at*
    have HQ2:=tK Wu
    clear Wu
    go_wp2_with fail
    go_round
    case rel=>exact⟨k+1,Of.out,_j,by rw[HQ2.out,UU.out];go_num⟩
    case measure=>(have hh:=Of.out;simp[intOf];omega)
   .obtain rfl:k=st.length:=_a
    have hq:Qq st st.length<=281474976710656:=_a
    have hq3:=hb
    have ob:=ae.new w #[.pointer none,()] 153
    have WV:=Builder_Grow_fresh w w (Qq st st.length) _ (MG _) ob _b hq
    have Qg:=DS st
    have Sk:=Bx st
    have⟨S9,HCS,HB⟩:=gg! Qg Sk hb
    have i1:(1:Int)<st.length:=_a
    clear hb hq3 Qg Sk hq
    generalize Qq st st.length=q at*
    go_wp2_with fail
    refine WV.mono ?_;rintro e w1 ⟨rfl,TG,bl1⟩
    have k1:NP [] w w1:=((NP.refl [] w).alloc _).gg bl1
    have hB1:lg w1 w w []:=Or.inr TG
    have o1:=k1.own o _b
    have c01:=vM o1 0 _a
    have RH:=k1.size
    clear WV ob TG bl1
    go_wp2_with fail
    refine(mC w w [] st[0] w1 hB1 (by have:=hm _ (MJ (show 0<st.length by omega));simp;omega) RH).mono ?_;rintro e w2 ⟨rfl,hB2,bl2⟩
    have k2:NP [] w w2:=k1.gg bl2
    have aer:lg w2 w w (PL st 1):=by
     have:=HCS.out 0 _a
     rw[show PL st 1=[]++st[0]from this];exact hB2
    clear hB1 hB2 bl2 o1 c01
    go_wp2_with fail
    go_loopw [65] (fun i wr=>∃k:Nat,k+1<=st.length/\i=(k:Int)/\lg wr w w (PL st (k+1))/\NP [] w wr) (fun i _=>st.length-(intOf i).toNat)
    case atStart=>exact⟨0,_a,rfl,aer,k2⟩
    case round=>
     obtain⟨k,hk,rfl,hB,hK⟩:=hrel
     have hs:=hK.size
     have Qg:(PL st (k+1)).length<=1048576:=by
      rw[S9.out];have:=HS.out (k+1) hk;omega
     by_cases NV:k+1<st.length
     .have ck:wr.cell? (aa sb (1+k))=some (.string (bs st[k+1])):=by rw[Nat.add_comm 1 k];exact vM (hK.own o _b) (k+1) NV
      have hz:st[k+1].length<=128:=hm _ (MJ NV)
      have Sk:=HCS.out (k+1) NV
      have b1:(k:Int)<(st.length:Int)-1:=_a
      have b2:(k:Int)<((st.length-1:Nat):Int):=_a
      have⟨Of,HC⟩:=_f NV Sk
      clear Sk
      generalize st[k+1]=s at*
      generalize PL st (k+1)=C at*
      go_wp2_with fail
      refine(mC w w C [] wr hB _e hs).mono ?_;rintro e w4 ⟨rfl,hB4,bl4⟩
      have k4:NP [] w w4:=hK.gg bl4
      have Vx:=k4.size
      rw[NO]at hB4
      go_wp2_with fail
      refine(mC w w C s w4 hB4 _a Vx).mono ?_;rintro e w5 ⟨rfl,hB5,bl5⟩
      have k5:NP [] w w5:=k4.gg bl5
      go_wp2_with fail
      go_roundw
      case rel=>exact⟨k+1,by have:=Of.out;omega,_j,by rw[HC.out];exact hB5,k5⟩
      case measure=>(have hh:=Of.out;simp[intOf];omega)
     .have e:PL st (k+1)=st.flatten:=by unfold PL;rw[show k+1=st.length by omega,MU]
      rw[e]at hB
      have b1:¬((k:Int)<(st.length:Int)-1):=_a
      have b2:¬((k:Int)<((st.length-1:Nat):Int)):=_a
      go_wp2_with fail
      refine(xR w w st.flatten wr hB hs).mono ?_;rintro e w4 ⟨rfl,bl4⟩
      go_wp2_with fail
      go_ret
      exact⟨rfl,hK.gg bl4⟩
end
section
open Go.Proofs.Tryz Go.RowKit
theorem qC (w:World):(Instr.makeSlice 61 (128:Int) (128:Int)).run prog w=.ok (.slice (some w) 128 128) (w.alloc (.cells (Array.replicate 128 (.int .u8 0)) 5)):=by
 kernel_rfl
theorem yp (w:World):(convert 61 9 (.slice (some w) 128 128)).run prog (w.alloc (.cells (Array.replicate 128 (.int .u8 0)) 5))=.ok N9 (w.alloc (.cells (Array.replicate 128 (.int .u8 0)) 5)):=by
 have ho:=ae.new w (Array.replicate 128 (Value.int .u8 0)) 5
 have hb:Lib.Bytes (w.alloc (.cells (Array.replicate 128 (.int .u8 0)) 5)) w 0 (bs N9):=by
  intro i hi
  have QZ:i<128:=by rw[NQ]at hi;simpa[N9]using hi
  rw[Nat.zero_add,ho.cell i (by simp;exact QZ)]
  have hz:i<N9.length:=by simpa[N9]using QZ
  have e0:N9[i]=0:=by unfold N9;exact List.getElem_replicate _
  rw[Array.getElem_replicate]
  refine congrArg some (congrArg (Value.int .u8) ?_)
  show(0:Int)=((N9[i]'hz).toNat:Int)
  rw[e0];rfl
 have h:=Lib.run_convert_whole (P:=prog) _ 61 5 9 underlying61 underlying5 underlying9 w 0 (bs N9) hb 128
 have e:(bs N9).size=128:=by rw[NQ];exact Np
 rw[e]at h
 exact h
end
section
open Go.Proofs.Tryz Go.RowKit Go.Maps
theorem J9 (b sb mb lo:Nat) (d:DK) (w:World) (h:aD w b sb mb lo d) (hm:∀s∈d.stand,s.length<=128):am! 26 #[b] w fun e w'=>e=.returned d.stand.flatten/\NP [] w w':=by
 have⟨p,c,c0,c1,c2,c3,c4,c5,h1,h2,h3⟩:=h.qG
 have⟨wv,n,o,os,_⟩:=h
 have hj:=LA sb d.stand w os h1 h2 hm
 clear os o
 go_enter func26,ntmps26
 go_wp2_with fail
 refine hj.mono ?_;rintro e w1 ⟨rfl,k1⟩
 go_wp2_with fail
 go_ret
 exact⟨rfl,k1⟩
def PQ (img:List UInt8) (i:Nat):List UInt8:=(img.drop (128*i)).take 128
def dA (img:List UInt8) (n k:Nat):List (List UInt8):=(List.range k).map (PQ img)++List.replicate (n-k) []
theorem nJ (img:List UInt8) (n k:Nat) (h:k<=n):(dA img n k).length=n:=by unfold dA;rw[tN,MP,List.length_range,Np];omega
theorem yF (img:List UInt8) (n k:Nat) (h:k<n):(dA img n k).set k (PQ img k)=dA img n (k+1):=by
 unfold dA
 rw[List.set_append_right _ _ _b]
 have e:n-k=(n-(k+1))+1:=_a
 rw[e,List.replicate_succ,MP,List.length_range,Nat.sub_self,List.set_cons_zero,List.range_succ,M0]
 simp
theorem qU (img:List UInt8) (k:Nat):(bs img).extract (128*k) (128*k+128)=bs (PQ img k):=by
 apply ByteArray.ext
 unfold PQ
 simp[bs,ByteArray.data_extract,List.take_drop]
theorem Lz (img:List UInt8) (n:Nat) (w:World) (hl:img.length=128*n) (h1:1<=n) (h2:n<=8192):
  am! 22 #[img] w fun e w'=>∃b sb mb lo,e=.returned (.tuple #[.pointer (some ⟨b,0,none⟩),(0:Int)])/\aD w' b sb mb lo (QP (dA img n n))/\w.heap.size<=sb/\w.heap.size<=mb/\w.heap.size<=b/\NP [] w w':=by
 have hz:(bs img).size=128*n:=by rw[NQ,hl]
 have RO:=oE n h2
 have e0:fi n 0=dA img n 0:=rfl
 rw[e0]at RO
 have o:=ae.new w (bV (dA img n 0)) 9
 have i1:(1:Int)<=n:=_a
 have i2:(n:Int)<=8192:=_a
 have hq:((128*n:Nat):Int)=128*(n:Int):=_a
 go_enter func22,ntmps22
 go_wp2_with fail
 go_loopw [26] (fun i wr=>∃k:Nat,k<=n/\i=(k:Int)/\ae wr w (bV (dA img n k)) 9/\NP [] w wr) (fun i _=>n-(intOf i).toNat)
 case atStart=>exact⟨0,_a,rfl,o,(NP.refl _ _).alloc _⟩
 case round=>
  obtain⟨k,hk,rfl,os,hK⟩:=hrel
  by_cases NV:k<n
  .have Of:=tK NV
   have QW:k<(bV (dA img n k)).size:=by simp[bV,nJ img n k hk];exact NV
   obtain⟨v0,s0⟩:∃v0,wr.cell? (aa w k)=some v0:=⟨_,os.cell k QW⟩
   have zs:=os.free k
   have Oy:ae (wr.setCell (aa w k) (.string (bs (PQ img k)))) w (bV (dA img n (k+1))) 9:=by
    rw[<-yF img n k NV,<-nh]
    exact os.set k _
   have WD:=hK.setCell (p:=(aa w k)) (Or.inr (MG _)) (.string (bs (PQ img k)))
   have hx:=qU img k
   have UT:(bs img).extract (128*k) (128*(k+1))=bs (PQ img k):=hx
   have t1:(128*(k:Int)).toNat=128*k:=_a
   have t2:(128*((k:Int)+1)).toNat=128*(k+1):=_a
   have b1:128*((k:Int)+1)<=128*(n:Int):=_a
   have b2:128*(k:Int)<=128*((k:Int)+1):=_a
   have HF:=tK Oy
   clear Oy os QW o hx
   generalize bs (PQ img k)=C at*
   exact M97
  .obtain rfl:k=n:=_a
   have hlen:=nJ img k k (MG _)
   have Z5:=GM w (dA img k k) wr os (by rw[hlen];exact h1) (by rw[hlen];exact h2)
   rw[hlen]at Z5
   exact M68
theorem DI (img:List UInt8) (k:Nat):((List.range k).map (PQ img)).flatten=img.take (128*k):=by
 induction k with
 |zero=>simp
 |succ k ih=>
  rw[List.range_succ,M0,Nv,ih]
  have e:128*(k+1)=128*k+128:=_a
  rw[e,List.take_add]
  simp[PQ]
theorem De (img:List UInt8) (n:Nat) (h:img.length=128*n):(dA img n n).flatten=img:=by
 unfold dA
 rw[Nat.sub_self,List.replicate_zero,NO,DI,<-h,MU]
theorem FF (img:List UInt8) (n i:Nat) (h:i<n):(dA img n n).getD i []=PQ img i:=by
 unfold dA
 rw[Nat.sub_self,List.replicate_zero,NO,Nx]
 simp[h]
end
section
open Go.Proofs.Tryz Go.ChangeShapes Go.WideShapes Go.ChangeAt Go.RowKit Go.Deep
def bS {α:Type} (k:Nat) (R:World->List Value->α->Prop) (w:World) (v:Value) (l:List α) (lo hi:Nat):Prop:=
 (l=[]/\∃a c,v=.slice a 0 c)\/
 ∃b off c,v=.slice (some ⟨b,off,none⟩) l.length c/\(∀i (h:i<l.length),∃cs,cs.length=k/\R w cs l[i]/\∀j u,cs[j]? =some u->w.cell? ⟨b,off+(i*k+j),none⟩=some u)/\lo<=b/\b<hi/\hi<=w.heap.size/\l≠[]/\l.length<=c/\c<=maxLen
section
variable {α:Type} {k:Nat} {R:World->List Value->α->Prop} {w w':World} {v:Value} {l:List α} {lo hi:Nat}
theorem bS.kept {S:List Nat} (h:bS k R w v l lo hi) (kk:NP S w w') (hS:∀x∈S,x<lo\/hi<=x) (hR:∀cs a,R w cs a->R w' cs a):bS k R w' v l lo hi:=by
 rcases h with h|⟨b,off,c,h1,h2,h3,h4,h5,h6,h7,h8⟩
 .exact Or.inl h
 .refine Or.inr ⟨b,off,c,h1,fun i hi=>?_,h3,h4,Nk h5 kk.size,h6,h7,h8⟩
  have hb:b∉S:=fun hb=>by have:=hS b hb;omega
  have⟨cs,e1,e2,e3⟩:=h2 i hi
  refine⟨cs,e1,hR _ _ e2,fun j u hu=>?_⟩
  rw[kk.cell d! hb]
  exact e3 j u hu
theorem bS.shape (h:bS k R w v l lo hi):∃p c,v=.slice p l.length c:=by
 exact M69
theorem adJ {A:Prop}(h:A:=by
 rcases h with⟨rfl,a,c,rfl⟩|⟨b,off,c,rfl,_,_,_,_,_,h7,h8⟩
 .exact Nb _
 .omega):A:=h
theorem bS.len (h:bS k R w v l lo hi):l.length<=maxLen:=by
 exact adJ
theorem bS.at_ {p:Option Addr} {n c:Nat} (h:bS k R w (p,n,c) l lo hi) (i:Nat) (hi':i<l.length):
  ∃b off cs,p=some ⟨b,off,none⟩/\cs.length=k/\R w cs l[i]/\(∀j u,cs[j]? =some u->w.cell? ⟨b,off+(i*k+j),none⟩=some u)/\lo<=b/\b<hi/\hi<=w.heap.size:=by
 rcases h with⟨rfl,_⟩|⟨b,off,c',e,h2,h3,h4,h5,_,h6,h7⟩
 .simp at hi'
 .simp at e
  obtain⟨e1,rfl,rfl⟩:=e
  have⟨cs,q1,q2,q3⟩:=h2 i hi'
  exact⟨b,off,cs,e1,q1,q2,q3,h3,h4,h5⟩
end
end
open Go.Proofs.Tryz Go.RowKit Go.Maps
variable {w:World} {b lo r:Nat} {d:DK} {x0 x1 x2 x3 x4:Value} {t:TypeId}
theorem aD.L2 {sb mb:Nat} (h:aD w b sb mb lo d):b<lo/\lo<=w.heap.size/\d.stand.length<=8192:=by
 have⟨_,_,_,_,_,_,_,_,_,_,h5,h6,h7,h8,_⟩:=h
 exact⟨h5,h6,h8⟩
theorem Jh {p:List UInt8->Prop} (st:List (List UInt8)) (ws:List (Nat×List UInt8)) (keep:Nat->Bool) (hs:∀s∈st,p s) (hw:∀x∈ws,p x.2) (n:Nat) (hn:n<=ws.length):∀s∈sk st ws keep n,p s:=by
 induction n with
 |zero=>exact hs
 |succ n ih=>
  rw[tP st ws keep n _a]
  intro s h
  split at h
  .rcases List.mem_or_eq_of_mem_set h with h|h
   .exact ih _a s h
   .subst h;exact hw _ (MJ _)
  .exact ih _a s h
theorem F9 (st:List (List UInt8)) (h:∀s∈st,s.length=128) (k:Nat) (hk:k<st.length):PQ st.flatten k=st[k]:=by
 unfold PQ
 induction st generalizing k with
 |nil=>simp at hk
 |cons a st ih=>
  have ha:=h a (MY)
  rw[List.flatten_cons]
  cases k with
  |zero=>
   rw[Nat.mul_zero,List.drop_zero,NC _a,Nh _a];rfl
  |succ k=>
   have e:128*(k+1)=a.length+128*k:=_a
   rw[e,List.drop_append,List.drop_of_length_le _a,NI]
   have e2:a.length+128*k-a.length=128*k:=_a
   rw[e2,ih (fun s hs=>h s (Nz _ hs)) k (by simpa using hk)]
   rfl
def ky (l:List (List UInt8)):List Value:=l.map fun s=>Value.string (bs s)
theorem uy (l:List (List UInt8)) (i:Nat) (h:i<l.length):(ky l)[i]? =some (.string (bs l[i])):=by simp[ky,h]
theorem Aj (l:List (Nat×List UInt8)):∀u∈PG l,u.oneCell'=true:=by
 induction l with
 |nil=>intro u hu;cases hu
 |cons a l ih=>
  have e:PG (a::l)=Value.int .i64 (a.1:Int)::Value.string (bs a.2)::PG l:=rfl
  rw[e];intro u hu
  simp only[List.mem_cons]at hu
  rcases hu with rfl|rfl|hu
  .rfl
  .rfl
  .exact ih u hu
def eK (w:World) (r lo:Nat) (d:DK):Prop:=
 ∃sv wv,ae w r #[sv,wv,d.fuse,(d.ops:Int),.bool d.down] 134/\
  w.ownsRow lo 9 1 sv d.stand.length (ky d.stand)/\w.ownsRow lo 208 2 wv d.waits.length (PG d.waits)/\
  lo<=w.heap.size/\lo<=r/\1<=d.stand.length/\d.stand.length<=8192/\(Lit.int .i64 d.fuse).wf=true/\d.ops<=100000/\d.waits.length<=20000
theorem ae.c5 (h:ae w b #[x0,x1,x2,x3,x4] t):w.cell? b=some x0/\w.cell? (aa b 1)=some x1/\w.cell? (aa b 2)=some x2/\w.cell? (aa b 3)=some x3/\w.cell? (aa b 4)=some x4:=
 ⟨h.cell 0 _b,h.cell 1 _b,h.cell 2 _b,h.cell 3 _b,h.cell 4 _b⟩
theorem ae.z5 (h:ae w b #[x0,x1,x2,x3,x4] t):w.frozen? b=false/\w.frozen? (aa b 1)=false/\w.frozen? (aa b 2)=false/\w.frozen? (aa b 3)=false/\w.frozen? (aa b 4)=false:=
 ⟨h.free 0,h.free 1,h.free 2,h.free 3,h.free 4⟩
theorem eK.mz (h:eK w r lo d):∃p c p' c',w.cell? r=some (.slice p d.stand.length c)/\w.cell? (aa r 1)=some (.slice p' d.waits.length c')/\w.cell? (aa r 2)=d.fuse/\w.cell? (aa r 3)=(d.ops:Int)/\w.cell? (aa r 4)=some (.bool d.down)/\
  w.ownsRow lo 9 1 (p,d.stand.length,c) d.stand.length (ky d.stand)/\w.ownsRow lo 208 2 (p',d.waits.length,c') d.waits.length (PG d.waits)/\1<=d.stand.length/\d.stand.length<=8192/\d.ops<=100000/\d.waits.length<=20000/\lo<=w.heap.size:=by
 have⟨sv,wv,o,hs,hw,h1,h2,h3,h4,h5,h6,h7⟩:=h
 obtain⟨p,c,rfl⟩:=ah hs
 obtain⟨p',c',rfl⟩:=ah hw
 have⟨c0,c1,c2,c3,c4⟩:=o.c5
 exact⟨p,c,p',c',c0,c1,c2,c3,c4,hs,hw,h3,h4,h6,h7,h1⟩
theorem eK.own (h:eK w r lo d):∃v0 v1,ae w r #[v0,v1,d.fuse,(d.ops:Int),.bool d.down] 134:=by
 have⟨sv,wv,o,_⟩:=h;exact⟨sv,wv,o⟩
theorem eK.kept {S:List Nat} {w':World} (h:eK w r lo d) (k:NP S w w') (hS:∀x∈S,x<lo):eK w' r lo d:=by
 have⟨sv,wv,o,hsr,Sr,h1,h2,r3⟩:=h
 exact⟨sv,wv,k.own o (fun hx=>by have:=hS r hx;omega),ax hsr k hS,ax Sr k hS,Nk h1 k.size,h2,r3⟩
theorem M91 {A:Prop}(h:A:=by
 go_enter func128,ntmps128
 go_wp2_with fail
 go_ret2
 exact⟨rfl,rfl⟩):A:=h
theorem EJ (r lo:Nat) (d:DK) (i:Int) (w:World) (h:eK w r lo d) (OF:OM d i≠0):am! 128 #[r,i] w fun e w'=>e=.returned (.tuple #[.string ⟨#[]⟩,(OM d i:Int)])/\w=w':=by
 have⟨p,c,p',c',c0,c1,c2,c3,c4,hs,hw,h1,h2,h3,h4,h5⟩:=h.mz
 unfold OM at*
 clear hs hw h
 generalize d.stand.length=n at*
 cases hd:d.down
 .rw[hd]at c4 OF
  simp only[Bool.false_eq_true,if_false]at OF ⊢
  clear hd
  rcases(by omega:i<0\/(0<=i/\i<n)\/(0<=i/\¬(i<n)))with g1|⟨g1,g2⟩|⟨g1,g2⟩
  .rw[if_pos (Or.inl g1)]
   clear OF
   exact M91
  .rw[if_neg _a]at OF
   exact absurd rfl OF
  .rw[if_pos (Or.inr _a)]
   clear OF
   exact M91
 .rw[hd]at c4
  simp only[if_true]
  clear hd OF
  exact M91
def Qa (d:DK) (i k:Nat):List UInt8:=(eJ (d.waits.take k) i).getD (d.stand.getD i [])
theorem yj (d:DK) (i k:Nat) (h:k<d.waits.length):Qa d i (k+1)=if d.waits[k].1=i then d.waits[k].2 else Qa d i k:=by
 unfold Qa
 rw[MI h,iH]
 split<;>rfl
theorem Aq (d:DK) (i:Nat):Qa d i d.waits.length=seen d i:=by unfold Qa seen;rw[MU]
theorem M96 {A:Prop}(h:A:=by
 go_wp2_with fail
 go_round
 case rel=>exact⟨j+1,Of.out,_j,by rw[HS.out]⟩
 case measure=>(have hh:=Of.out;simp[intOf];omega)):A:=h
theorem Lc (r lo:Nat) (d:DK) (i:Nat) (w:World) (h:eK w r lo d) (hd:d.down=false) (hi:i<d.stand.length):am! 128 #[r,(i:Int)] w fun e w'=>e=.returned (.tuple #[.string (bs (seen d i)),(0:Int)])/\w=w':=by
 have⟨p,c,p',c',c0,c1,c2,c3,c4,hs,hw,h1,h2,h3,h4,h5⟩:=h.mz
 rw[hd]at c4
 have⟨gs,cs,es,TI,UK,_,_,hsc⟩:=cU hs _a
 have Ou:=hsc i _ (uy d.stand i hi)
 injection es with es _ ecs
 subst es
 have e0:bs d.stand[i]=bs (Qa d i 0):=by
  unfold Qa
  rw[List.take_zero,sZ,Nx,MZ hi];rfl
 rw[e0]at Ou
 have i1:(i:Int)<d.stand.length:=_a
 have Oo:∀k,(hk:k<d.waits.length)->Qa d i (k+1)=if d.waits[k].1=i then d.waits[k].2 else Qa d i k:=fun k hk=>yj d i k hk
 have OY:=tK Oo
 have P8:=tK (Aq d i)
 have HW:=tK hw
 clear Oo hs hw h hsc e0 hi hd
 generalize d.stand.length=n at*
 go_enter func128,ntmps128
 go_wp2_with fail
 go_loop [6,7] (fun s k=>∃j:Nat,j<=d.waits.length/\k=(j:Int)/\s=.string (bs (Qa d i j))) (fun _ k=>d.waits.length-(intOf k).toNat)
 case atStart=>exact⟨0,_a,rfl,rfl⟩
 case round=>
  obtain⟨j,hj,rfl,rfl⟩:=hrel
  by_cases NV:j<d.waits.length
  .obtain⟨ai,asj,Q9,hq1,Wu⟩:∃(ai:Nat) (asj:List UInt8),Qa d i (j+1)=(if ai=i then asj else Qa d i j)/\(PG d.waits)[j*2]? =(ai:Int)/\(PG d.waits)[j*2+1]? =asj:=
    ⟨_,_,OY.out j NV,(nc d.waits j NV).1,(nc d.waits j NV).2⟩
   have⟨gw,cw,ew,_,_,_,_,hwc⟩:=cU HW.out _a
   have w1:=hwc _ _ hq1
   have w2:=hwc _ _ Wu
   injection ew with ew _ ecw
   subst ew
   have i2:(j:Int)<d.waits.length:=_a
   have Of:=tK NV
   clear hq1 Wu hwc
   by_cases he:ai=i
   .subst he
    rw[if_pos rfl]at Q9
    have HS:=tK Q9
    clear Q9
    generalize Qa d ai j=S0 at*
    exact M96
   .have Pb:((ai:Int)==(i:Int))=false:=_y
    rw[if_neg he]at Q9
    have HS:=tK Q9
    clear he Q9
    generalize Qa d i j=S0 at*
    exact M96
  .obtain rfl:j=d.waits.length:=_a
   rw[P8.out]
   go_wp2_with fail
   go_ret2
   exact⟨rfl,rfl⟩
theorem Mj (r lo:Nat) (d:DK) (w:World) (h:eK w r lo d) (ho:d.ops<100000):am! 211 #[r] w fun e w'=>e=.returned (.bool (decide (d.fuse=0)))/\eK w' r lo (dq d)/\NP [r] w w':=by
 have hf:(Lit.int .i64 d.fuse).wf=true:=by have⟨_,_,_,_,_,_,_,_,_,h6,_⟩:=h;exact h6
 have hfb: -9223372036854775808<=d.fuse/\d.fuse<=9223372036854775807:=by
  simp only[Lit.wf,No,decide_eq_true_eq]at hf
  exact⟨by have:=hf.1;exact this,by have:=hf.2;exact this⟩
 have Oy:∀(w':World),NP [r] w w'->(∀v0 v1,ae w r #[v0,v1,d.fuse,(d.ops:Int),.bool d.down] 134->ae w' r #[v0,v1,.int .i64 (dq d).fuse,.int .i64 (dq d).ops,.bool (dq d).down] 134)->eK w' r lo (dq d):=by
  intro w' k hw'
  have⟨sv,wv,o,hs,hw,h1,h2,h3,h4,h5,h6,h7⟩:=h
  refine⟨sv,wv,hw' _ _ o,bI hs k o _d,bI hw k o _d,Nk h1 k.size,h2,h3,h4,?_,?_,h7⟩
  .show(Lit.int .i64 (if 0<d.fuse then d.fuse-1 else d.fuse)).wf=true
   split
   .exact WalkArith.wf_i64 _a
   .exact h5
  .show d.ops+1<=100000;omega
 have⟨sv,wv,o⟩:=h.own
 have⟨c0,c1,c2,c3,c4⟩:=o.c5
 have z:=o.z5
 have HF:=tK Oy
 have⟨st,wa,fu,op,dn⟩:=d
 simp only at*
 obtain⟨q,hq⟩:∃q,q=op+1:=⟨_,rfl⟩
 have Sq:((op:Int)+1)=(q:Int):=_a
 have HQ:=tK hq
 have aem:(op:Int)<=100000:=_a
 clear hq ho h hf Oy
 rcases(by omega:fu=0\/fu<0\/0<fu)with rfl|hp|hp
 .go_enter func211,ntmps211
  go_wp2_with fail
  go_ret
  have kk:=((NP.refl [r] w).setCell (p:=(aa r 3)) (Or.inl _b) (q:Int)).setCell (p:=(aa r 4)) (Or.inl _b) true
  refine⟨rfl,HF.out _ kk (fun v0 v1 o=>?_),kk⟩
  show ae _ r #[v0,v1,(0:Int),((op+1:Nat):Int),true] _
  rw[<-HQ.out]
  exact(o.set 3 _).set 4 _
 .have Pb:(fu==0)=false:=_y
  have hdc:decide (fu=0)=false:=MS _a
  rw[hdc]
  go_enter func211,ntmps211
  go_wp2_with fail
  go_ret
  have kk:=(NP.refl [r] w).setCell (p:=(aa r 3)) (Or.inl _b) (q:Int)
  have ef:(dq ⟨st,wa,fu,op,dn⟩).fuse=fu:=by show(if 0<fu then fu-1 else fu)=_;rw[if_neg _a]
  have ed:(dq ⟨st,wa,fu,op,dn⟩).down=dn:=by show(if fu=0 then true else dn)=_;rw[if_neg _a]
  refine⟨rfl,HF.out _ kk (fun v0 v1 o=>?_),kk⟩
  rw[ef,ed]
  show ae _ r #[v0,v1,fu,((op+1:Nat):Int),.bool dn] _
  rw[<-HQ.out]
  exact o.set 3 _
 .have Pb:(fu==0)=false:=_y
  have hdc:decide (fu=0)=false:=MS _a
  rw[hdc]
  go_enter func211,ntmps211
  go_wp2_with fail
  go_ret
  have kk:=((NP.refl [r] w).setCell (p:=(aa r 3)) (Or.inl _b) (q:Int)).setCell (p:=(aa r 2)) (Or.inl _b) (fu-1:Int)
  have ef:(dq ⟨st,wa,fu,op,dn⟩).fuse=fu-1:=by show(if 0<fu then fu-1 else fu)=_;rw[if_pos hp]
  have ed:(dq ⟨st,wa,fu,op,dn⟩).down=dn:=by show(if fu=0 then true else dn)=_;rw[if_neg _a]
  refine⟨rfl,HF.out _ kk (fun v0 v1 o=>?_),kk⟩
  rw[ef,ed]
  show ae _ r #[v0,v1,(fu-1:Int),((op+1:Nat):Int),.bool dn] _
  rw[<-HQ.out]
  exact(o.set 3 _).set 2 _
theorem JI (r lo:Nat) (d:DK) (w:World) (h:eK w r lo d) (hm:∀s∈d.stand,s.length<=128):am! 136 #[r] w fun e w'=>e=.returned d.stand.flatten/\w=w':=by
 have⟨p,c,p',c',c0,c1,c2,c3,c4,hs,hw,h1,h2,h3,h4,h5⟩:=h.mz
 have⟨gs,cs,es,TI,UK,_,_,hsc⟩:=cU hs _a
 injection es with es _ ecs
 subst es
 have Ou:∀k,(hk:k<d.stand.length)->w.cell? ⟨gs,k,none⟩=some (.string (bs d.stand[k])):=fun k hk=>hsc k _ (uy d.stand k hk)
 have Oz:∀k,(hk:k<d.stand.length)->bs (PL d.stand k)++bs d.stand[k]=bs (PL d.stand (k+1)):=fun k hk=>by
  rw[aw];unfold PL;rw[MI hk,Nv];simp
 have Oy:PL d.stand d.stand.length=d.stand.flatten:=by unfold PL;rw[MU]
 have hlen:∀k,(PL d.stand k).length<=1048576:=fun k=>by
  unfold PL
  have h6:∀l:List (List UInt8),(∀s∈l,s.length<=128)->l.flatten.length<=128*l.length:=by
   intro l hl
   induction l with
   |nil=>simp
   |cons a l ih=>
    rw[List.flatten_cons,tN,Nj]
    have:=ih (fun s hs=>hl s (Nz _ hs))
    have:=hl a (MY)
    omega
  have:=h6 (d.stand.take k) (fun s hs=>hm s (NJ hs))
  have:=List.length_take_le' k d.stand
  omega
 have⟨HC,QK,Rv,OZ⟩:=gh! Ou Oz Oy hlen
 have HN:Hid (d.stand.length<=8192):=h2
 clear Ou Oz Oy hlen hs hw h hsc hm
 go_enter func136,ntmps136
 go_wp2_with fail
 go_loop [3,4] (fun s k=>∃j:Nat,j<=d.stand.length/\k=(j:Int)/\s=.string (bs (PL d.stand j))) (fun _ k=>d.stand.length-(intOf k).toNat)
 case atStart=>exact⟨0,_a,rfl,rfl⟩
 case round=>
  obtain⟨j,hj,rfl,rfl⟩:=hrel
  by_cases NV:j<d.stand.length
  .have cj:=HC.out j NV
   have hcj:=QK.out j NV
   have Z4:=OZ.out (j+1)
   have Rh:(bs (PL d.stand j)).size<=1048576:=by rw[NQ];exact OZ.out j
   have Qc:(bs (PL d.stand j)).size+(bs d.stand[j]).size<=1048576:=by
    have:=congrArg ByteArray.size hcj
    rw[ByteArray.size_append,NQ (PL d.stand (j+1))]at this
    omega
   have Qx:(bs d.stand[j]).size<=1048576:=_a
   have i2:(j:Int)<d.stand.length:=_a
   have⟨Of,HCJ⟩:=_f NV hcj
   clear Z4 hcj
   generalize bs d.stand[j]=SJ at*
   generalize bs (PL d.stand j)=S0 at*
   go_wp2_with fail
   go_round
   case rel=>exact⟨j+1,Of.out,_j,by rw[<-HCJ.out]⟩
   case measure=>(have hh:=Of.out;simp[intOf];omega)
  .obtain rfl:j=d.stand.length:=_a
   rw[Rv.out]
   go_wp2_with fail
   go_ret
   exact⟨rfl,rfl⟩

/- -/
import Derived.Test.YtdkimcnlhmhpgaaGreatF03
import Derived.Lib.ConvBytes
import Derived.Lib.SlBytesRow
import Derived.Deep.Grids
import Derived.Test.YtdkimcnlhmhpgaaGreatRows
set_option maxHeartbeats 32000000
set_option maxRecDepth 100000
namespace Go.Proofs.YtdkimcnlhmhpgaaGreat
section
section
open Go.Proofs.Tryz Go.RowKit Go.Maps
theorem NJ:type_of% @List.mem_of_mem_take:=@List.mem_of_mem_take
theorem NI:type_of% @List.nil_append:=@List.nil_append
theorem NC:type_of% @List.take_append_of_le_length:=@List.take_append_of_le_length
theorem Nv:type_of% @List.flatten_append:=@List.flatten_append
theorem Np:type_of% @List.length_replicate:=@List.length_replicate
theorem MP:type_of% @List.length_map:=@List.length_map
theorem FU:∃i,prog.info? 206=some i/\i.zero=some (.agg #[(0:Int),.string ⟨#[]⟩])/\i.size=2/\i.bytes=24:=by
 have hi:(prog.info? 206).map (fun i=>(i.zero,i.size,i.bytes))=some (some (.agg #[(0:Int),.string ⟨#[]⟩]),2,24):=c?
 exact Yh
theorem qD (l) (x:Nat×List UInt8):PG (l++[x])=PG l++[.int .i64 (x.1:Int),.string (bs x.2)]:=by simp[PG]
theorem DG (b sb mb lo d i) (s:ByteArray) (w) (h:aD w b sb mb lo d) (OF:OM d i≠0):am! 88 #[b,i,.string s] w fun e w'=>e=(OM d i:Int)/\w=w':=by
 have hr:=DH b sb mb lo d i w h
 clear h
 generalize OM d i=x at*
 have hx:(x==0)=false:=by simpa using OF
 clear OF
 go_enter func88,ntmps88
 exact M27
theorem Bs (b sb mb lo d i) (s:ByteArray) (w) (h:aD w b sb mb lo d) (h0:OM d i=0) (hs:s.size≠128):am! 88 #[b,i,.string s] w fun e w'=>e=(1:Int)/\w=w':=by
 have hr:=DH b sb mb lo d i w h
 rw[h0]at hr
 clear h h0
 have hx:((s.size:Int)==128)=false:=y?
 clear hs
 go_enter func88,ntmps88
 exact M27
def cW (d:DK) (i:Nat) (s:List UInt8):DK:=⟨d.stand,d.waits++[(i,s)],(dq d).fuse,d.ops+1,(dq d).down⟩
def BK (b sb mb lo:Nat) (w w':World):Prop:=
 w'.os=w.os/\w'.tape=w.tape/\w'.output=w.output/\w.heap.size<=w'.heap.size/\∀k,k<w.heap.size->k≠b->k≠sb->k≠mb->(k<lo\/∀cs f,w.heap[k]? ≠some (.cells cs 206 f))->w'.heap[k]? =w.heap[k]?
end
section
open Go.Proofs.Tryz Go.RowKit Go.Maps Go.ChangeMaps
theorem cV.Kb {w mb n} {f:Nat->Option (List UInt8)} (h:cV w mb n f) (ty:TypeId):
  ∃w',(Builtin.clear_ #[136] ty #[.map (some mb)]).run prog w=.ok (.tuple #[]) w'/\cV w' mb 0 (fun _=>none)/\NP [mb] w w':=by
 have⟨D,Ot,hf⟩:=h
 obtain⟨es,clock,hb,F,hs,rfl⟩:=Ot
 have Oe:(Builtin.clear_ #[136] ty #[.map (some mb)]).run prog w=.ok (.tuple #[]) (setBlock w mb (.map #[] clock)):=by
  simp[Builtin.clear_,run_underlying underlying136,MapKept.run_getObj_map hb,MapKept.run_setObj_map _ hb,Result.andThen,setBlock]
 have ht:w.mapTurned (setBlock w mb (.map #[] clock)) mb:=⟨es,clock,#[],clock,hb,rfl⟩
 refine⟨_,Oe,⟨.map [],⟨#[],clock,heap_setBlock_same hb _,⟨b?,MapKept.stamped_empty clock,b?⟩,MG _,rfl⟩,fun i _=>⟨rfl,fun s h=>by cases h⟩⟩,?_⟩
 exact(NP.refl [mb] w).grown ht.grown (fun k hk=>Or.inl (by simp at hk;simp[hk]))
theorem Mr (i:Int) (w:World):am! 91 #[i] w fun e w'=>e=true/\w=w':=by
 go_enter func91,ntmps91
 go_wp2_with fail
 go_ret
 simp
end
section
open Go.Proofs.Tryz Go.RowKit Go.Maps
variable {w:World} {A:Prop}
def sk (st:List (List UInt8)) (ws:List (Nat×List UInt8)) (keep:Nat->Bool):Nat->List (List UInt8)
 |0=>st
 |k+1=>if keep k then(sk st ws keep k).set (ws.getD k (0,[])).1 (ws.getD k (0,[])).2 else sk st ws keep k
theorem su (st ws) (keep:Nat->Bool) (k):(sk st ws keep k).length=st.length:=by
 induction k with
 |zero=>rfl
 |succ k ih=>
   unfold sk;split
   .rw[List.length_set,ih]
   .exact ih
theorem tP (st ws) (keep:Nat->Bool) (k) (h:k<ws.length):sk st ws keep (k+1)=if keep k then(sk st ws keep k).set ws[k].1 ws[k].2 else sk st ws keep k:=by
 have e:ws.getD k (0,[])=ws[k]:=by rw[Nx,MZ h];rfl
 rw[sk,e]
theorem nh (l:List (List UInt8)) (i:Nat) (s:List UInt8):(bV l).setIfInBounds i s=bV (l.set i s):=by
 unfold bV;simp[List.map_set]
theorem nc (l i) (h:i<l.length):(PG l)[i*2]? =(l[i].1:Int)/\(PG l)[i*2+1]? =some (.string (bs l[i].2)):=by
 induction l generalizing i with
 |nil=>simp at h
 |cons a l ih=>
  cases i with
  |zero=>exact⟨rfl,rfl⟩
  |succ i=>
   have e:PG (a::l)=Value.int .i64 (a.1:Int)::Value.string (bs a.2)::PG l:=rfl
   exact M57
def kX (d:DK) (keep:Nat->Bool):DK:=⟨sk d.stand d.waits keep d.waits.length,[],d.fuse,d.ops,d.down⟩
theorem sW {g j v} (h:w.cell? (aa g j)=some v):g<w.heap.size:=World.block_lt_of_cell? _ _ h
theorem yS (b sb mb lo d w) (h:aD w b sb mb lo d) (hd:d.down=true):am! 39 #[b] w fun e w'=>e=(90:Int)/\w=w':=by
 have hr:=ti b sb mb lo d w h
 unfold kY at hr
 rw[hd]at hr
 simp only[if_true]at hr
 go_enter func39,ntmps39
 exact M27
theorem aD.keep {S w' b sb mb lo d} (h:aD w b sb mb lo d) (k:NP S w w') (hS:∀x∈S,x<lo/\x≠b/\x≠sb/\x≠mb):aD w' b sb mb lo d:=by
 have⟨wv,n,o,os,Sr,hm,hn,h2,h3,h4,h5,h6,r⟩:=h
 exact⟨wv,n,k.own o (fun hx=>(hS _ hx).2.1 rfl),k.own os (fun hx=>(hS _ hx).2.2.1 rfl),ax Sr k (fun x hx=>(hS x hx).1),hm.kept k (fun hx=>(hS _ hx).2.2.2 rfl),hn,h2,h3,h4,h5,Nk h6 k.size,r⟩
theorem Ex (k):Lib.repeatL [0] k=List.replicate k 0:=by
 induction k with
 |zero=>rfl
 |succ k ih=>rw[Lib.repeatL,ih];rfl
def N9:List UInt8:=List.replicate 128 0
theorem Mp (w):am! 34 #[.string {data:=#[0]},(128:Int)] w fun e w'=>e=.returned N9/\NP [] w w':=by
 have h:=strings_Repeat {data:=#[0]} 128 w a? (by show 1*128<=_;omega)
 have e:(⟨(Lib.repeatL (ByteArray.mk #[0]).data.toList 128).toArray⟩:ByteArray)=bs N9:=by
  show bs (Lib.repeatL [0] 128)=_
  rw[Ex];rfl
 rw[e]at h
 exact h.mono fun e w' hh=>⟨hh.1,NP.xp hh.2⟩
def QP (st:List (List UInt8)):DK:=⟨st,[],-1,0,false⟩
theorem GM (sb st w) (o:ae w sb (bV st) 9) (h1:1<=st.length) (h2:st.length<=8192):
  am! 35 #[(sb,st.length,st.length)] w fun e w'=>e=.returned ↑(w+1:Nat)/\aD w' (w.heap.size+1) sb w (w.heap.size+2) (QP st)/\NP [] w w':=by
 have hmm:= @run_makeMap prog
 have NV:=o.lt
 have hm:=(cV.made w).alloc (.cells #[(sb,st.length,st.length),(),.map (some w),(-1:Int),(0:Int),false] 138)
 have ob:=ae.new (w.alloc (.map #[] 0)) #[(sb,st.length,st.length),(),.map (some w),(-1:Int),(0:Int),false] 138
 rw[Nd]at ob
 have os:=(o.alloc (.map #[] 0)).alloc (.cells #[(sb,st.length,st.length),(),.map (some w),(-1:Int),(0:Int),false] 138)
 go_enter func35,ntmps35
 go_wp2_with fail
 go_ret
 refine⟨rfl,⟨(),0,ob,os,Nf _ _ _ _,hm,MG _,?_,?_,?_,?_,?_,h1,h2,?_,?_,?_⟩,((NP.refl _ _).alloc _).alloc _⟩
 .omega
 .omega
 .omega
 .omega
 .simp
 .show(-1:Int)<= -1;omega
 .show(-1:Int)<=9223372036854775807;omega
 .exact Nb _
def fi (n k:Nat):List (List UInt8):=List.replicate k N9++List.replicate (n-k) []
theorem Bq (n k) (h:k<=n):(fi n k).length=n:=by grind [fi]
theorem yO (n k) (h:k<n):(fi n k).set k N9=fi n (k+1):=by
 unfold fi
 rw[List.set_append_right _ _ b?]
 have e:n-k=(n-(k+1))+1:=a?
 rw[e,List.replicate_succ,Np,Nat.sub_self,List.set_cons_zero,List.replicate_succ']
 simp
theorem zF:∃i,prog.info? 9=some i/\i.zero=some (.string ⟨#[]⟩)/\i.size=1/\i.bytes=16:=by
 have hi:(prog.info? 9).map (fun i=>(i.zero,i.size,i.bytes))=some (some (.string ⟨#[]⟩),1,16):=c?
 exact Yh
theorem oE (n:Nat) (hn:n<=8192) (w):(Instr.makeSlice 76 (n:Int) (n:Int)).run prog w=.ok (w.heap.size,n,n) (w.alloc (.cells (bV (fi n 0)) 9)):=by
 have⟨i0,h1,h2,h3,h4⟩:=zF
 rw[lu (P:=prog) 76 9 i0 (.string ⟨#[]⟩) underlying76 h1 h2 h3 rfl n Z! a? w]
 have e:Array.replicate n (Value.string ⟨#[]⟩)=bV (fi n 0):=by
  unfold bV fi
  apply Array.toList_inj.1
  simp[bs]
 rw[e]
theorem M97 (h:A:=by
 go_wp2_with fail
 go_roundw
 case rel=>exact⟨k+1,Of.out,j?,HF.out,WD⟩
 case measure=>(have hh:=Of.out;simp[intOf];omega)):A:=h
theorem M68 (h:A:=by
 have PW:=hK.size
 have HM:=tK Z5
 clear Z5 os
 go_wp2_with fail
 refine HM.out.mono ?_;rintro e w2 ⟨rfl,hD,k2⟩
 go_wp2_with fail
 go_ret2
 exact⟨_,_,_,_,rfl,hD,MG _,PW,a?,hK.trans k2⟩):A:=h
theorem Mq (n:Nat) (w) (h1:1<=n) (h2:n<=8192):
  am! 9 #[(n:Int)] w fun e w'=>∃b sb mb lo,e=.returned (.tuple #[.pointer (some ⟨b,0,none⟩),(0:Int)])/\aD w' b sb mb lo (QP (List.replicate n N9))/\w.heap.size<=sb/\w.heap.size<=mb/\w.heap.size<=b/\NP [] w w':=by
 have RO:=oE n h2
 have o:=ae.new w (bV (fi n 0)) 9
 have i1:(1:Int)<=n:=a?
 have i2:(n:Int)<=8192:=a?
 go_enter func9,ntmps9
 go_wp2_with fail
 go_loopw [16] (fun i wr=>∃k:Nat,k<=n/\i=(k:Int)/\ae wr w (bV (fi n k)) 9/\NP [] w wr) (fun i _=>n-(intOf i).toNat)
 case atStart=>exact⟨0,a?,rfl,o,(NP.refl _ _).alloc _⟩
 case round=>
  obtain⟨k,hk,rfl,os,hK⟩:=hrel
  by_cases NV:k<n
  .have Of:=tK NV
   go_wp2_with fail
   refine(Mp _).mono ?_;rintro e w1 ⟨rfl,k1⟩
   have os1:=k1.own os b?
   have QW:k<(bV (fi n k)).size:=by simp[bV,Bq n k hk];exact NV
   obtain⟨v0,s0⟩:∃v0,w1.cell? (aa w k)=some v0:=⟨_,os1.cell k QW⟩
   have zs:=os1.free k
   have Oy:ae (w1.setCell (aa w k) N9) w (bV (fi n (k+1))) 9:=by
    rw[<-yO n k NV,<-nh]
    exact os1.set k _
   have WD:=(hK.trans k1).setCell (p:=(aa w k)) (Or.inr (MG _)) N9
   have HF:=tK Oy
   clear Oy os os1 QW o
   generalize N9=Z at*
   exact M97
  .obtain rfl:k=n:=a?
   have e0:fi k k=List.replicate k N9:=by unfold fi;rw[Nat.sub_self];simp
   rw[e0]at os
   have Z5:=GM w (List.replicate k N9) wr os (by rw[Np];exact h1) (by rw[Np];exact h2)
   rw[Np]at Z5
   exact M68
end
section
open Go.Proofs.Tryz Go.RowKit
theorem GJ:∃j,prog.info? 153=some j/\j.size=2:=by
 have h:(prog.info? 153).map (·.size)=some 2:=c?
 simp_all
theorem yX (b:Nat) (w:World) (h0:w.cell? b=b):
  am! 162 #[b] w fun e w'=>e=.returned (.tuple #[])/\w'=w:=by
 obtain⟨j,hj,_⟩:=GJ
 go_enter func162,ntmps162
 go_wp2
 rw[Lib.run_neq_ptr_same w _ underlying151 hj]
 go_wp2
 go_end0
 simp
theorem xS (b:Nat) (w:World) (h0:w.cell? b=some (.pointer none)) (hsh:w.shape? b=some (153,2)) (hfz:w.frozen? b=false):
  am! 162 #[b] w fun e w'=>e=.returned (.tuple #[])/\w'=w.setCell b b:=by
 obtain⟨j,hj,hjs⟩:=GJ
 have hlies:liesAt prog prog.depth 153 (2/prog.cellsOf 153) 0 153 1=true:=rfl
 go_enter func162,ntmps162
 go_wp2
 rw[Lib.run_to_unsafe w ⟨b,0,none⟩ underlying151 underlying273 hj a? hsh (Nat.zero_lt_succ 1)]
 simp only[Result.andThen]
 rw[Oper.upon_value]
 go_wp2
 rw[run_callFunc_extern func221 c? c? c? (e:=Extern.AbiNoEscape.same) c?]
 rw[Lib.run_noEscape]
 simp only[Result.andThen]
 rw[Oper.upon_value]
 go_wp2
 rw[Lib.run_from_unsafe w ⟨b,0,none⟩ underlying273 underlying151 hj hsh hlies]
 simp only[Result.andThen]
 rw[Oper.upon_value]
 go_wp2
 go_end0
 simp
theorem Kg (B b bs w) (h:Lib.IsBuilder 153 5 B b bs w):
  am! 162 #[b] w fun e w'=>e=.returned (.tuple #[])/\(Lib.BuilderAt 153 5 B b b bs w'/\Below B w w'):=by
 rcases h with h|h
 .refine(xS b w h.cell0 h.shape h.frozen0).mono ?_
  rintro e w' ⟨rfl,rfl⟩
  exact⟨rfl,h.used _,(Below.refl B w).setCell (p:=b) h.1 _⟩
 .refine(yX b w h.cell0).mono ?_
  grind [Below.refl]
theorem Kf (B b bs) (s:ByteArray) (w) (h:Lib.IsBuilder 153 5 B b bs w) (hlen:bs.length+s.size<=140737488355328) (_:B<=w.heap.size):
  am! 84 #[b,.string s] w fun e w'=>e=.returned (.tuple #[(s.size:Int),.nilIface])/\(Lib.BuilderAt 153 5 B b b (bs++Lib.strCells s) w'/\Below B w w'):=by
 have hib:(prog.info? 5).map (fun i=>(i.zero,i.size,i.bytes))=some (some (.int .u8 0),1,1):=rfl
 obtain⟨i0,hi,hz0,hz1,hz2⟩:=info_parts hib
 go_enter func84,ntmps84
 go_wp2_with fail
 refine(Kg B b bs _ h).mono ?_
 rintro e w1 ⟨rfl,h1,hb1⟩
 obtain⟨hB,v,hbk,hown,hne⟩:=h1
 have c0:w1.cell? b=b:=by rw[Lib.cell_of_heap hbk];rfl
 have c1:w1.cell? (aa b 1)=some v:=by rw[Lib.cell_of_heap hbk];rfl
 go_wp2_with (at_builtin;refine Lib.wpList_append_own_string _ rfl _ _ 61 9 rfl B 5 i0 underlying61 underlying9 hi hz0 hz1 hz2 _ _ _ rfl hown s rfl ?c3 ?c4 ?c5 ?_)
 case c3=>unfold maxLen;omega
 case c4=>omega
 case c5=>grind
 intro v' w2 hown' hgrow _
 have hlt:b<w1.heap.size:=NK hbk
 have hb2:w2.heap[b]? =some (.cells #[b,v] 153 (0,0)):=by
  rw[hgrow.block b hlt (fun e=>hne e.symm)]
  exact hbk
 have d0:w2.cell? b=b:=by rw[Lib.cell_of_heap hb2];rfl
 have d1:w2.cell? (aa b 1)=some v:=by rw[Lib.cell_of_heap hb2];rfl
 have f1:w2.frozen? (aa b 1)=false:=Lib.frozen_of_heap hb2 1
 obtain⟨ao,n',cap,rfl⟩:∃ao n' cap,v'=.slice ao n' cap:=by
  rcases hown'.2 with⟨hv,_⟩|⟨g,cap,cur,hv,_⟩
  .simp_all
  simp_all
 go_wp2
 go_ret2
 refine⟨rfl,?_,?_⟩
 .grind [Lib.BuilderAt.put,Lib.strCells_length]
 .exact(hb1.grown hgrow a? (fun k hk=>(hown.lt k hk).1)).setCell (p:=(aa b 1)) hB _
def lg (w:World) (B b:Nat) (l:List UInt8):Prop:=Lib.IsBuilder 153 5 B b (Lib.byteCells l) w
theorem yg (l):Lib.strCells (bs l)=Lib.byteCells l:=rfl
theorem rV (a b):Lib.byteCells a++Lib.byteCells b=Lib.byteCells (a++b):=by simp[Lib.byteCells]
theorem mC (B b:Nat) (l m:List UInt8) (w:World) (h:lg w B b l) (hlen:l.length+m.length<=140737488355328) (hBw:B<=w.heap.size):
  am! 84 #[b,m] w fun e w'=>e=.returned (.tuple #[.int .i64 (bs m).size,.nilIface])/\lg w' B b (l++m)/\Below B w w':=
 (Kf B b (Lib.byteCells l) (bs m) w h (by grind [Lib.byteCells_length,NQ]) hBw).mono fun e w' ⟨he,h1,h2⟩=>⟨he,by
  rw[yg,rV]at h1;exact Or.inr h1,h2⟩
theorem xR (B b l w) (h:lg w B b l) (hBw:B<=w.heap.size):
  am! 86 #[b] w fun e w'=>e=.returned l/\Below B w w':=Builder_String_any B b l w h hBw
theorem NP.gg {a w w'} (h:NP [] a w) (hb:Below a w w'):NP [] a w':=
 ⟨hb.os.trans h.os,hb.tape.trans h.tape,hb.output.trans h.output,Nk h.size hb.size,fun k hk _=>(hb.block k hk).trans (h.block k hk b?)⟩
end
section
open Go.Proofs.Tryz Go.RowKit Go.Maps
def Qq (l:List (List UInt8)) (k:Nat):Nat:=((l.take k).map (·.length)).sum
theorem sj (l k) (h:k<l.length):Qq l (k+1)=Qq l k+l[k].length:=by
 unfold Qq;rw[MI h,M0,List.sum_append];simp
theorem Eh (l m k) (hm:∀s∈l,s.length<=m) (hk:k<=l.length):Qq l k<=m*k:=by
 induction k with
 |zero=>simp[Qq]
 |succ k ih=>
  rw[sj l k a?,Nat.mul_succ]
  have:=ih a?
  have:=hm _ (MJ (show k<l.length by omega))
  omega
def PL (l:List (List UInt8)) (k:Nat):List UInt8:=(l.take k).flatten
theorem Bx (l k) (h:k<l.length):PL l (k+1)=PL l k++l[k]:=by
 unfold PL;rw[MI h,Nv];simp
theorem DS (l k):(PL l k).length=Qq l k:=by
 unfold PL Qq;rw[List.length_flatten]
theorem vM {w sb st} {t:TypeId} (o:ae w sb (bV st) t) (k) (h:k<st.length):w.cell? (aa sb k)=some (.string (bs st[k])):=by
 rw[<-sB st k h]
 exact o.cell k (by simp[bV];exact h)
theorem LA (sb st w) (o:ae w sb (bV st) 9) (h1:1<=st.length) (h2:st.length<=8192) (hm:∀s∈st,s.length<=128):
  am! 72 #[(sb,st.length,st.length),.string ⟨#[]⟩] w fun e w'=>e=.returned st.flatten/\NP [] w w':=by
 have c0:=vM o 0 a?
 by_cases Pp:st.length=1
 .obtain⟨a,rfl⟩:=List.length_eq_one_iff.1 Pp
  have c00:w.cell? sb=a:=c0
  clear c0
  rw[show[a].flatten=a by simp]
  show am! 72 #[.slice (some sb) 1 1,.string ⟨#[]⟩] w _
  clear o h1 h2 hm Pp
  go_enter func72,ntmps72
  go_wp2_with fail
  go_ret
  exact⟨rfl,NP.refl _ _⟩
 .have n0:((st.length:Int)==0)=false:=y?
  have n1:((st.length:Int)==1)=false:=y?
  have hS:=fun k hk=>Eh st 128 k hm hk
  have⟨HS,HO⟩:=f? hS h1
  clear hS
  go_enter func72,ntmps72
  go_wp2_with fail
  go_loop [5,41] (fun t i=>∃k:Nat,k<=st.length/\i=(k:Int)/\t=(Qq st k:Int)) (fun _ i=>st.length-(intOf i).toNat)
  case atStart=>exact⟨0,a?,rfl,by simp[Qq]⟩
  case round=>
   obtain⟨k,hk,rfl,rfl⟩:=hrel
   have hb:=HS.out k hk
   by_cases NV:k<st.length
   .have ck:=vM o k NV
    have hz:(bs st[k]).size<=128:=by rw[NQ];exact hm _ (MJ NV)
    have hzz:((bs st[k]).size:Int)=st[k].length:=ak!
    have UU:Hid (Qq st (k+1)=Qq st k+(bs st[k]).size):=by show _=_;rw[NQ];exact sj st k NV
    have Q3:(Qq st k:Int)<=1048576:=a?
    have hkb:(k:Int)<st.length:=a?
    have Of:=tK NV
    clear hb hzz
    generalize bs st[k]=T at*
    generalize Qq st k=q at*
    generalize Wu:Qq st (k+1)=q2 at*
    have HQ2:=tK Wu
    clear Wu
    go_wp2_with fail
    go_round
    case rel=>exact⟨k+1,Of.out,j?,by rw[HQ2.out,UU.out];go_num⟩
    case measure=>(have hh:=Of.out;simp[intOf];omega)
   .obtain rfl:k=st.length:=a?
    have hq:Qq st st.length<=281474976710656:=a?
    have hq3:=hb
    have ob:=ae.new w #[.pointer none,()] 153
    have WV:=Builder_Grow_fresh w w (Qq st st.length) _ (MG _) ob b? hq
    have Qg:=DS st
    have Sk:=Bx st
    have⟨S9,HCS,HB⟩:=gg! Qg Sk hb
    have i1:(1:Int)<st.length:=a?
    clear hb hq3 Qg Sk hq
    generalize Qq st st.length=q at*
    go_wp2_with fail
    refine WV.mono ?_;rintro e w1 ⟨rfl,TG,bl1⟩
    have k1:NP [] w w1:=((NP.refl [] w).alloc _).gg bl1
    have hB1:lg w1 w w []:=Or.inr TG
    have o1:=k1.own o b?
    have c01:=vM o1 0 a?
    have RH:=k1.size
    clear WV ob TG bl1
    go_wp2_with fail
    refine(mC w w [] st[0] w1 hB1 (by have:=hm _ (MJ (show 0<st.length by omega));simp;omega) RH).mono ?_;rintro e w2 ⟨rfl,hB2,bl2⟩
    have k2:NP [] w w2:=k1.gg bl2
    have aer:lg w2 w w (PL st 1):=by
     have:=HCS.out 0 a?
     rw[show PL st 1=[]++st[0]from this];exact hB2
    clear hB1 hB2 bl2 o1 c01
    go_wp2_with fail
    go_loopw [65] (fun i wr=>∃k:Nat,k+1<=st.length/\i=(k:Int)/\lg wr w w (PL st (k+1))/\NP [] w wr) (fun i _=>st.length-(intOf i).toNat)
    case atStart=>exact⟨0,a?,rfl,aer,k2⟩
    case round=>
     obtain⟨k,hk,rfl,hB,hK⟩:=hrel
     have hs:=hK.size
     have Qg:(PL st (k+1)).length<=1048576:=by
      rw[S9.out];have:=HS.out (k+1) hk;omega
     by_cases NV:k+1<st.length
     .have ck:wr.cell? (aa sb (1+k))=some (.string (bs st[k+1])):=by rw[Nat.add_comm 1 k];exact vM (hK.own o b?) (k+1) NV
      have hz:st[k+1].length<=128:=hm _ (MJ NV)
      have Sk:=HCS.out (k+1) NV
      have b1:(k:Int)<(st.length:Int)-1:=a?
      have b2:(k:Int)<((st.length-1:Nat):Int):=a?
      have⟨Of,HC⟩:=f? NV Sk
      clear Sk
      generalize st[k+1]=s at*
      generalize PL st (k+1)=C at*
      go_wp2_with fail
      refine(mC w w C [] wr hB e? hs).mono ?_;rintro e w4 ⟨rfl,hB4,bl4⟩
      have k4:NP [] w w4:=hK.gg bl4
      have Vx:=k4.size
      rw[NO]at hB4
      go_wp2_with fail
      refine(mC w w C s w4 hB4 a? Vx).mono ?_;rintro e w5 ⟨rfl,hB5,bl5⟩
      have k5:NP [] w w5:=k4.gg bl5
      go_wp2_with fail
      go_roundw
      case rel=>exact⟨k+1,by have:=Of.out;omega,j?,by rw[HC.out];exact hB5,k5⟩
      case measure=>(have hh:=Of.out;simp[intOf];omega)
     .have e:PL st (k+1)=st.flatten:=by unfold PL;rw[show k+1=st.length by omega,MU]
      rw[e]at hB
      have b1:¬((k:Int)<(st.length:Int)-1):=a?
      have b2:¬((k:Int)<((st.length-1:Nat):Int)):=a?
      go_wp2_with fail
      refine(xR w w st.flatten wr hB hs).mono ?_;rintro e w4 ⟨rfl,bl4⟩
      go_wp2_with fail
      go_ret
      exact⟨rfl,hK.gg bl4⟩
end
section
open Go.Proofs.Tryz Go.RowKit
theorem qC (w):(Instr.makeSlice 61 (128:Int) (128:Int)).run prog w=.ok (.slice (some w) 128 128) (w.alloc (.cells (Array.replicate 128 (.int .u8 0)) 5)):=by
 kernel_rfl
theorem yp (w:World):(convert 61 9 (.slice (some w) 128 128)).run prog (w.alloc (.cells (Array.replicate 128 (.int .u8 0)) 5))=.ok N9 (w.alloc (.cells (Array.replicate 128 (.int .u8 0)) 5)):=by
 have ho:=ae.new w (Array.replicate 128 (Value.int .u8 0)) 5
 have hb:Lib.Bytes (w.alloc (.cells (Array.replicate 128 (.int .u8 0)) 5)) w 0 (bs N9):=by
  intro i hi
  have hi2:i<128:=by rw[NQ]at hi;simpa[N9]using hi
  rw[Nat.zero_add,ho.cell i (by grind)]
  have hz:i<N9.length:=by simpa[N9]using hi2
  have e0:N9[i]=0:=by unfold N9;exact List.getElem_replicate _
  rw[Array.getElem_replicate]
  refine congrArg some (congrArg (Value.int .u8) ?_)
  show(0:Int)=((N9[i]'hz).toNat:Int)
  rw[e0];rfl
 have h:=Lib.run_convert_whole (P:=prog) _ 61 5 9 underlying61 underlying5 underlying9 w 0 (bs N9) hb 128
 grind [N9,NQ]
end
section
open Go.Proofs.Tryz Go.RowKit Go.Maps
theorem J9 (b sb mb lo d w) (h:aD w b sb mb lo d) (hm:∀s∈d.stand,s.length<=128):am! 26 #[b] w fun e w'=>e=.returned d.stand.flatten/\NP [] w w':=by
 obtain⟨p,c,c0,c1,c2,c3,c4,c5,h1,h2,h3⟩:=h.qG
 obtain⟨wv,n,o,os,_⟩:=h
 have hj:=LA sb d.stand w os h1 h2 hm
 clear os o
 go_enter func26,ntmps26
 go_wp2_with fail
 refine hj.mono ?_;rintro e w1 ⟨rfl,k1⟩
 go_wp2_with fail
 go_ret
 simp_all
end
section
open Go.Proofs.Tryz Go.ChangeShapes Go.WideShapes Go.ChangeAt Go.RowKit Go.Deep
def bS {α:Type} (k:Nat) (R:World->List Value->α->Prop) (w:World) (v:Value) (l:List α) (lo hi:Nat):Prop:=
 (l=[]/\∃a c,v=.slice a 0 c)\/
 ∃b off c,v=.slice (some ⟨b,off,none⟩) l.length c/\(∀i (h:i<l.length),∃cs,cs.length=k/\R w cs l[i]/\∀j u,cs[j]? =some u->w.cell? ⟨b,off+(i*k+j),none⟩=some u)/\lo<=b/\b<hi/\hi<=w.heap.size/\l≠[]/\l.length<=c/\c<=maxLen
section
variable {α:Type} {k:Nat} {R:World->List Value->α->Prop} {w w':World} {v:Value} {l:List α} {lo hi:Nat}
theorem bS.kept {S} (h:bS k R w v l lo hi) (kk:NP S w w') (hS:∀x∈S,x<lo\/hi<=x) (hR:∀cs a,R w cs a->R w' cs a):bS k R w' v l lo hi:=by
 rcases h with h|⟨b,off,c,h1,h2,h3,h4,h5,h6,h7,h8⟩
 .exact Or.inl h
 .refine Or.inr ⟨b,off,c,h1,fun i hi=>?_,h3,h4,Nk h5 kk.size,h6,h7,h8⟩
  have hb:b∉S:=fun hb=>by grind
  obtain⟨cs,e1,e2,e3⟩:=h2 i hi
  refine⟨cs,e1,hR _ _ e2,fun j u hu=>?_⟩
  rw[kk.cell (by grind) hb]
  grind
theorem bS.shape (h:bS k R w v l lo hi):∃p c,v=.slice p l.length c:=by
 exact M69
theorem adJ {A:Prop}(h:A:=by
 rcases h with⟨rfl,a,c,rfl⟩|⟨b,off,c,rfl,_,_,_,_,_,h7,h8⟩
 .exact Nb _
 .omega):A:=h
theorem bS.len (h:bS k R w v l lo hi):l.length<=maxLen:=by
 exact adJ
theorem bS.at_ {p:Option Addr} {n c:Nat} (h:bS k R w (p,n,c) l lo hi) (i:Nat) (hi':i<l.length):
  ∃b off cs,p=some ⟨b,off,none⟩/\cs.length=k/\R w cs l[i]/\(∀j u,cs[j]? =some u->w.cell? ⟨b,off+(i*k+j),none⟩=some u)/\lo<=b/\b<hi/\hi<=w.heap.size:=by
 rcases h with⟨rfl,_⟩|⟨b,off,c',e,h2,h3,h4,h5,_,h6,h7⟩
 .simp at hi'
 grind
end
end
open Go.Proofs.Tryz Go.RowKit Go.Maps
variable {w:World} {b lo r:Nat} {d:DK} {x0 x1 x2 x3 x4:Value} {t:TypeId}
theorem aD.L2 {sb mb} (h:aD w b sb mb lo d):b<lo/\lo<=w.heap.size/\d.stand.length<=8192:=by
 have⟨_,_,_,_,_,_,_,_,_,_,h5,h6,h7,h8,_⟩:=h
 exact⟨h5,h6,h8⟩
theorem Jh {p:List UInt8->Prop} (st:List (List UInt8)) (ws:List (Nat×List UInt8)) (keep:Nat->Bool) (hs:∀s∈st,p s) (hw:∀x∈ws,p x.2) (n:Nat) (hn:n<=ws.length):∀s∈sk st ws keep n,p s:=by
 induction n with
 |zero=>exact hs
 |succ n ih=>
  grind [tP]
def ky (l:List (List UInt8)):List Value:=l.map fun s=>Value.string (bs s)
theorem uy (l i) (h:i<l.length):(ky l)[i]? =some (.string (bs l[i])):=by simp[ky,h]
theorem Aj (l):∀u∈PG l,u.oneCell'=true:=by
 induction l with
 |nil=>intro u hu;cases hu
 |cons a l ih=>
  have e:PG (a::l)=Value.int .i64 (a.1:Int)::Value.string (bs a.2)::PG l:=rfl
  rw[e];intro u hu
  simp only[List.mem_cons]at hu
  rcases hu with rfl|rfl|hu
  .rfl
  .rfl
  grind
def eK (w:World) (r lo:Nat) (d:DK):Prop:=
 ∃sv wv,ae w r #[sv,wv,d.fuse,(d.ops:Int),.bool d.down] 134/\
  w.ownsRow lo 9 1 sv d.stand.length (ky d.stand)/\w.ownsRow lo 208 2 wv d.waits.length (PG d.waits)/\
  lo<=w.heap.size/\lo<=r/\1<=d.stand.length/\d.stand.length<=8192/\(Lit.int .i64 d.fuse).wf=true/\d.ops<=100000/\d.waits.length<=20000
theorem ae.c5 (h:ae w b #[x0,x1,x2,x3,x4] t):w.cell? b=some x0/\w.cell? (aa b 1)=some x1/\w.cell? (aa b 2)=some x2/\w.cell? (aa b 3)=some x3/\w.cell? (aa b 4)=some x4:=
 ⟨h.cell 0 b?,h.cell 1 b?,h.cell 2 b?,h.cell 3 b?,h.cell 4 b?⟩
theorem ae.z5 (h:ae w b #[x0,x1,x2,x3,x4] t):w.frozen? b=false/\w.frozen? (aa b 1)=false/\w.frozen? (aa b 2)=false/\w.frozen? (aa b 3)=false/\w.frozen? (aa b 4)=false:=
 ⟨h.free 0,h.free 1,h.free 2,h.free 3,h.free 4⟩
theorem eK.mz {w:World} {r lo:Nat} {d:DK} (h:eK w r lo d):∃p c p' c',w.cell? r=some (.slice p d.stand.length c)/\w.cell? (aa r 1)=some (.slice p' d.waits.length c')/\w.cell? (aa r 2)=d.fuse/\w.cell? (aa r 3)=(d.ops:Int)/\w.cell? (aa r 4)=some (.bool d.down)/\
  w.ownsRow lo 9 1 (p,d.stand.length,c) d.stand.length (ky d.stand)/\w.ownsRow lo 208 2 (p',d.waits.length,c') d.waits.length (PG d.waits)/\1<=d.stand.length/\d.stand.length<=8192/\d.ops<=100000/\d.waits.length<=20000/\lo<=w.heap.size:=by
 obtain⟨sv,wv,o,hs,hw,h1,h2,h3,h4,h5,h6,h7⟩:=h
 obtain⟨p,c,rfl⟩:=ah hs
 obtain⟨p',c',rfl⟩:=ah hw
 obtain⟨c0,c1,c2,c3,c4⟩:=o.c5
 grind
theorem eK.own (h:eK w r lo d):∃v0 v1,ae w r #[v0,v1,d.fuse,(d.ops:Int),.bool d.down] 134:=by
 have⟨sv,wv,o,_⟩:=h;exact⟨sv,wv,o⟩
theorem eK.kept {S w'} (h:eK w r lo d) (k:NP S w w') (hS:∀x∈S,x<lo):eK w' r lo d:=by
 have⟨sv,wv,o,hsr,Sr,h1,h2,r3⟩:=h
 exact⟨sv,wv,k.own o (fun hx=>by have:=hS r hx;omega),ax hsr k hS,ax Sr k hS,Nk h1 k.size,h2,r3⟩
theorem M91 {A:Prop}(h:A:=by
 go_enter func128,ntmps128
 go_wp2_with fail
 go_ret2
 exact⟨rfl,rfl⟩):A:=h
theorem EJ (r lo d i w) (h:eK w r lo d) (OF:OM d i≠0):am! 128 #[r,i] w fun e w'=>e=.returned (.tuple #[.string ⟨#[]⟩,(OM d i:Int)])/\w=w':=by
 have⟨p,c,p',c',c0,c1,c2,c3,c4,hs,hw,h1,h2,h3,h4,h5⟩:=h.mz
 unfold OM at*
 clear hs hw h
 generalize d.stand.length=n at*
 cases hd:d.down
 .rw[hd]at c4 OF
  simp only[Bool.false_eq_true,if_false]at OF ⊢
  clear hd
  rcases(by omega:i<0\/(0<=i/\i<n)\/(0<=i/\¬(i<n)))with g1|⟨g1,g2⟩|⟨g1,g2⟩
  .rw[if_pos (Or.inl g1)]
   clear OF
   exact M91
  .rw[if_neg a?]at OF
   exact absurd rfl OF
  .rw[if_pos (Or.inr a?)]
   clear OF
   exact M91
 .rw[hd]at c4
  simp only[if_true]
  clear hd OF
  exact M91
def Qa (d:DK) (i k:Nat):List UInt8:=(eJ (d.waits.take k) i).getD (d.stand.getD i [])
theorem yj (d i k) (h:k<d.waits.length):Qa d i (k+1)=if d.waits[k].1=i then d.waits[k].2 else Qa d i k:=by
 unfold Qa
 rw[MI h,iH]
 split<;>rfl
theorem Aq (d i):Qa d i d.waits.length=seen d i:=by unfold Qa seen;rw[MU]
theorem M96 {A:Prop}(h:A:=by
 go_wp2_with fail
 go_round
 case rel=>exact⟨j+1,Of.out,j?,by rw[HS.out]⟩
 case measure=>(have hh:=Of.out;simp[intOf];omega)):A:=h
theorem Lc (r lo d i w) (h:eK w r lo d) (hd:d.down=false) (hi:i<d.stand.length):am! 128 #[r,(i:Int)] w fun e w'=>e=.returned (.tuple #[.string (bs (seen d i)),(0:Int)])/\w=w':=by
 have⟨p,c,p',c',c0,c1,c2,c3,c4,hs,hw,h1,h2,h3,h4,h5⟩:=h.mz
 rw[hd]at c4
 have⟨gs,cs,es,TI,UK,_,_,hsc⟩:=cU hs a?
 have Ou:=hsc i _ (uy d.stand i hi)
 injection es with es _ ecs
 subst es
 have e0:bs d.stand[i]=bs (Qa d i 0):=by
  unfold Qa
  rw[List.take_zero,sZ,Nx,MZ hi];rfl
 rw[e0]at Ou
 have i1:(i:Int)<d.stand.length:=a?
 have Oo:=fun k hk=>yj d i k hk
 have OY:=tK Oo
 have P8:=tK (Aq d i)
 have HW:=tK hw
 clear Oo hs hw h hsc e0 hi hd
 generalize d.stand.length=n at*
 go_enter func128,ntmps128
 go_wp2_with fail
 go_loop [6,7] (fun s k=>∃j:Nat,j<=d.waits.length/\k=(j:Int)/\s=.string (bs (Qa d i j))) (fun _ k=>d.waits.length-(intOf k).toNat)
 case atStart=>exact⟨0,a?,rfl,rfl⟩
 case round=>
  obtain⟨j,hj,rfl,rfl⟩:=hrel
  by_cases NV:j<d.waits.length
  .obtain⟨ai,asj,Q9,hq1,Wu⟩:∃(ai:Nat) (asj:List UInt8),Qa d i (j+1)=(if ai=i then asj else Qa d i j)/\(PG d.waits)[j*2]? =(ai:Int)/\(PG d.waits)[j*2+1]? =asj:=
    ⟨_,_,OY.out j NV,(nc d.waits j NV).1,(nc d.waits j NV).2⟩
   have⟨gw,cw,ew,_,_,_,_,hwc⟩:=cU HW.out a?
   have w1:=hwc _ _ hq1
   have w2:=hwc _ _ Wu
   injection ew with ew _ ecw
   subst ew
   have i2:(j:Int)<d.waits.length:=a?
   have Of:=tK NV
   clear hq1 Wu hwc
   by_cases he:ai=i
   .subst he
    rw[if_pos rfl]at Q9
    have HS:=tK Q9
    clear Q9
    generalize Qa d ai j=S0 at*
    exact M96
   .have Pb:((ai:Int)==(i:Int))=false:=y?
    rw[if_neg he]at Q9
    have HS:=tK Q9
    clear he Q9
    generalize Qa d i j=S0 at*
    exact M96
  .obtain rfl:j=d.waits.length:=a?
   rw[P8.out]
   go_wp2_with fail
   go_ret2
   exact⟨rfl,rfl⟩
theorem Mj (r lo d w) (h:eK w r lo d) (ho:d.ops<100000):am! 211 #[r] w fun e w'=>e=.returned (.bool (decide (d.fuse=0)))/\eK w' r lo (dq d)/\NP [r] w w':=by
 have hf:(Lit.int .i64 d.fuse).wf=true:=by have⟨_,_,_,_,_,_,_,_,_,h6,_⟩:=h;exact h6
 have hfb: -9223372036854775808<=d.fuse/\d.fuse<=9223372036854775807:=by
  simp only[Lit.wf,No,decide_eq_true_eq]at hf
  exact⟨by have:=hf.1;exact this,by have:=hf.2;exact this⟩
 have Oy:∀(w':World),NP [r] w w'->(∀v0 v1,ae w r #[v0,v1,d.fuse,(d.ops:Int),.bool d.down] 134->ae w' r #[v0,v1,.int .i64 (dq d).fuse,.int .i64 (dq d).ops,.bool (dq d).down] 134)->eK w' r lo (dq d):=by
  intro w' k hw'
  have⟨sv,wv,o,hs,hw,h1,h2,h3,h4,h5,h6,h7⟩:=h
  refine⟨sv,wv,hw' _ _ o,bI hs k o d?,bI hw k o d?,Nk h1 k.size,h2,h3,h4,?_,?_,h7⟩
  .show(Lit.int .i64 (if 0<d.fuse then d.fuse-1 else d.fuse)).wf=true
   split
   .exact WalkArith.wf_i64 a?
   .exact h5
  .show d.ops+1<=100000;omega
 have⟨sv,wv,o⟩:=h.own
 have⟨c0,c1,c2,c3,c4⟩:=o.c5
 have z:=o.z5
 have HF:=tK Oy
 have⟨st,wa,fu,op,dn⟩:=d
 simp only at*
 obtain⟨q,hq⟩:∃q,q=op+1:=⟨_,rfl⟩
 have Sq:((op:Int)+1)=(q:Int):=a?
 have HQ:=tK hq
 have aem:(op:Int)<=100000:=a?
 clear hq ho h hf Oy
 rcases(by omega:fu=0\/fu<0\/0<fu)with rfl|hp|hp
 .go_enter func211,ntmps211
  go_wp2_with fail
  go_ret
  have kk:=((NP.refl [r] w).setCell (p:=(aa r 3)) (Or.inl b?) (q:Int)).setCell (p:=(aa r 4)) (Or.inl b?) true
  refine⟨rfl,HF.out _ kk (fun v0 v1 o=>?_),kk⟩
  show ae _ r #[v0,v1,(0:Int),((op+1:Nat):Int),true] _
  rw[<-HQ.out]
  exact(o.set 3 _).set 4 _
 .have Pb:(fu==0)=false:=y?
  have hdc:decide (fu=0)=false:=MS a?
  rw[hdc]
  go_enter func211,ntmps211
  go_wp2_with fail
  go_ret
  have kk:=(NP.refl [r] w).setCell (p:=(aa r 3)) (Or.inl b?) (q:Int)
  have ef:(dq ⟨st,wa,fu,op,dn⟩).fuse=fu:=by show(if 0<fu then fu-1 else fu)=_;rw[if_neg a?]
  have ed:(dq ⟨st,wa,fu,op,dn⟩).down=dn:=by show(if fu=0 then true else dn)=_;rw[if_neg a?]
  refine⟨rfl,HF.out _ kk (fun v0 v1 o=>?_),kk⟩
  rw[ef,ed]
  show ae _ r #[v0,v1,fu,((op+1:Nat):Int),.bool dn] _
  rw[<-HQ.out]
  exact o.set 3 _
 .have Pb:(fu==0)=false:=y?
  have hdc:decide (fu=0)=false:=MS a?
  rw[hdc]
  go_enter func211,ntmps211
  go_wp2_with fail
  go_ret
  have kk:=((NP.refl [r] w).setCell (p:=(aa r 3)) (Or.inl b?) (q:Int)).setCell (p:=(aa r 2)) (Or.inl b?) (fu-1:Int)
  have ef:(dq ⟨st,wa,fu,op,dn⟩).fuse=fu-1:=by show(if 0<fu then fu-1 else fu)=_;rw[if_pos hp]
  have ed:(dq ⟨st,wa,fu,op,dn⟩).down=dn:=by show(if fu=0 then true else dn)=_;rw[if_neg a?]
  refine⟨rfl,HF.out _ kk (fun v0 v1 o=>?_),kk⟩
  rw[ef,ed]
  show ae _ r #[v0,v1,(fu-1:Int),((op+1:Nat):Int),.bool dn] _
  rw[<-HQ.out]
  exact(o.set 3 _).set 2 _
theorem JI (r lo d w) (h:eK w r lo d) (hm:∀s∈d.stand,s.length<=128):am! 136 #[r] w fun e w'=>e=.returned d.stand.flatten/\w=w':=by
 have⟨p,c,p',c',c0,c1,c2,c3,c4,hs,hw,h1,h2,h3,h4,h5⟩:=h.mz
 have⟨gs,cs,es,TI,UK,_,_,hsc⟩:=cU hs a?
 injection es with es _ ecs
 subst es
 have Ou:=fun k hk=>hsc k _ (uy d.stand k hk)
 have Oz:∀k,(hk:k<d.stand.length)->bs (PL d.stand k)++bs d.stand[k]=bs (PL d.stand (k+1)):=fun k hk=>by
  rw[aw];unfold PL;rw[MI hk,Nv];simp
 have Oy:PL d.stand d.stand.length=d.stand.flatten:=by unfold PL;rw[MU]
 have hlen:∀k,(PL d.stand k).length<=1048576:=fun k=>by
  unfold PL
  have h6:∀l:List (List UInt8),(∀s∈l,s.length<=128)->l.flatten.length<=128*l.length:=by
   intro l hl
   induction l with
   |nil=>simp
   |cons a l ih=>
    rw[List.flatten_cons,tN,Nj]
    have:=ih (fun s hs=>hl s (Nz _ hs))
    have:=hl a (MY)
    omega
  have:=h6 (d.stand.take k) (fun s hs=>hm s (NJ hs))
  have:=List.length_take_le' k d.stand
  omega
 have⟨HC,QK,Rv,OZ⟩:=gh! Ou Oz Oy hlen
 have HN:Hid (d.stand.length<=8192):=h2
 clear Ou Oz Oy hlen hs hw h hsc hm
 go_enter func136,ntmps136
 go_wp2_with fail
 go_loop [3,4] (fun s k=>∃j:Nat,j<=d.stand.length/\k=(j:Int)/\s=.string (bs (PL d.stand j))) (fun _ k=>d.stand.length-(intOf k).toNat)
 case atStart=>exact⟨0,a?,rfl,rfl⟩
 case round=>
  obtain⟨j,hj,rfl,rfl⟩:=hrel
  by_cases NV:j<d.stand.length
  .have cj:=HC.out j NV
   have hcj:=QK.out j NV
   have Z4:=OZ.out (j+1)
   have Rh:(bs (PL d.stand j)).size<=1048576:=by rw[NQ];exact OZ.out j
   have Qc:(bs (PL d.stand j)).size+(bs d.stand[j]).size<=1048576:=by
    have:=congrArg ByteArray.size hcj
    rw[ByteArray.size_append,NQ (PL d.stand (j+1))]at this
    omega
   have Qx:(bs d.stand[j]).size<=1048576:=a?
   have i2:(j:Int)<d.stand.length:=a?
   have⟨Of,HCJ⟩:=f? NV hcj
   clear Z4 hcj
   generalize bs d.stand[j]=SJ at*
   generalize bs (PL d.stand j)=S0 at*
   go_wp2_with fail
   go_round
   case rel=>exact⟨j+1,Of.out,j?,by rw[<-HCJ.out]⟩
   case measure=>(have hh:=Of.out;simp[intOf];omega)
  .obtain rfl:j=d.stand.length:=a?
   rw[Rv.out]
   go_wp2_with fail
   go_ret
   exact⟨rfl,rfl⟩
end
section
section
open Go.Proofs.Tryz Go.RowKit Go.Maps
variable {d:DK} {b sb lo:Nat} {w w':World}
theorem Ny:type_of% @List.getElem_map:=@List.getElem_map
theorem Nu:type_of% @List.length_pos_iff:=@List.length_pos_iff
theorem MW:type_of% @List.append_assoc:=@List.append_assoc
theorem MQ:type_of% @List.length_drop:=@List.length_drop
theorem Do:∃i,prog.info? 208=some i/\i.zero=some (.agg #[(0:Int),.string ⟨#[]⟩])/\i.size=2/\i.bytes=24:=by
 have hi:(prog.info? 208).map (fun i=>(i.zero,i.size,i.bytes))=some (some (.agg #[(0:Int),.string ⟨#[]⟩]),2,24):=c?
 exact Yh
theorem M63 {A:Prop}(h:A:=by
 go_enter func140,ntmps140
 go_wp2_with fail
 go_ret
 exact⟨rfl,rfl⟩):A:=h
theorem Cz (r lo d i) (s:ByteArray) (w) (h:eK w r lo d) (OF:OM d i≠0):am! 140 #[r,i,.string s] w fun e w'=>e=(OM d i:Int)/\w=w':=by
 have⟨p,c,p',c',c0,c1,c2,c3,c4,hs,hw,h1,h2,h3,h4,h5⟩:=h.mz
 unfold OM at*
 clear hs hw h
 generalize d.stand.length=n at*
 cases hd:d.down
 .rw[hd]at c4 OF
  simp only[Bool.false_eq_true,if_false]at OF ⊢
  clear hd
  rcases(by omega:i<0\/(0<=i/\i<n)\/(0<=i/\¬(i<n)))with g1|⟨g1,g2⟩|⟨g1,g2⟩
  .rw[if_pos (Or.inl g1)]
   clear OF
   exact M63
  .rw[if_neg a?]at OF
   exact absurd rfl OF
  .rw[if_pos (Or.inr a?)]
   clear OF
   exact M63
 .rw[hd]at c4
  simp only[if_true]
  clear hd OF
  exact M63
theorem AI (r lo d i) (s:ByteArray) (w) (h:eK w r lo d) (h0:OM d i=0) (hs:s.size≠128):am! 140 #[r,i,.string s] w fun e w'=>e=(1:Int)/\w=w':=by
 have⟨p,c,p',c',c0,c1,c2,c3,c4,RH,hw,h1,h2,h3,h4,h5⟩:=h.mz
 have hx:((s.size:Int)==128)=false:=y?
 unfold OM at h0
 cases hd:d.down
 .rw[hd,if_neg b?]at h0
  have hi:0<=i/\i<d.stand.length:=by
   by_cases hc:i<0\/(d.stand.length:Int)<=i
   .rw[if_pos hc]at h0;omega
   .omega
  have⟨g1,g2⟩:=hi
  rw[hd]at c4
  clear hs RH hw h h0 hd
  generalize d.stand.length=n at*
  exact M63
 .rw[hd,if_pos rfl]at h0;omega
theorem JH (r lo:Nat) (d:DK) (i:Nat) (s:List UInt8) (w:World) (h:eK w r lo d) (hd:d.down=false) (hi:i<d.stand.length) (hs:s.length=128) (ho:d.ops<100000) (WH:d.waits.length<20000):
  am! 140 #[r,(i:Int),s] w fun e w'=>e=(if d.fuse=0 then 90 else 0:Int)/\eK w' r lo (cW d i s)/\NP [r] w w':=by
 have hz:(bs s).size=128:=by rw[NQ,hs]
 have⟨i0,q0,q1,q2,q3⟩:=Do
 have H:=tK h
 have⟨sv,wv,o⟩:=h.own
 have zo:=o.free 1
 have⟨p,c,p',c',c0,c1,c2,c3,c4,hsr,Sr,h1,h2,h3,h4,h5⟩:=h.mz
 rw[hd]at c4
 have i1:(i:Int)<d.stand.length:=a?
 have rlt:=o.lt
 have HO:Hid (d.ops<100000):=ho
 have HWL:Hid (d.waits.length<20000):=WH
 have hem:=bJ w w 208 2 (MG _)
 have acF:=MH Sr (.cells #[] 208)
 have oA:=o.alloc (.cells #[] 208)
 have r3:0+d.waits.length<=maxLen:=m?
 have r4:(0+d.waits.length)*24<=140737488355328:=a?
 have r5:d.waits.length+1<=maxLen:=m?
 have r6:(d.waits.length+1)*24<=140737488355328:=a?
 have hcut:=fun W (hW:eK W r lo ⟨d.stand,d.waits++[(i,s)],d.fuse,d.ops,d.down⟩)=>Mj r lo _ W hW ho
 have Oy:∀W v,NP [r] w W->W.ownsRow w 208 2 v (d.waits.length+1) (PG d.waits++[.int .i64 i,.string (bs s)])->(∀v0 v1,ae w r #[v0,v1,d.fuse,(d.ops:Int),.bool d.down] 134->ae W r #[v0,v,d.fuse,(d.ops:Int),.bool d.down] 134)->eK W r lo ⟨d.stand,d.waits++[(i,s)],d.fuse,d.ops,d.down⟩:=by
  intro W v k hv ho2
  have⟨sv,wv,o,hs,hw,h1,h2,h3,h4,h5,h6,h7⟩:=h
  refine⟨sv,v,ho2 _ _ o,bI hs k o d?,?_,Nk h1 k.size,h2,h3,h4,h5,h6,?_⟩
  .have e1:(d.waits++[(i,s)]).length=d.waits.length+1:=b?
   show W.ownsRow lo _ 2 v (d.waits++[(i,s)]).length (PG (d.waits++[(i,s)]))
   rw[e1,qD]
   exact aF hv h1
  .show(d.waits++[(i,s)]).length<=20000
   rw[tN,Nq];omega
 have Rv:=tK Oy
 clear h hs Sr Oy
 have key:∀(fb:Bool) (fc:Int),decide (d.fuse=0)=fb->(if d.fuse=0 then(90:Int)else 0)=fc->(fb=true/\fc=90\/fb=false/\fc=0)->
   am! 140 #[r,(i:Int),s] w fun e w'=>e=fc/\eK w' r lo (cW d i s)/\NP [r] w w':=by
  intro fb fc hfb UF Wg
  rw[hfb]at hcut
  have aeY:=tK hcut
  clear hfb UF hcut
  rcases Wg with⟨rfl,rfl⟩|⟨rfl,rfl⟩
  all_goals
   go_enter func140,ntmps140
   go_wp2_with (at_builtin;go_must (refine oL rfl (.tmp 26) (.tmp 30) 132 rfl w lo 208 i0 (.agg #[(0:Int),.string ⟨#[]⟩]) 2 24 underlying132 q0 q1 q2 q3 rfl d? _ _ _ rfl hem _ _ _ rfl acF (Aj _) r3 r4 b? ?_))
   intro v5 w5 o3 RQ aeS
   have k5:NP [] w w5:=((NP.refl [] w).alloc _).grown RQ (fun g hg=>by
    have:w.heap.size=g:=y!
    exact Or.inr a?)
   have hs5:=k5.size
   clear RQ aeS hem acF oA c0 c1 c2 c3 c4
   go_wp2_with (at_builtin;go_must (refine MT _ rfl (.tmp 31) (.tmp 35) 132 rfl w 208 i0 (.agg #[(0:Int),.string ⟨#[]⟩]) 2 24 underlying132 q0 q1 q2 q3 rfl d? _ _ _ rfl (MH o3 _) w5 1 1 [.int .i64 i,.string (bs s)] rfl rfl ?_ ?_ r5 r6 ?_ ?_))
   .exact World.news_of_block (Ns w5 _)
   .intro u hu;simp at hu;rcases hu with rfl|rfl<;>rfl
   .simp;omega
   intro v6 w6 o6 Po _ _
   have k6:NP [] w w6:=(k5.alloc _).grown Po (fun g hg=>Or.inr (ML o3 g hg).1)
   obtain⟨p6,c6,rfl⟩:=ah o6
   have or6:=k6.own o b?
   have z6:=or6.free 1
   have⟨y0,y1,_⟩:=or6.c5
   have kk:=(k6.mono (T:=[r]) b?).setCell (p:=(aa r 1)) (Or.inl b?) (p6,d.waits.length+1,c6)
   have o7:=bT o6 (p:=(aa r 1)) (aB o6 or6 d?) (p6,d.waits.length+1,c6)
   have hR:=Rv.out _ (p6,d.waits.length+1,c6) kk o7 (fun v0 v1 o=>(k6.own o b?).set 1 _)
   have ae3:=tK hR
   clear Po o3 o6 o7 hR k5
   go_wp2_with fail
   refine(aeY.out _ ae3.out).mono ?_;rintro e w8 ⟨rfl,r8,k8⟩
   go_wp2_with fail
   go_ret
   exact⟨rfl,r8,kk.trans k8⟩
 by_cases hf:d.fuse=0
 .exact key true _ (MV hf) rfl (Or.inl ⟨rfl,if_pos hf⟩)
 .exact key false _ (MS hf) rfl (Or.inr ⟨rfl,if_neg hf⟩)
def Pc (d:DK) (i:Int):List UInt8:=if OM d i=0 then seen d i.toNat else[]
def OW (d:DK) (i:Int) (s:List UInt8):Int:=if OM d i≠0 then OM d i else if s.length≠128 then 1 else if d.fuse=0 then 90 else 0
def OJ (d:DK) (i:Int) (s:List UInt8):DK:=if OM d i=0/\s.length=128 then cW d i.toNat s else d
def qv (d:DK):Int:=if d.down=true then 90 else if d.fuse=0 then 90 else 0
def iO (d:DK):DK:=if d.down=true then d else if d.fuse=0 then dq d else kX (dq d) (fun _=>true)
structure dS (d:DK):Prop where
 fine:∀x∈d.waits,x.1<d.stand.length/\x.2.length=128
 all:∀s∈d.stand,s.length=128
theorem dS.op (h:dS d):dS (dq d):=⟨h.fine,h.all⟩
theorem dh {d i} (h:OM d i=0):d.down=false/\0<=i/\i<d.stand.length:=by
 unfold OM at h
 grind
theorem dS.write (h:dS d) (i s):dS (OJ d i s):=by
 unfold OJ
 split
 .rename_i hc
  have⟨_,h1,h2⟩:=dh hc.1
  refine⟨fun x hx=>?_,h.all⟩
  have hx:x∈d.waits++[(i.toNat,s)]:=hx
  rw[Na]at hx
  rcases hx with hx|hx
  .exact h.fine x hx
  .have hx:x=(i.toNat,s):=h?
   subst hx
   exact⟨by show i.toNat<d.stand.length;omega,hc.2⟩
 .exact h
theorem dS.settle (h:dS d) (k:Nat->Bool):dS (kX d k):=
 ⟨(fun x hx=>by cases hx),Jh (p:=fun s=>s.length=128) _ _ _ h.all (fun x hx=>(h.fine x hx).2) _ (MG _)⟩
theorem dS.flush (h:dS d):dS (iO d):=by
 unfold iO
 split
 .exact h
 .split
  .exact h.op
  .exact h.op.settle _
theorem dS.new (n):dS (QP (List.replicate n N9)):=by
 refine⟨(fun x hx=>by cases hx),fun s hs=>?_⟩
 have:=List.eq_of_mem_replicate hs
 grind [N9]
structure LX (W0 w:World) (b sb mb lo:Nat) (d:DK):Prop where
 disk:aD w b sb mb lo d
 kept:NP [] W0 w
 hb:W0.heap.size<=b
 hsb:W0.heap.size<=sb
 hmb:W0.heap.size<=mb
 hlo:W0.heap.size<=lo
 fit:dS d
section
variable {W0 w:World} {b sb mb lo:Nat} {d:DK}
theorem Mw (n:Nat) (w) (h1:1<=n) (h2:n<=8192):
  am! 9 #[(n:Int)] w fun e w'=>∃b sb mb lo,e=.returned (.tuple #[.pointer (some ⟨b,0,none⟩),(0:Int)])/\LX w w' b sb mb lo (QP (List.replicate n N9)):=
 (Mq n w h1 h2).mono fun e w' ⟨b,sb,mb,lo,he,hD,z1,z2,z3,k⟩=>⟨b,sb,mb,lo,he,hD,k,z3,z1,z2,(by have:=aD.L2 hD;omega),dS.new n⟩
end
def vR (b sb mb lo r:Nat) (w w':World):Prop:=
 w'.os=w.os/\w'.tape=w.tape/\w'.output=w.output/\w.heap.size<=w'.heap.size/\∀k,k<w.heap.size->k≠b->k≠sb->k≠mb->k≠r->(k<lo\/∀cs f,w.heap[k]? ≠some (.cells cs 206 f))->w'.heap[k]? =w.heap[k]?
theorem BK.both {mb} (h:BK b sb mb lo w w') (r):vR b sb mb lo r w w':=
 ⟨h.1,h.2.1,h.2.2.1,h.2.2.2.1,fun k hk e1 e2 e3 _ e4=>h.2.2.2.2 k hk e1 e2 e3 e4⟩
theorem NP.both {mb r} (h:NP [r] w w'):vR b sb mb lo r w w':=
 ⟨h.os,h.tape,h.output,h.size,fun k hk e1 e2 e3 e5 _=>h.block k hk (by simpa using e5)⟩
section
variable {W0 w:World} {b sb mb lo r rlo:Nat} {d rd:DK}
theorem eK.kept0 (h:eK w r rlo rd) (k:NP [] w w'):eK w' r rlo rd:=h.kept k (fun x hx=>by cases hx)
end
end
section
open Go.Proofs.Tryz Go.RowKit
variable {w:World} {b:Nat} {t:TypeId}
def NT:Nat->Nat->List UInt8
 |_,0=>[]
 |n,k+1=>UInt8.ofNat n::NT (n/256) k
theorem ak (n k):(NT n k).length=k:=by
 induction k generalizing n with
 |zero=>rfl
 |succ k ih=>simp[NT,ih]
theorem CT (n k):NT n (k+1)=NT n k++[UInt8.ofNat (n/256^k)]:=by
 induction k generalizing n with
 |zero=>simp[NT]
 |succ k ih=>
  rw[NT,ih (n/256),NT,Nat.div_div_eq_div_mul,Nat.pow_succ,Nat.mul_comm 256]
  rfl
def fk (l:List UInt8):Array Value:=(l.map fun b=>Value.int .u8 (b.toNat:Int)).toArray
theorem qW (l):(fk l).size=l.length:=by simp[fk]
theorem BE (l i) (c:UInt8):(fk l).setIfInBounds i (.int .u8 (c.toNat:Int))=fk (l.set i c):=by
 apply Array.toList_inj.1
 simp[fk]
theorem uS {l} (h:ae w b (fk l) t):Lib.Bytes w b 0 (bs l):=by
 intro i hi
 rw[NQ]at hi
 rw[Nat.zero_add,h.cell i (by rw[qW];exact hi)]
 simp only[fk,List.getElem_toArray,Ny]
 rfl
theorem Fg {n k i} (ho:ae w b (fk (NT n i++List.replicate (k-i) 0)) t) (NV:i<k):
  ae (w.setCell (aa b i) (.int .u8 ((n:Int)/2^(8*i)%256))) b (fk (NT n (i+1)++List.replicate (k-(i+1)) 0)) t:=by
 have h:=ho.set i (.int .u8 ((UInt8.ofNat (n/256^i)).toNat:Int))
 rw[BE]at h
 have e1:((UInt8.ofNat (n/256^i)).toNat:Int)=(n:Int)/2^(8*i)%256:=by
  rw[UInt8.toNat_ofNat']
  have:(2:Nat)^(8*i)=256^i:=by rw[Nat.pow_mul]
  rw[<-this]
  simp
 have e2:(NT n i++List.replicate (k-i) 0).set i (UInt8.ofNat (n/256^i))=NT n (i+1)++List.replicate (k-(i+1)) 0:=by
  obtain⟨d,hd⟩:∃d,k-i=d+1:=⟨k-i-1,a?⟩
  have hd':k-(i+1)=d:=a?
  rw[hd,hd',List.replicate_succ,CT,List.set_append_right _ _ (by rw[ak];exact MG _),ak,Nat.sub_self]
  simp
 rw[e1,e2]at h
 exact h
theorem qm (n k:Nat) (w) (_:n<2^64) (hk:k<=8):
  am! 173 #[.int .u64 n,(k:Int)] w fun e w'=>e=.returned (.string (bs (NT n k)))/\NP [] w w':=by
 have hi:(prog.info? 5).map (fun i=>(i.zero,i.size,i.bytes))=some (some (.int .u8 0),1,1):=c?
 have⟨i0,hi0,Rh,Qc,Qx⟩:=info_parts hi
 have RO:∀w:World,(Instr.makeSlice 61 (k:Int) (k:Int)).run prog w=.ok (w.heap.size,k,k) (w.alloc (.cells (fk (List.replicate k 0)) 5)):=fun w=>by
  have h:=run_make (P:=prog) w 61 5 i0 (.int .u8 0) underlying61 hi0 Rh .i64 .i64 k k a? a? (by rw[Qx];omega) a?
  rw[h,Qc]
  congr 3
  apply Array.toList_inj.1
  simp[fk,Value.cells,toList_madeCells_one]
 go_enter func173,ntmps173
 go_wp2_with fail
 go_loopw [11] (fun x wr=>∃i:Nat,i<=k/\x=(i:Int)/\ae wr w (fk (NT n i++List.replicate (k-i) 0)) 5/\NP [] w wr) (fun x _=>k-(intOf x).toNat)
 case atStart=>exact⟨0,Nb _,rfl,ae.new _ _ _,(NP.refl _ _).alloc _⟩
 case round=>
  obtain⟨i,hik,rfl,ho,hkp⟩:=hrel
  by_cases NV:i<k
  .have c0:∃v,wr.cell? (aa w i)=some v:=⟨_,ho.cell i (by rw[qW];simp[ak];omega)⟩
   have⟨v,c0⟩:=c0
   have z0:=ho.free i
   go_wp2_with fail
   go_roundw
   case rel=>exact⟨i+1,a?,j?,Fg ho NV,hkp.setCell (Or.inr (MG _)) _⟩
   case measure=>simp[intOf];omega
  .obtain rfl:i=k:=a?
   have hb:=uS ho
   have e:NT n i++List.replicate (i-i) 0=NT n i:=by rw[Nat.sub_self];simp
   rw[e]at hb
   have Tk:=Lib.run_convert_whole (P:=prog) wr 61 5 9 underlying61 underlying5 underlying9 _ _ _ hb i
   rw[NQ,ak]at Tk
   go_wp2_with fail
   go_ret
   exact⟨rfl,hkp⟩
theorem mL (n:Nat) (w) (hn:n<256):
  am! 174 #[.int .u8 n] w fun e w'=>e=.returned (.string (bs (NT n 1)))/\NP [] w w':=by
 have h:=fun w=>qm n 1 w a? a?
 go_enter func174,ntmps174
 go_wp2_with fail
 refine(h _).mono ?_;rintro e w1 ⟨rfl,hk⟩
 go_wp2_with fail
 go_ret
 exact⟨rfl,hk⟩
theorem mM (n:Nat) (w) (hn:n<65536):
  am! 100 #[.int .u16 n] w fun e w'=>e=.returned (.string (bs (NT n 2)))/\NP [] w w':=by
 have h:=fun w=>qm n 2 w a? a?
 go_enter func100,ntmps100
 go_wp2_with fail
 refine(h _).mono ?_;rintro e w1 ⟨rfl,hk⟩
 go_wp2_with fail
 go_ret
 exact⟨rfl,hk⟩
theorem eU (n w) (hn:n<4294967296):
  am! 102 #[(n,())] w fun e w'=>e=.returned (.string (bs (NT n 4)))/\NP [] w w':=by
 have h:=fun w=>qm n 4 w a? a?
 go_enter func102,ntmps102
 go_wp2_with fail
 refine(h _).mono ?_;rintro e w1 ⟨rfl,hk⟩
 go_wp2_with fail
 go_ret
 exact⟨rfl,hk⟩
theorem Hx (n:Nat) (w) (hn:n<18446744073709551616):
  am! 229 #[.int .u64 n] w fun e w'=>e=.returned (.string (bs (NT n 8)))/\NP [] w w':=by
 have h:=fun w=>qm n 8 w a? a?
 go_enter func229,ntmps229
 go_wp2_with fail
 refine(h _).mono ?_;rintro e w1 ⟨rfl,hk⟩
 go_wp2_with fail
 go_ret
 exact⟨rfl,hk⟩
def dj (l:List UInt8):List UInt8:=NT l.length 4++l
theorem tr (a) (s:ByteArray):bs a++s=bs (a++s.data.toList):=by
 apply ByteArray.ext;apply Array.toList_inj.1;simp[bs,ByteArray.data_append]
theorem iT (s:ByteArray):s.data.toList.length=s.size:=b?
theorem xl (s:ByteArray) (w) (hs:s.size<4294967296):
  am! 175 #[.string s] w fun e w'=>e=.returned (.string (bs (dj s.data.toList)))/\NP [] w w':=by
 have h:=fun w=>eU s.size w a?
 have hz:(bs (NT s.size 4)).size<=4:=X?
 have Oy:=tK (tr (NT s.size 4) s)
 go_enter func175,ntmps175
 go_wp2_with fail
 refine(h _).mono ?_;rintro e w1 ⟨rfl,hk⟩
 go_wp2_with fail
 go_ret
 refine⟨?_,hk⟩
 show Ending.returned (Value.string (bs (NT s.size 4)++s))=_
 rw[Oy.out,dj,iT]
def aP (w:World) (b:Nat) (l:List UInt8) (e:Int):Prop:=ae w b #[l,e] 290
theorem nz (s:ByteArray) (w):
  am! 188 #[.string s] w fun e w'=>e=.returned w.heap.size/\aP w' w s.data.toList 0/\NP [] w w':=by
 go_enter func188,ntmps188
 go_wp2_with fail
 go_ret
 refine⟨rfl,?_,(NP.refl _ _).alloc _⟩
 have h:=ae.new w #[.string s,(0:Int)] 290
 unfold aP
 rw[nW]
 exact h
def PD (e x:Int):Int:=if x=0 then e else x
theorem jf (e):PD e 0=e:=rfl
theorem s8 {e x} (h:x≠0):PD e x=x:=if_neg h
theorem xm (b:Nat) (l) (x e:Int) (w) (hR:aP w b l x):
  am! 242 #[b,e] w fun r w'=>r=.returned (.tuple #[])/\aP w' b [] (PD e x)/\NP [b] w w':=by
 have c0:w.cell? b=l:=ae.cell hR 0 b?
 have c1:w.cell? (aa b 1)=x:=ae.cell hR 1 b?
 have z0:=ae.free hR 0
 have z1:=ae.free hR 1
 by_cases hx:x=0
 .subst hx
  rw[jf]
  go_enter func242,ntmps242
  go_wp2_with fail
  go_end0
  refine⟨rfl,?_,((NP.refl _ _).setCell (Or.inl b?) _).setCell (Or.inl b?) _⟩
  have h2:=(ae.set hR 0 (.string {data:=#[]})).set 1 e
  unfold aP
  simpa[bs]using h2
 .have hd:(x==0)=false:=h?
  rw[s8 hx]
  go_enter func242,ntmps242
  go_wp2_with fail
  go_end0
  refine⟨rfl,?_,(NP.refl _ _).setCell (Or.inl b?) _⟩
  have h2:=ae.set hR 0 (.string {data:=#[]})
  unfold aP
  simpa[bs]using h2
def Ol (n:Int) (l:List UInt8) (x:Int):List UInt8×List UInt8×Int:=
 if x≠0 then([],l,x)else if n<0 then([],[],1)else if(l.length:Int)<n then([],[],10)else(l.take n.toNat,l.drop n.toNat,0)
theorem ny (b:Nat) (l) (x n:Int) (w) (hR:aP w b l x):
  am! 189 #[b,n] w fun r w'=>r=.returned (.string (bs (Ol n l x).1))/\aP w' b (Ol n l x).2.1 (Ol n l x).2.2/\NP [b] w w':=by
 have c0:w.cell? b=l:=ae.cell hR 0 b?
 have c1:w.cell? (aa b 1)=x:=ae.cell hR 1 b?
 have z0:=ae.free hR 0
 have z1:=ae.free hR 1
 by_cases hx:x=0
 .have hf:=fun e=>xm b l x e w hR
  subst hx
  simp only[jf]at hf
  by_cases hn:n<0
  .have ht:Ol n l 0=([],[],1):=by simp[Ol,hn]
   rw[ht]
   clear ht
   go_enter func189,ntmps189
   go_wp2_with fail
   refine(hf 1).mono ?_;rintro e w1 ⟨rfl,hR1,hk⟩
   go_wp2_with fail
   go_ret
   exact⟨rfl,hR1,hk⟩
  .have Wx:0<=n:=a?
   have PW:((bs l).size:Int)=l.length:=ak!
   by_cases hl:(l.length:Int)<n
   .have ht:Ol n l 0=([],[],10):=by simp[Ol,hn,hl]
    rw[ht]
    have Tg:((bs l).size:Int)<n:=by rw[PW];exact hl
    clear ht PW
    go_enter func189,ntmps189
    go_wp2_with fail
    refine(hf 10).mono ?_;rintro e w1 ⟨rfl,hR1,hk⟩
    go_wp2_with fail
    go_ret
    exact⟨rfl,hR1,hk⟩
   .have ht:Ol n l 0=(l.take n.toNat,l.drop n.toNat,0):=by simp[Ol,hn,hl]
    rw[ht]
    obtain⟨k,rfl⟩:=MM Wx
    have Tg:(k:Int)<=((bs l).size:Int):=by rw[PW];omega
    have Z4:k<=(bs l).size:=a?
    have e1:=tK (aY l 0 k)
    have e2:=tK (aY l k (bs l).size)
    clear ht PW hf
    go_enter func189,ntmps189
    go_wp2_with fail
    go_ret
    have e1':(bs l).extract 0 k=bs (l.take k):=by rw[e1.out];simp
    have e2':(bs l).extract k (bs l).size=bs (l.drop k):=by rw[e2.out,Nh (by rw[NQ];simp)]
    refine⟨?_,?_,(NP.refl _ _).setCell (Or.inl b?) _⟩
    .show Ending.returned (Value.string ((bs l).extract 0 k))=_
     rw[e1']
    .have h2:=ae.set hR 0 (.string ((bs l).extract k (bs l).size))
     unfold aP
     rw[e2']at h2 ⊢
     simpa using h2
 .have ht:Ol n l x=([],l,x):=by simp[Ol,hx]
  rw[ht]
  have hd:(x==0)=false:=h?
  have UH:(x != 0)=true:=h?
  clear ht
  go_enter func189,ntmps189
  go_wp2_with fail
  go_ret
  exact⟨rfl,hR,NP.refl _ _⟩
def RN:List UInt8->Nat
 |[]=>0
 |c::l=>c.toNat+256*RN l
theorem mO (l):RN l<256^l.length:=by
 induction l with
 |nil=>simp[RN]
 |cons c l ih=>
  have:=c.toNat_lt
  simp only[RN,Nj,Nat.pow_succ]
  omega
theorem FJ (l) (c:UInt8):RN (l++[c])=RN l+256^l.length*c.toNat:=by
 induction l with
 |nil=>simp[RN]
 |cons d l ih=>
  simp only[List.cons_append,RN,ih,Nj,Nat.pow_succ]
  rw[Nat.mul_add,<-Nat.mul_assoc,Nat.mul_comm 256 (256^l.length)];omega
theorem xA (n k):RN (NT n k)=n%256^k:=by
 induction k generalizing n with
 |zero=>simp[NT,RN,Nat.mod_one]
 |succ k ih=>
  have e:(UInt8.ofNat n).toNat=n%256:=by rw[UInt8.toNat_ofNat']
  simp only[NT,RN,ih]
  rw[e,Nat.pow_succ,Nat.mul_comm (256^k) 256,Nat.mod_mul]
def N6 (k:Nat) (l:List UInt8) (x:Int):Nat×List UInt8×Int:=(RN (Ol k l x).1,(Ol k l x).2)
theorem lZ (n l x):(Ol n l x).1.length<=n.toNat:=by
 unfold Ol;split
 .simp
 .split
  .simp
  .split
   .simp
   .simp;omega
theorem H6 (t j) (hj:j<t.length) (hl:t.length<=8) (hb:j<(bs t).size):
  bits .or .u64 (RN (t.take j)) (IntKind.u64.wrap (IntKind.u64.wrap ((bs t)[j].toNat:Int)*2^(8*j)))=(RN (t.take (j+1)):Int):=by
 have hc:(bs t)[j].toNat<256:=by have:=(bs t)[j].toNat_lt;omega
 have NV:=mO (t.take j)
 have hlj:(t.take j).length=j:=e?
 rw[hlj]at NV
 have hp:(256:Nat)^j=2^(8*j):=by rw[Nat.pow_mul]
 have hpj:(2:Nat)^(8*j)<=2^56:=Nat.pow_le_pow_right d? a?
 have hm:(bs t)[j].toNat*2^(8*j)<2^64:=by
  have:=Nat.mul_le_mul (Nat.le_of_lt_succ hc) hpj
  omega
 have hts:t.take (j+1)=t.take j++[t[j]]:=by rw[MI hj];rfl
 have hg:(bs t)[j]=t[j]:=rfl
 have w1:IntKind.u64.wrap ((bs t)[j].toNat:Int)=((bs t)[j].toNat:Int):=by simp[IntKind.wrap,IntKind.signed,IntKind.bits];omega
 have w2:IntKind.u64.wrap (((bs t)[j].toNat*2^(8*j):Nat):Int)=(((bs t)[j].toNat*2^(8*j):Nat):Int):=by
  have h:(((bs t)[j].toNat*2^(8*j):Nat):Int)<18446744073709551616:=a?
  have h0:(0:Int)<=(((bs t)[j].toNat*2^(8*j):Nat):Int):=a?
  generalize (((bs t)[j].toNat*2^(8*j):Nat):Int)=X at*
  simp[IntKind.wrap,IntKind.signed,IntKind.bits];omega
 have e:((bs t)[j].toNat:Int)*2^(8*j)=(((bs t)[j].toNat*2^(8*j):Nat):Int):=b?
 rw[w1,e,w2,bits_or_u64_nat _ _ a? a?]
 congr 1
 rw[hts,FJ,hlj,hp,Nat.or_comm,Nat.mul_comm (bs t)[j].toNat,<-Nat.two_pow_add_eq_or_of_lt a?,hg]
 omega
theorem je (b k:Nat) (l) (x:Int) (w) (hR:aP w b l x) (hk:k<=8):
  am! 243 #[b,(k:Int)] w fun r w'=>r=.returned (.int .u64 (N6 k l x).1)/\aP w' b (N6 k l x).2.1 (N6 k l x).2.2/\NP [b] w w':=by
 have ht:=ny b l x k w hR
 have UY:=lZ k l x
 unfold N6
 generalize Ol (k:Int) l x=t at*
 have hlen:t.1.length<=8:=a?
 have PW:((bs t.1).size:Int)=t.1.length:=ak!
 have aeM:(bs t.1).size=t.1.length:=ak!
 go_enter func243,ntmps243
 go_wp2_with fail
 refine ht.mono ?_;rintro e w1 ⟨rfl,hR1,OP⟩
 go_wp2_with fail
 go_loop [6,13] (fun v i=>∃j:Nat,j<=t.1.length/\i=(j:Int)/\v=.int .u64 (RN (t.1.take j))) (fun _ i=>t.1.length-(intOf i).toNat)
 case atStart=>exact⟨0,Nb _,rfl,rfl⟩
 case round=>
  obtain⟨j,hj,rfl,rfl⟩:=hrel
  by_cases NV:j<t.1.length
  .have Ox:=tK (H6 t.1 j NV hlen (by rw[NQ];exact NV))
   go_wp2_with fail
   go_round
   case rel=>exact⟨j+1,a?,j?,by rw[<-Ox.out]⟩
   case measure=>simp[intOf];omega
  .have Oy:=tK (show t.1.take j=t.1 from Nh a?)
   go_wp2_with fail
   go_ret
   exact⟨by show Ending.returned (Value.int .u64 (RN (t.1.take j)))=_;rw[Oy.out],hR1,OP⟩
theorem cp (k l x):(N6 k l x).1<256^k:=by
 have h1:=mO (Ol k l x).1
 have h2:=lZ k l x
 have h3:(256:Nat)^(Ol k l x).1.length<=256^k:=Nat.pow_le_pow_right d? a?
 show RN _<_
 omega
theorem Me (b l x w) (hR:aP w b l x):
  am! 281 #[b] w fun r w'=>r=.returned (.int .u8 (N6 1 l x).1)/\aP w' b (N6 1 l x).2.1 (N6 1 l x).2.2/\NP [b] w w':=by
 have hn:am! 243 #[b,(1:Int)] w fun r w'=>r=.returned (.int .u64 (N6 1 l x).1)/\aP w' b (N6 1 l x).2.1 (N6 1 l x).2.2/\NP [b] w w':=je b 1 l x w hR a?
 have hb:=cp 1 l x
 have UR:((N6 1 l x).1:Int)<256:=a?
 clear hb
 generalize N6 1 l x=u at*
 go_enter func281,ntmps281
 go_wp2_with fail
 refine hn.mono ?_;rintro e w1 ⟨rfl,hR1,OP⟩
 go_wp2_with fail
 go_ret
 exact⟨rfl,hR1,OP⟩
theorem sJ (b l x w) (hR:aP w b l x):
  am! 244 #[b] w fun r w'=>r=.returned (.int .u16 (N6 2 l x).1)/\aP w' b (N6 2 l x).2.1 (N6 2 l x).2.2/\NP [b] w w':=by
 have hn:am! 243 #[b,(2:Int)] w fun r w'=>r=.returned (.int .u64 (N6 2 l x).1)/\aP w' b (N6 2 l x).2.1 (N6 2 l x).2.2/\NP [b] w w':=je b 2 l x w hR a?
 have hb:=cp 2 l x
 have UR:((N6 2 l x).1:Int)<65536:=a?
 clear hb
 generalize N6 2 l x=u at*
 go_enter func244,ntmps244
 go_wp2_with fail
 refine hn.mono ?_;rintro e w1 ⟨rfl,hR1,OP⟩
 go_wp2_with fail
 go_ret
 exact⟨rfl,hR1,OP⟩
theorem np (b l x w) (hR:aP w b l x):
  am! 195 #[b] w fun r w'=>r=.returned (.int .u32 (N6 4 l x).1)/\aP w' b (N6 4 l x).2.1 (N6 4 l x).2.2/\NP [b] w w':=by
 have hn:am! 243 #[b,(4:Int)] w fun r w'=>r=.returned (.int .u64 (N6 4 l x).1)/\aP w' b (N6 4 l x).2.1 (N6 4 l x).2.2/\NP [b] w w':=je b 4 l x w hR a?
 have hb:=cp 4 l x
 have UR:((N6 4 l x).1:Int)<4294967296:=a?
 clear hb
 generalize N6 4 l x=u at*
 go_enter func195,ntmps195
 go_wp2_with fail
 refine hn.mono ?_;rintro e w1 ⟨rfl,hR1,OP⟩
 go_wp2_with fail
 go_ret
 exact⟨rfl,hR1,OP⟩
theorem KO (b l x w) (hR:aP w b l x):
  am! 190 #[b] w fun r w'=>r=.returned (.int .u64 (N6 8 l x).1)/\aP w' b (N6 8 l x).2.1 (N6 8 l x).2.2/\NP [b] w w':=by
 have hn:am! 243 #[b,(8:Int)] w fun r w'=>r=.returned (.int .u64 (N6 8 l x).1)/\aP w' b (N6 8 l x).2.1 (N6 8 l x).2.2/\NP [b] w w':=je b 8 l x w hR a?
 have hb:=cp 8 l x
 have UR:((N6 8 l x).1:Int)<18446744073709551616:=a?
 clear hb
 generalize N6 8 l x=u at*
 go_enter func190,ntmps190
 go_wp2_with fail
 refine hn.mono ?_;rintro e w1 ⟨rfl,hR1,OP⟩
 go_wp2_with fail
 go_ret
 exact⟨rfl,hR1,OP⟩
def PN (most:Nat) (l:List UInt8) (x:Int):Nat×List UInt8×Int:=
 let u:=N6 4 l x
 if most<u.1 then(0,[],PD 2 u.2.2)else u
theorem EE (b most:Nat) (l) (x:Int) (w) (hR:aP w b l x) (hm:most<1000000000):
  am! 299 #[b,(most:Int)] w fun r w'=>r=.returned (.int .i64 (PN most l x).1)/\aP w' b (PN most l x).2.1 (PN most l x).2.2/\NP [b] w w':=by
 have hn:am! 243 #[b,(4:Int)] w fun r w'=>r=.returned (.int .u64 (N6 4 l x).1)/\aP w' b (N6 4 l x).2.1 (N6 4 l x).2.2/\NP [b] w w':=je b 4 l x w hR a?
 have hb:=cp 4 l x
 unfold PN
 generalize N6 4 l x=u at*
 by_cases NV:most<u.1
 .rw[if_pos NV]
  go_enter func299,ntmps299
  go_wp2_with fail
  refine hn.mono ?_;rintro e w1 ⟨rfl,hR1,OP⟩
  go_wp2_with fail
  refine(xm b u.2.1 u.2.2 2 _ hR1).mono ?_;rintro e w2 ⟨rfl,Qn,PY⟩
  go_wp2_with fail
  go_ret
  exact⟨rfl,Qn,OP.trans PY⟩
 .rw[if_neg NV]
  go_enter func299,ntmps299
  go_wp2_with fail
  refine hn.mono ?_;rintro e w1 ⟨rfl,hR1,OP⟩
  go_wp2_with fail
  go_ret
  exact⟨rfl,hR1,OP⟩
def dY (l:List UInt8) (x:Int):List UInt8×List UInt8×Int:=
 let u:=PN 65536 l x
 Ol u.1 u.2.1 u.2.2
theorem Js (b l x w) (hR:aP w b l x):
  am! 282 #[b] w fun r w'=>r=.returned (.string (bs (dY l x).1))/\aP w' b (dY l x).2.1 (dY l x).2.2/\NP [b] w w':=by
 have hn:am! 299 #[b,(65536:Int)] w fun r w'=>r=.returned (.int .i64 (PN 65536 l x).1)/\aP w' b (PN 65536 l x).2.1 (PN 65536 l x).2.2/\NP [b] w w':=EE b 65536 l x w hR a?
 unfold dY
 generalize PN 65536 l x=u at*
 go_enter func282,ntmps282
 go_wp2_with fail
 refine hn.mono ?_;rintro e w1 ⟨rfl,hR1,OP⟩
 go_wp2_with fail
 refine(ny b u.2.1 u.2.2 u.1 _ hR1).mono ?_;rintro e w2 ⟨rfl,Qn,PY⟩
 go_wp2_with fail
 go_ret
 exact⟨rfl,Qn,OP.trans PY⟩
theorem Ct (b l x w) (hR:aP w b l x):
  am! 194 #[b] w fun r w'=>r=(l.length:Int)/\w=w':=by
 have c0:w.cell? b=l:=ae.cell hR 0 b?
 have hz:=NQ l
 go_enter func194,ntmps194
 go_wp2_with fail
 go_ret
 exact⟨rfl,rfl⟩
theorem AA (b l x w) (hR:aP w b l x):
  am! 197 #[b] w fun r w'=>r=x/\w=w':=by
 have c1:w.cell? (aa b 1)=x:=ae.cell hR 1 b?
 go_enter func197,ntmps197
 go_wp2_with fail
 go_ret
 exact⟨rfl,rfl⟩
def fM (l:List UInt8) (x:Int):Int:=if x=0/\l≠[]then 7 else x
theorem adx {A:Prop}(h:A:=by
 go_wp2_with fail
 refine h1.mono ?_;rintro e w1 ⟨rfl,rfl⟩
 go_wp2_with fail
 go_ret
 exact⟨rfl,rfl⟩):A:=h
theorem KP (b l x w) (hR:aP w b l x):
  am! 248 #[b] w fun r w'=>r=(fM l x:Int)/\w=w':=by
 have h1:=AA b l x w hR
 have h2:=Ct b l x w hR
 by_cases hx:x=0
 .subst hx
  by_cases hl:l=[]
  .subst hl
   have he:fM [] 0=0:=by simp[fM]
   rw[he]
   simp only[List.length_nil]at h2
   clear he
   go_enter func248,ntmps248
   go_wp2_with fail
   refine h1.mono ?_;rintro e w1 ⟨rfl,rfl⟩
   go_wp2_with fail
   refine h2.mono ?_;rintro e w1 ⟨rfl,rfl⟩
   exact adx
  .have he:fM l 0=7:=by simp[fM,hl]
   have YA:0<l.length:=Nu.2 hl
   rw[he]
   clear he hl
   go_enter func248,ntmps248
   go_wp2_with fail
   refine h1.mono ?_;rintro e w1 ⟨rfl,rfl⟩
   go_wp2_with fail
   refine h2.mono ?_;rintro e w1 ⟨rfl,rfl⟩
   go_wp2_with fail
   go_ret
   exact⟨rfl,rfl⟩
 .have he:fM l x=x:=by simp[fM,hx]
  have hd:(x==0)=false:=h?
  rw[he]
  clear he
  go_enter func248,ntmps248
  go_wp2_with fail
  refine h1.mono ?_;rintro e w1 ⟨rfl,rfl⟩
  exact adx
def Pg (l:List UInt8) (n:Int):List UInt8:=l++List.replicate (n-l.length).toNat 0
theorem yt (k):Lib.repeatL [0] k=List.replicate k 0:=by
 induction k with
 |zero=>rfl
 |succ k ih=>rw[Lib.repeatL,ih];rfl
theorem lz (s:ByteArray) (n:Int) (w:World) (hs:s.size<=1000000) (hn:n<=1000000):
  am! 106 #[.string s,n] w fun e w'=>e=.returned (.string (bs (Pg s.data.toList n)))/\NP [] w w':=by
 by_cases hle:n<=s.size
 .have e:Pg s.data.toList n=s.data.toList:=by
   unfold Pg;rw[iT,show(n-(s.size:Int)).toNat=0 from by omega];simp
  rw[e,nW]
  clear e
  go_enter func106,ntmps106
  go_wp2_with fail
  go_ret
  simp[NP.refl]
 .obtain⟨d,hd⟩:∃d:Nat,n-(s.size:Int)=d:=⟨(n-s.size).toNat,a?⟩
  have e:Pg s.data.toList n=s.data.toList++List.replicate d 0:=by
   unfold Pg;rw[iT,show(n-(s.size:Int)).toNat=d from by omega]
  have hrep:∀w,am! 34 #[.string {data:=#[0]},(d:Int)] w fun e w'=>e=.returned (.string (bs (List.replicate d 0)))/\Below w.heap.size w w':=fun w=>by
   have h:=strings_Repeat {data:=#[0]} d w a? (by show 1*d<=_;omega)
   grind [bs,yt]
  have hz:(bs (List.replicate d 0)).size<=1000000:=by rw[NQ];simp;omega
  have hfin:Hid (s++bs (List.replicate d 0)=bs (s.data.toList++List.replicate d 0)):=rfl
  rw[e]
  have hlt:(s.size:Int)<n:=a?
  clear e hle
  go_enter func106,ntmps106
  go_wp2_with fail
  refine(hrep _).mono ?_;rintro e w1 ⟨rfl,hb⟩
  go_wp2_with fail
  go_ret
  exact⟨L?,NP.xp hb⟩
end
open Go.Proofs.Tryz Go.ChangeShapes Go.WideShapes Go.ChangeAt Go.RowKit Go.Deep
variable {d:DK} {w:World} {r lo hi:Nat} {v:Value} {l:List UInt8}
theorem Bd {l i s} (h:eJ l i=some s):(i,s)∈l:=by
 suffices ∀(l m:List (Nat×List UInt8)),m++l=m++l->∀n,n<=l.length->eJ (l.take n) i=some s->(i,s)∈l by
  exact this l [] rfl l.length (MG _) (by simp_all)
 intro l m _ n
 induction n with
 |zero=>grind [sZ]
 |succ n ih=>
  grind [MI,iH]
theorem gj (hf:dS d) {i} (hi:i<d.stand.length):(seen d i).length=128:=by
 unfold seen
 cases h:eJ d.waits i with
 |some s=>exact(hf.fine _ (Bd h)).2
 |none=>
  show(d.stand.getD i []).length=128
  rw[Nx,MZ hi]
  exact hf.all _ (MJ hi)
structure r7 (Inv:DK->World->Prop) (b:Nat):Prop where
 len:∀{d w},Inv d w->1<=d.stand.length/\d.stand.length<=8192
 fit:∀{d w},Inv d w->dS d
 keep:∀{d w w'},Inv d w->NP [] w w'->Inv d w'
 lenC:∀{d w},Inv d w->am! 36 #[b] w fun e w'=>e=.returned (.int .i64 d.stand.length)/\w=w'
 downC:∀{d w},Inv d w->am! 61 #[b] w fun e w'=>e=.returned (.bool d.down)/\w=w'
 readC:∀{d w} (i:Int),Inv d w->am! 62 #[b,i] w fun e w'=>e=.returned (.tuple #[.string (bs (Pc d i)),(OM d i:Int)])/\w=w'
 writeC:∀{d w} (i:Int) (s:List UInt8),Inv d w->d.ops<100000->d.waits.length<=10000->am! 88 #[b,i,s] w fun e w'=>e=(OW d i s:Int)/\Inv (OJ d i s) w'
theorem fy (d i s):(OJ d i s).ops<=d.ops+1/\(OJ d i s).waits.length<=d.waits.length+1/\(OJ d i s).stand.length=d.stand.length:=by
 grind [OJ,cW]
def aC (s:List UInt8):List UInt8:=Pg (s.take 128) 128
theorem mi (s):(aC s).length=128:=by
 grind [aC,Pg]
structure Gp (Inv:DK->World->Prop) (r:Nat):Prop where
 len:∀{d w},Inv d w->1<=d.stand.length/\d.stand.length<=8192
 fit:∀{d w},Inv d w->dS d
 keep:∀{d w w'},Inv d w->NP [] w w'->Inv d w'
 down:∀{d w},Inv d w->w.cell? (aa r 4)=some (.bool d.down)
 readC:∀{d w} (i:Int),Inv d w->am! 128 #[r,i] w fun e w'=>e=.returned (.tuple #[.string (bs (Pc d i)),(OM d i:Int)])/\w=w'
 writeC:∀{d w} (i:Int) (s:List UInt8),Inv d w->d.ops<100000->d.waits.length<20000->am! 140 #[r,i,s] w fun e w'=>e=(OW d i s:Int)/\Inv (OJ d i s) w'
theorem eK.Lt (h:eK w r lo d):w.cell? (aa r 4)=some (.bool d.down):=by
 have⟨p,c,p',c',_,_,_,_,c4,_⟩:=h.mz
 exact c4
theorem eK.lens (h:eK w r lo d):1<=d.stand.length/\d.stand.length<=8192:=by
 have⟨sv,wv,o,hs,hw,h1,h2,h3,h4,_⟩:=h
 exact⟨h3,h4⟩
theorem Hf (st ws n i) (hn:n<=ws.length) (hi:i<st.length):(sk st ws (fun _=>true) n).getD i []=(eJ (ws.take n) i).getD (st.getD i []):=by
 induction n with
 |zero=>rfl
 |succ n ih=>
  rw[tP _ _ _ _ a?,if_pos rfl,MI a?,iH]
  by_cases h:ws[n].1=i
  .simp_all [su]
  grind
theorem yi (d i) (hi:i<d.stand.length):seen (kX d (fun _=>true)) i=seen d i:=by
 have:=Hf d.stand d.waits d.waits.length i (MG _) hi
 rw[MU]at this
 unfold seen
 exact this
theorem jc (d a i s):seen (cW d a s) i=if a=i then s else seen d i:=by
 grind [seen,cW,iH]
theorem sx (d) (k:Nat->Bool):(kX d k).stand.length=d.stand.length:=su _ _ _ _
def mS:Nat->List UInt8->List UInt8
 |0,_=>[]
 |m+1,W=>aC W++mS m (W.drop 128)
theorem tl (W):∃z,aC W=W.take 128++z:=⟨_,rfl⟩
theorem xM (m W) (h:W.length<=128*m):(mS m W).take W.length=W:=by
 induction m generalizing W with
 |zero=>
  simp_all
 |succ m ih=>
  rw[mS]
  by_cases hs:W.length<=128
  .obtain⟨z,hz⟩:=tl W
   grind
  .have e:=ih (W.drop 128) (by grind)
   rw[MQ]at e
   have hc:aC W=W.take 128:=by
    obtain⟨z,hz⟩:=tl W
    have hl:=mi W
    rw[hz,tN,MO]at hl
    have:z=[]:=Nc a?
    simp_all
   rw[hc,List.take_append,MO,Nat.min_eq_left a?,e,Nh w?,List.take_append_drop]
theorem vW {a s} (hd:d.down=false) (Xr:d.fuse<0) (ha:a<d.stand.length):OW d a (aC s)=0/\OJ d a (aC s)=cW d a (aC s):=by
 have Rm:OM d (a:Int)=0:=by
  unfold OM
  rw[hd,if_neg b?,if_neg a?]
 refine⟨?_,?_⟩
 .unfold OW
  rw[Rm,mi,if_neg b?,if_neg b?,if_neg a?]
 .unfold OJ
  rw[if_pos ⟨Rm,mi s⟩,Nw]
def jJ (w:World) (v:Value) (l:List UInt8) (lo hi:Nat):Prop:=
 (l=[]/\∃a c,v=.slice a 0 c)\/
 ∃b off c,v=.slice (some ⟨b,off,none⟩) l.length c/\(∀i (h:i<l.length),w.cell? ⟨b,off+i,none⟩=some (.int .u8 (l[i].toNat:Int)))/\lo<=b/\b<hi/\hi<=w.heap.size/\l≠[]/\l.length<=c/\c<=maxLen
theorem jJ.shape (h:jJ w v l lo hi):∃p c,v=.slice p l.length c:=by
 exact M69
theorem jJ.len (h:jJ w v l lo hi):l.length<=maxLen:=by
 exact adJ
section
variable {H:Type} {enc:TypeId×Value->H} {w:World} {base:Nat} {held:Bool} {r:Reach} {b0:Nat}
end
end
end Go.Proofs.YtdkimcnlhmhpgaaGreat

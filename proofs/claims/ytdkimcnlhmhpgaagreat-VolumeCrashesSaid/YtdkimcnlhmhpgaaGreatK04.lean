/- -/
import Derived.Test.YtdkimcnlhmhpgaaGreatK03
import Derived.Lib.ConvBytes
import Derived.Lib.SlBytesRow
import Derived.Deep.Grids
import Derived.Laws.AppendOwnNone
set_option maxHeartbeats 16000000
set_option maxRecDepth 100000
namespace Go.Proofs.YtdkimcnlhmhpgaaGreat
open Go.RowKit
theorem Nd:type_of% @List.nil_append:=@List.nil_append
theorem Nc:type_of% @List.append_nil:=@List.append_nil
theorem MS:type_of% @List.take_append_of_le_length:=@List.take_append_of_le_length
theorem MR:type_of% @List.flatten_append:=@List.flatten_append
theorem MI:type_of% @List.getElem?_eq_some_iff:=@List.getElem?_eq_some_iff
theorem MC:type_of% @List.take_length:=@List.take_length
theorem Mm:type_of% @List.length_map:=@List.length_map
theorem Mk:type_of% @List.take_of_length_le:=@List.take_of_length_le
theorem Mj:type_of% @List.mem_append:=@List.mem_append
theorem Mh:type_of% @List.getElem_mem:=@List.getElem_mem
theorem G8:∃j,Tryz.prog.info? 153=some j/\j.size=2:=by
 have h:(Tryz.prog.info? 153).map (·.size)=some 2:=by kernel_rfl
 obtain⟨j,hj,hjs⟩:=Option.map_eq_some_iff.1 h
 exact⟨j,hj,hjs⟩
theorem Ac (b:Nat) (w:World) (h0:w.cell? ⟨b,0,none⟩=some (.pointer (some ⟨b,0,none⟩))):
  Calls Tryz.prog 162 #[.pointer (some ⟨b,0,none⟩)] w fun e w'=>e=.returned (.tuple #[])/\w'=w:=by
 obtain⟨j,hj,_⟩:=G8
 go_enter Tryz.func162,Tryz.ntmps162
 go_wp2
 rw[Lib.run_neq_ptr_same w _ Tryz.underlying151 hj]
 go_wp2
 go_end0
 exact⟨rfl,rfl⟩
theorem yt (b:Nat) (w:World) (h0:w.cell? ⟨b,0,none⟩=some (.pointer none)) (XD:w.shape? b=some (153,2)) (hfz:w.frozen? ⟨b,0,none⟩=false):
  Calls Tryz.prog 162 #[.pointer (some ⟨b,0,none⟩)] w fun e w'=>e=.returned (.tuple #[])/\w'=w.setCell ⟨b,0,none⟩ (.pointer (some ⟨b,0,none⟩)):=by
 obtain⟨j,hj,hjs⟩:=G8
 have QH:liesAt Tryz.prog Tryz.prog.depth 153 (2/Tryz.prog.cellsOf 153) 0 153 1=true:=by kernel_rfl
 go_enter Tryz.func162,Tryz.ntmps162
 go_wp2
 rw[Lib.run_to_unsafe w ⟨b,0,none⟩ Tryz.underlying151 Tryz.underlying273 hj (by rw[hjs];decide) XD (Nat.zero_lt_succ 1)]
 simp only[Result.andThen]
 rw[Oper.upon_value]
 go_wp2
 rw[run_callFunc_extern Tryz.func221 (by kernel_rfl) (by kernel_rfl) (by kernel_rfl) (e:=Extern.AbiNoEscape.same) (by kernel_rfl)]
 rw[Lib.run_noEscape]
 simp only[Result.andThen]
 rw[Oper.upon_value]
 go_wp2
 rw[Lib.run_from_unsafe w ⟨b,0,none⟩ Tryz.underlying273 Tryz.underlying151 hj XD QH]
 simp only[Result.andThen]
 rw[Oper.upon_value]
 go_wp2
 go_end0
 exact⟨rfl,rfl⟩
theorem Ks (B b:Nat) (bs:List Value) (w:World) (h:Lib.IsBuilder 153 5 B b bs w):
  Calls Tryz.prog 162 #[.pointer (some ⟨b,0,none⟩)] w fun e w'=>e=.returned (.tuple #[])/\(Lib.BuilderAt 153 5 B b (.pointer (some ⟨b,0,none⟩)) bs w'/\Below B w w'):=by
 rcases h with h|h
 .refine(yt b w h.cell0 h.shape h.frozen0).mono ?_
  rintro e w' ⟨rfl,rfl⟩
  exact⟨rfl,h.used _,(Below.refl B w).setCell (p:=⟨b,0,none⟩) h.1 _⟩
 .refine(Ac b w h.cell0).mono ?_
  rintro e w' ⟨rfl,rfl⟩
  exact⟨rfl,h,Below.refl B _⟩
theorem Kr (B b:Nat) (bs:List Value) (s:ByteArray) (w:World) (h:Lib.IsBuilder 153 5 B b bs w) (hlen:bs.length+s.size<=140737488355328) (hBw:B<=w.heap.size):
  Calls Tryz.prog 84 #[.pointer (some ⟨b,0,none⟩),.string s] w fun e w'=>e=.returned (.tuple #[.int .i64 s.size,.nilIface])/\(Lib.BuilderAt 153 5 B b (.pointer (some ⟨b,0,none⟩)) (bs++Lib.strCells s) w'/\Below B w w'):=by
 have Un:(Tryz.prog.info? 5).map (fun i=>(i.zero,i.size,i.bytes))=some (some (.int .u8 0),1,1):=by kernel_rfl
 obtain⟨i0,hi,hz0,PS,P8⟩:=info_parts Un
 go_enter Tryz.func84,Tryz.ntmps84
 go_wp2_with fail
 refine(Ks B b bs _ h).mono ?_
 rintro e w1 ⟨rfl,h1,TG⟩
 obtain⟨hB,v,VL,N3,Ot⟩:=h1
 have c0:w1.cell? ⟨b,0,none⟩=some (.pointer (some ⟨b,0,none⟩)):=by rw[Lib.cell_of_heap VL];rfl
 have c1:w1.cell? ⟨b,1,none⟩=some v:=by rw[Lib.cell_of_heap VL];rfl
 go_wp2_with (at_builtin;refine Lib.wpList_append_own_string _ rfl _ _ 61 9 rfl B 5 i0 Tryz.underlying61 Tryz.underlying9 hi hz0 PS P8 _ _ _ rfl N3 s rfl ?c3 ?c4 ?c5 ?_)
 case c3=>unfold maxLen;omega
 case c4=>omega
 case c5=>have:=TG.size;omega
 intro v' w2 P4 Om _
 have Ns:b<w1.heap.size:=MY VL
 have Qo:w2.heap[b]? =some (.cells #[.pointer (some ⟨b,0,none⟩),v] 153 (0,0)):=by
  rw[Om.block b Ns (fun e=>Ot e.symm)]
  exact VL
 have d0:w2.cell? ⟨b,0,none⟩=some (.pointer (some ⟨b,0,none⟩)):=by rw[Lib.cell_of_heap Qo];rfl
 have d1:w2.cell? ⟨b,1,none⟩=some v:=by rw[Lib.cell_of_heap Qo];rfl
 have f1:w2.frozen? ⟨b,1,none⟩=false:=Lib.frozen_of_heap Qo 1
 obtain⟨ao,n',cap,rfl⟩:∃ao n' cap,v'=.slice ao n' cap:=by
  rcases P4.2 with⟨hv,_⟩|⟨g,cap,cur,hv,_⟩
  .exact⟨_,_,_,hv⟩
  .exact⟨_,_,_,hv⟩
 go_wp2
 go_ret2
 refine⟨rfl,?_,?_⟩
 .exact Lib.BuilderAt.put (T:=153) (e:=5) hB Qo (bs':=bs++Lib.strCells s) (by simpa[Lib.strCells_length]using P4) (by decide)
 .exact(TG.grown Om (by have:=TG.size;omega) (fun k hk=>(N3.lt k hk).1)).setCell (p:=⟨b,1,none⟩) hB _
def lx (w:World) (B b:Nat) (l:List UInt8):Prop:=Lib.IsBuilder 153 5 B b (Lib.byteCells l) w
theorem yM (l:List UInt8):Lib.strCells (bs l)=Lib.byteCells l:=rfl
theorem sZ (a b:List UInt8):Lib.byteCells a++Lib.byteCells b=Lib.byteCells (a++b):=by simp[Lib.byteCells]
theorem mV (B b:Nat) (l m:List UInt8) (w:World) (h:lx w B b l) (hlen:l.length+m.length<=140737488355328) (hBw:B<=w.heap.size):
  Calls Tryz.prog 84 #[.pointer (some ⟨b,0,none⟩),.string (bs m)] w fun e w'=>e=.returned (.tuple #[.int .i64 (bs m).size,.nilIface])/\lx w' B b (l++m)/\Below B w w':=
 (Kr B b (Lib.byteCells l) (bs m) w h (by rw[Lib.byteCells_length,Nj];exact hlen) hBw).mono fun e w' ⟨he,h1,h2⟩=>⟨he,by
  rw[yM,sZ]at h1;exact Or.inr h1,h2⟩
theorem yl (B b:Nat) (l:List UInt8) (w:World) (h:lx w B b l) (hBw:B<=w.heap.size):
  Calls Tryz.prog 86 #[.pointer (some ⟨b,0,none⟩)] w fun e w'=>e=.returned (.string (bs l))/\Below B w w':=Tryz.Builder_String_any B b l w h hBw
theorem aa.fe {a w w':World} (h:aa [] a w) (hb:Below a.heap.size w w'):aa [] a w':=
 ⟨hb.os.trans h.os,hb.tape.trans h.tape,hb.output.trans h.output,MA h.size hb.size,fun k hk _=>(hb.block k hk).trans (h.block k hk (by simp))⟩
end Go.Proofs.YtdkimcnlhmhpgaaGreat
namespace Go.Proofs.YtdkimcnlhmhpgaaGreat
open Go.RowKit Go.Maps
def Pp (l:List (List UInt8)) (k:Nat):Nat:=((l.take k).map (·.length)).sum
theorem tp (l:List (List UInt8)) (k:Nat) (h:k<l.length):Pp l (k+1)=Pp l k+l[k].length:=by
 unfold Pp;rw[Mf h,Ms,List.sum_append];simp
theorem EU (l:List (List UInt8)) (m k:Nat) (hm:∀s∈l,s.length<=m) (hk:k<=l.length):Pp l k<=m*k:=by
 induction k with
 |zero=>simp[Pp]
 |succ k ih=>
  rw[tp l k (by omega),Nat.mul_succ]
  have:=ih (by omega)
  have:=hm _ (Mh (show k<l.length by omega))
  omega
def P5 (l:List (List UInt8)) (k:Nat):List UInt8:=(l.take k).flatten
theorem Ch (l:List (List UInt8)) (k:Nat) (h:k<l.length):P5 l (k+1)=P5 l k++l[k]:=by
 unfold P5;rw[Mf h,MR];simp
theorem Ej (l:List (List UInt8)) (k:Nat):(P5 l k).length=Pp l k:=by
 unfold P5 Pp;rw[List.length_flatten]
theorem wH {w:World} {sb:Nat} {st:List (List UInt8)} {t:TypeId} (o:ae w sb (bA st) t) (k:Nat) (h:k<st.length):w.cell? ⟨sb,k,none⟩=some (.string (bs st[k])):=by
 rw[<-tu st k h]
 exact o.cell k (by simp[bA];exact h)
theorem Lo (sb:Nat) (st:List (List UInt8)) (w:World) (o:ae w sb (bA st) 9) (h1:1<=st.length) (h2:st.length<=8192) (hm:∀s∈st,s.length<=128):
  Calls Tryz.prog 72 #[.slice (some ⟨sb,0,none⟩) st.length st.length,.string ⟨#[]⟩] w fun e w'=>e=.returned (.string (bs st.flatten))/\aa [] w w':=by
 have c0:=wH o 0 (by omega)
 by_cases Pn:st.length=1
 .obtain⟨a,rfl⟩:=List.length_eq_one_iff.1 Pn
  have c00:w.cell? ⟨sb,0,none⟩=some (.string (bs a)):=c0
  clear c0
  rw[show[a].flatten=a by simp]
  show Calls Tryz.prog 72 #[.slice (some ⟨sb,0,none⟩) 1 1,.string ⟨#[]⟩] w _
  clear o h1 h2 hm Pn
  go_enter Tryz.func72,Tryz.ntmps72
  go_wp2_with fail
  go_ret
  exact⟨rfl,aa.refl _ _⟩
 .have n0:((st.length:Int)==0)=false:=by rw[ME];omega
  have n1:((st.length:Int)==1)=false:=by rw[ME];omega
  have hS:=fun k hk=>EU st 128 k hm hk
  have HS:=Mb hS
  have HO:=Mb h1
  clear hS
  go_enter Tryz.func72,Tryz.ntmps72
  go_wp2_with fail
  go_loop [5,41] (fun t i=>∃k:Nat,k<=st.length/\i=.int .i64 k/\t=.int .i64 (Pp st k)) (fun _ i=>st.length-(intOf i).toNat)
  case atStart=>exact⟨0,by omega,rfl,by simp[Pp]⟩
  case round=>
   obtain⟨k,hk,rfl,rfl⟩:=hrel
   have hb:=HS.out k hk
   by_cases Ns:k<st.length
   .have ck:=wH o k Ns
    have hz:(bs st[k]).size<=128:=by rw[Nj];exact hm _ (Mh Ns)
    have hzz:((bs st[k]).size:Int)=st[k].length:=by rw[Nj]
    have Vk:Hid (Pp st (k+1)=Pp st k+(bs st[k]).size):=by show _=_;rw[Nj];exact tp st k Ns
    have Qo:(Pp st k:Int)<=1048576:=by omega
    have YA:(k:Int)<st.length:=by omega
    have NU:=Mb Ns
    clear hb hzz
    generalize bs st[k]=T at*
    generalize Pp st k=q at*
    generalize Q8:Pp st (k+1)=q2 at*
    have Va:=Mb Q8
    clear Q8
    go_wp2_with fail
    go_round
    case rel=>exact⟨k+1,NU.out,by go_num,by rw[Va.out,Vk.out];go_num⟩
    case measure=>(have hh:=NU.out;simp[intOf];omega)
   .obtain rfl:k=st.length:=by omega
    have hq:Pp st st.length<=281474976710656:=by omega
    have hq3:=hb
    have ob:=ae.new w #[.pointer none,.slice none 0 0] 153
    have Qm:=Tryz.Builder_Grow_fresh w.heap.size w.heap.size (Pp st st.length) _ (Md _) ob (by simp) hq
    have Pe:=Ej st
    have SK:=Ch st
    have Sn:=Mb Pe
    have HCS:=Mb SK
    have HB:=Mb hb
    have i1:(1:Int)<st.length:=by omega
    clear hb hq3 Pe SK hq
    generalize Pp st st.length=q at*
    go_wp2_with fail
    refine Qm.mono ?_;rintro e w1 ⟨rfl,TG,bl1⟩
    have k1:aa [] w w1:=((aa.refl [] w).alloc _).fe bl1
    have hB1:lx w1 w.heap.size w.heap.size []:=Or.inr TG
    have o1:=k1.own o (by simp)
    have c01:=wH o1 0 (by omega)
    have Q6:=k1.size
    clear Qm ob TG bl1
    go_wp2_with fail
    refine(mV w.heap.size w.heap.size [] st[0] w1 hB1 (by have:=hm _ (Mh (show 0<st.length by omega));simp;omega) Q6).mono ?_;rintro e w2 ⟨rfl,VD,bl2⟩
    have k2:aa [] w w2:=k1.fe bl2
    have adk:lx w2 w.heap.size w.heap.size (P5 st 1):=by
     have:=HCS.out 0 (by omega)
     rw[show P5 st 1=[]++st[0]from this];exact VD
    clear hB1 VD bl2 o1 c01
    go_wp2_with fail
    go_loopw [65] (fun i wr=>∃k:Nat,k+1<=st.length/\i=.int .i64 k/\lx wr w.heap.size w.heap.size (P5 st (k+1))/\aa [] w wr) (fun i _=>st.length-(intOf i).toNat)
    case atStart=>exact⟨0,by omega,rfl,adk,k2⟩
    case round=>
     obtain⟨k,hk,rfl,hB,hK⟩:=hrel
     have hs:=hK.size
     have Pe:(P5 st (k+1)).length<=1048576:=by
      rw[Sn.out];have:=HS.out (k+1) hk;omega
     by_cases Ns:k+1<st.length
     .have ck:wr.cell? ⟨sb,1+k,none⟩=some (.string (bs st[k+1])):=by rw[Nat.add_comm 1 k];exact wH (hK.own o (by simp)) (k+1) Ns
      have hz:st[k+1].length<=128:=hm _ (Mh Ns)
      have SK:=HCS.out (k+1) Ns
      have b1:(k:Int)<(st.length:Int)-1:=by omega
      have b2:(k:Int)<((st.length-1:Nat):Int):=by omega
      have NU:=Mb Ns
      have HC:=Mb SK
      clear SK
      generalize st[k+1]=s at*
      generalize P5 st (k+1)=C at*
      go_wp2_with fail
      refine(mV w.heap.size w.heap.size C [] wr hB (by simp;omega) hs).mono ?_;rintro e w4 ⟨rfl,hB4,bl4⟩
      have k4:aa [] w w4:=hK.fe bl4
      have V2:=k4.size
      rw[Nc]at hB4
      go_wp2_with fail
      refine(mV w.heap.size w.heap.size C s w4 hB4 (by omega) V2).mono ?_;rintro e w5 ⟨rfl,hB5,bl5⟩
      have k5:aa [] w w5:=k4.fe bl5
      go_wp2_with fail
      go_roundw
      case rel=>exact⟨k+1,by have:=NU.out;omega,by go_num,by rw[HC.out];exact hB5,k5⟩
      case measure=>(have hh:=NU.out;simp[intOf];omega)
     .have e:P5 st (k+1)=st.flatten:=by unfold P5;rw[show k+1=st.length by omega,MC]
      rw[e]at hB
      have b1:¬((k:Int)<(st.length:Int)-1):=by omega
      have b2:¬((k:Int)<((st.length-1:Nat):Int)):=by omega
      go_wp2_with fail
      refine(yl w.heap.size w.heap.size st.flatten wr hB hs).mono ?_;rintro e w4 ⟨rfl,bl4⟩
      go_wp2_with fail
      go_ret
      exact⟨rfl,hK.fe bl4⟩
end Go.Proofs.YtdkimcnlhmhpgaaGreat
namespace Go.Proofs.YtdkimcnlhmhpgaaGreat
open Go.RowKit
theorem rE (w:World):(Instr.makeSlice 61 (.int .i64 128) (.int .i64 128)).run Tryz.prog w=.ok (.slice (some ⟨w.heap.size,0,none⟩) 128 128) (w.alloc (.cells (Array.replicate 128 (.int .u8 0)) 5)):=by
 kernel_rfl
theorem yV (w:World):(convert 61 9 (.slice (some ⟨w.heap.size,0,none⟩) 128 128)).run Tryz.prog (w.alloc (.cells (Array.replicate 128 (.int .u8 0)) 5))=.ok (.string (bs Nl)) (w.alloc (.cells (Array.replicate 128 (.int .u8 0)) 5)):=by
 have ho:=ae.new w (Array.replicate 128 (Value.int .u8 0)) 5
 have hb:Lib.Bytes (w.alloc (.cells (Array.replicate 128 (.int .u8 0)) 5)) w.heap.size 0 (bs Nl):=by
  intro i hi
  have PD:i<128:=by rw[Nj]at hi;simpa[Nl]using hi
  rw[Nat.zero_add,ho.cell i (by simp;exact PD)]
  have hz:i<Nl.length:=by simpa[Nl]using PD
  have e0:Nl[i]=0:=by unfold Nl;exact List.getElem_replicate _
  rw[Array.getElem_replicate]
  refine congrArg some (congrArg (Value.int .u8) ?_)
  show(0:Int)=((Nl[i]'hz).toNat:Int)
  rw[e0];rfl
 have h:=Lib.run_convert_whole (P:=Tryz.prog) _ 61 5 9 Tryz.underlying61 Tryz.underlying5 Tryz.underlying9 w.heap.size 0 (bs Nl) hb 128
 have e:(bs Nl).size=128:=by rw[Nj];exact MF
 rw[e]at h
 exact h
end Go.Proofs.YtdkimcnlhmhpgaaGreat
namespace Go.Proofs.YtdkimcnlhmhpgaaGreat
open Go.RowKit Go.Maps
theorem Ki (b sb mb lo:Nat) (d:DK) (w:World) (h:aI w b sb mb lo d) (hm:∀s∈d.stand,s.length<=128):Calls Tryz.prog 26 #[.pointer (some ⟨b,0,none⟩)] w fun e w'=>e=.returned (.string (bs d.stand.flatten))/\aa [] w w':=by
 obtain⟨p,c,c0,c1,c2,c3,c4,c5,h1,h2,h3⟩:=h.rI
 obtain⟨wv,n,o,os,_⟩:=h
 have hj:=Lo sb d.stand w os h1 h2 hm
 clear os o
 go_enter Tryz.func26,Tryz.ntmps26
 go_wp2_with fail
 refine hj.mono ?_;rintro e w1 ⟨rfl,k1⟩
 go_wp2_with fail
 go_ret
 exact⟨rfl,k1⟩
def lS (img:List UInt8) (i:Nat):List UInt8:=(img.drop (128*i)).take 128
def fw (img:List UInt8) (n k:Nat):List (List UInt8):=(List.range k).map (lS img)++List.replicate (n-k) []
theorem oD (img:List UInt8) (n k:Nat) (h:k<=n):(fw img n k).length=n:=by unfold fw;rw[Mc,Mm,List.length_range,MF];omega
theorem zk (img:List UInt8) (n k:Nat) (h:k<n):(fw img n k).set k (lS img k)=fw img n (k+1):=by
 unfold fw
 rw[List.set_append_right _ _ (by simp)]
 have e:n-k=(n-(k+1))+1:=by omega
 rw[e,List.replicate_succ,Mm,List.length_range,Nat.sub_self,List.set_cons_zero,List.range_succ,Ms]
 simp
theorem zU (img:List UInt8) (k:Nat):(bs img).extract (128*k) (128*k+128)=bs (lS img k):=by
 apply ByteArray.ext
 unfold lS
 simp[bs,ByteArray.data_extract,List.take_drop]
theorem Ln (img:List UInt8) (n:Nat) (w:World) (hl:img.length=128*n) (h1:1<=n) (h2:n<=8192):
  Calls Tryz.prog 22 #[.string (bs img)] w fun e w'=>∃b sb mb lo,e=.returned (.tuple #[.pointer (some ⟨b,0,none⟩),.int .i64 0])/\aI w' b sb mb lo (Pw (fw img n n))/\w.heap.size<=sb/\w.heap.size<=mb/\w.heap.size<=b/\aa [] w w':=by
 have hz:(bs img).size=128*n:=by rw[Nj,hl]
 have UC:=pj n h2
 have e0:fy n 0=fw img n 0:=rfl
 rw[e0]at UC
 have o:=ae.new w (bA (fw img n 0)) 9
 have i1:(1:Int)<=n:=by omega
 have i2:(n:Int)<=8192:=by omega
 have hq:((128*n:Nat):Int)=128*(n:Int):=by omega
 go_enter Tryz.func22,Tryz.ntmps22
 go_wp2_with fail
 go_loopw [26] (fun i wr=>∃k:Nat,k<=n/\i=.int .i64 k/\ae wr w.heap.size (bA (fw img n k)) 9/\aa [] w wr) (fun i _=>n-(intOf i).toNat)
 case atStart=>exact⟨0,by omega,rfl,o,(aa.refl _ _).alloc _⟩
 case round=>
  obtain⟨k,hk,rfl,os,hK⟩:=hrel
  by_cases Ns:k<n
  .have NU:=Mb Ns
   have PR:k<(bA (fw img n k)).size:=by simp[bA,oD img n k hk];exact Ns
   obtain⟨v0,s0⟩:∃v0,wr.cell? ⟨w.heap.size,k,none⟩=some v0:=⟨_,os.cell k PR⟩
   have zs:=os.free k
   have N6:ae (wr.setCell ⟨w.heap.size,k,none⟩ (.string (bs (lS img k)))) w.heap.size (bA (fw img n (k+1))) 9:=by
    rw[<-zk img n k Ns,<-ky]
    exact os.set k _
   have Yk:=hK.setCell (p:=⟨w.heap.size,k,none⟩) (Or.inr (Md _)) (.string (bs (lS img k)))
   have hx:=zU img k
   have Vz:(bs img).extract (128*k) (128*(k+1))=bs (lS img k):=hx
   have t1:(128*(k:Int)).toNat=128*k:=by omega
   have t2:(128*((k:Int)+1)).toNat=128*(k+1):=by omega
   have b1:128*((k:Int)+1)<=128*(n:Int):=by omega
   have b2:128*(k:Int)<=128*((k:Int)+1):=by omega
   have HF:=Mb N6
   clear N6 os PR o hx
   generalize bs (lS img k)=C at*
   exact M40
  .obtain rfl:k=n:=by omega
   have hlen:=oD img k k (Md _)
   have hmd:=Hb w.heap.size (fw img k k) wr os (by rw[hlen];exact h1) (by rw[hlen];exact h2)
   rw[hlen]at hmd
   exact M51
theorem FU (img:List UInt8) (n i:Nat) (h:i<n):(fw img n n).getD i []=lS img i:=by
 unfold fw
 rw[Nat.sub_self,List.replicate_zero,Nc,MD]
 simp[h]
end Go.Proofs.YtdkimcnlhmhpgaaGreat
namespace Go.Proofs.YtdkimcnlhmhpgaaGreat
open Go.ChangeShapes Go.WideShapes Go.ChangeAt Go.RowKit Go.Deep
def aZ {α:Type} (k:Nat) (R:World->List Value->α->Prop) (w:World) (v:Value) (l:List α) (lo hi:Nat):Prop:=
 (l=[]/\∃a c,v=.slice a 0 c)\/
 ∃b off c,v=.slice (some ⟨b,off,none⟩) l.length c/\(∀i (h:i<l.length),∃cs,cs.length=k/\R w cs l[i]/\∀j u,cs[j]? =some u->w.cell? ⟨b,off+(i*k+j),none⟩=some u)/\lo<=b/\b<hi/\hi<=w.heap.size/\l≠[]/\l.length<=c/\c<=maxLen
section
variable {α:Type} {k:Nat} {R:World->List Value->α->Prop} {w w':World} {v:Value} {l:List α} {lo hi:Nat}
theorem aZ.kept {S:List Nat} (h:aZ k R w v l lo hi) (kk:aa S w w') (hS:∀x∈S,x<lo\/hi<=x) (hR:∀cs a,R w cs a->R w' cs a):aZ k R w' v l lo hi:=by
 rcases h with h|⟨b,off,c,h1,h2,h3,h4,h5,h6,h7,h8⟩
 .exact Or.inl h
 .refine Or.inr ⟨b,off,c,h1,fun i hi=>?_,h3,h4,MA h5 kk.size,h6,h7,h8⟩
  have hb:b∉S:=fun hb=>by have:=hS b hb;omega
  obtain⟨cs,e1,e2,e3⟩:=h2 i hi
  refine⟨cs,e1,hR _ _ e2,fun j u hu=>?_⟩
  rw[kk.cell (by show b<_;omega) hb]
  exact e3 j u hu
theorem aZ.shape (h:aZ k R w v l lo hi):∃p c,v=.slice p l.length c:=by
 exact M38
theorem M91 {A:Prop}(h:A:=by
 rcases h with⟨rfl,a,c,rfl⟩|⟨b,off,c,rfl,_,_,_,_,_,h7,h8⟩
 .exact Mu _
 .omega):A:=h
theorem aZ.len (h:aZ k R w v l lo hi):l.length<=maxLen:=by
 exact M91
theorem aZ.at_ {p:Option Addr} {n c:Nat} (h:aZ k R w (.slice p n c) l lo hi) (i:Nat) (hi':i<l.length):
  ∃b off cs,p=some ⟨b,off,none⟩/\cs.length=k/\R w cs l[i]/\(∀j u,cs[j]? =some u->w.cell? ⟨b,off+(i*k+j),none⟩=some u)/\lo<=b/\b<hi/\hi<=w.heap.size:=by
 rcases h with⟨rfl,_⟩|⟨b,off,c',e,h2,h3,h4,h5,_,h6,h7⟩
 .simp at hi'
 .simp at e
  obtain⟨e1,rfl,rfl⟩:=e
  obtain⟨cs,q1,q2,q3⟩:=h2 i hi'
  exact⟨b,off,cs,e1,q1,q2,q3,h3,h4,h5⟩
end
theorem pY {H:Type} {enc:TypeId×Value->H} {P:Program} {w:World} {base:Nat} {held:Bool} {α:Type} [Inhabited α] {k:Nat} {R:World->List Value->α->Prop} {t e:TypeId} {fuel:Nat} {c:Value} {x:DataW H×List MemPlace}
  (ht:P.underlying t=some (.slice e)) (hk:P.cellsOf e=k) (hk0:0<k)
  (hR:∀n cs y,DataW.trod enc P w base (fun _=>true) held n e cs=some y->cs.length=k->∃a,R w cs a)
  (h:DataW.trod enc P w base (fun _=>true) held fuel t [c]=some x):∃l,aZ k R w c l 0 w.heap.size:=by
 rcases open_slice ht h with⟨e1,_⟩|⟨a,len,cap,m,n,D,Pl,e1,hb,hl,hm,Xt,_,hx⟩
 .injection e1 with e1
  exact⟨[],Or.inl ⟨rfl,_,_,e1⟩⟩
 .injection e1 with e1
  subst e1
  simp only[if_true]at Xt
  subst Xt
  rw[hk]at hx
  by_cases h0:len=0
  .subst h0;exact⟨[],Or.inl ⟨rfl,_,_,rfl⟩⟩
  .obtain⟨q,hq⟩:=choose_lt (α:=α×List Value) (n:=len) (p:=fun i q=>q.2.length=k/\R w q.2 q.1/\∀j,j<k->w.cell? ((a.add (i*k)).add j)=q.2[j]?) (fun i hi=>by
    obtain⟨UJ,q1,q2⟩:=hx i (by omega)
    obtain⟨_,q3,q4⟩:=World.cells?_some q1
    obtain⟨z,hz⟩:=hR _ _ _ q2 q3
    exact⟨(z,UJ),q3,hz,q4⟩)
   obtain⟨b,off,spot⟩:=a
   have hc0:∃u,w.cell? (((⟨b,off,spot⟩:Addr).add (0*k)).add 0)=some u:=by
    obtain⟨e1,_,e2⟩:=hq 0 (by omega)
    rw[e2 0 hk0]
    exact⟨_,Mw (by omega)⟩
   obtain⟨u0,hu0⟩:=hc0
   have Wo:spot=none:=by simpa[Addr.add]using World.cell?_spot hu0
   subst Wo
   have adK:b<w.heap.size:=by
    rw[My,My]at hu0
    exact World.block_lt_of_cell? _ _ hu0
   refine⟨(List.range len).map fun i=>(q i).1,Or.inr ⟨b,off,m,by simp,fun i hi=>?_,Mu _,adK,Md _,fun e=>?_,by simpa using hl,hm⟩⟩
   .have hi':i<len:=by simpa using hi
    obtain⟨e1,e2,e3⟩:=hq i hi'
    refine⟨(q i).2,e1,by simpa using e2,fun j u hu=>?_⟩
    have hj:j<k:=by
     have:=(MI.1 hu).1;omega
    have:=e3 j hj
    rw[My,My,Nat.add_assoc]at this
    rw[this,hu]
   .have:=congrArg List.length e
    simp at this;omega
section
variable {H:Type} {enc:TypeId×Value->H} {w:World} {base:Nat} {held:Bool} {r:Reach} {b0:Nat}
theorem eA.len {w:World} {v:Value} {l:List Bool} {lo hi:Nat} (h:eA w v l lo hi):l.length<=maxLen:=by
 exact M91
end
end Go.Proofs.YtdkimcnlhmhpgaaGreat
namespace Go.Proofs.YtdkimcnlhmhpgaaGreat
open Go.RowKit Go.Maps
theorem aI.LJ {w:World} {b sb mb lo:Nat} {d:DK} (h:aI w b sb mb lo d):b<lo/\lo<=w.heap.size/\d.stand.length<=8192:=by
 obtain⟨_,_,_,_,_,_,_,_,_,_,h5,h6,h7,h8,_⟩:=h
 exact⟨h5,h6,h8⟩
theorem C3 {p:List UInt8->Prop} (st:List (List UInt8)) (ws:List (Nat×List UInt8)) (keep:Nat->Bool) (hs:∀s∈st,p s) (hw:∀x∈ws,p x.2) (n:Nat) (hn:n<=ws.length):∀s∈sk st ws keep n,p s:=by
 induction n with
 |zero=>exact hs
 |succ n ih=>
  rw[na st ws keep n (by omega)]
  intro s h
  split at h
  .rcases List.mem_or_eq_of_mem_set h with h|h
   .exact ih (by omega) s h
   .subst h;exact hw _ (Mh _)
  .exact ih (by omega) s h
theorem Gl (st:List (List UInt8)) (h:∀s∈st,s.length=128) (k:Nat) (hk:k<st.length):lS st.flatten k=st[k]:=by
 unfold lS
 induction st generalizing k with
 |nil=>simp at hk
 |cons a st ih=>
  have ha:=h a (Mg)
  rw[List.flatten_cons]
  cases k with
  |zero=>
   rw[Nat.mul_zero,List.drop_zero,MS (by omega),Mk (by omega)];rfl
  |succ k=>
   have e:128*(k+1)=a.length+128*k:=by omega
   rw[e,List.drop_append,List.drop_of_length_le (by omega),Nd]
   have e2:a.length+128*k-a.length=128*k:=by omega
   rw[e2,ih (fun s hs=>h s (MP _ hs)) k (by simpa using hk)]
   rfl
end Go.Proofs.YtdkimcnlhmhpgaaGreat
namespace Go.Proofs.YtdkimcnlhmhpgaaGreat
open Go.RowKit
variable {w:World} {base size n:Nat} {e:TypeId} {v:Value} {xs:List Value}
theorem qy (w:World) (row:Option Nat):w.grownBy w row:=⟨rfl,rfl,rfl,Md _,fun _ _ _=>rfl⟩
theorem bm {w w':World} {base:Nat} {e:TypeId} {size:Nat} {v:Value} {n:Nat} {xs:List Value} (h:w.ownsRow base e size v n xs)
  (hk:∀g cs,base<=g->w.heap[g]? =some (.cells cs e (0,0))->w'.heap[g]? =w.heap[g]?):w'.ownsRow base e size v n xs:=by
 obtain⟨h1,h2⟩:=h
 refine⟨h1,?_⟩
 rcases h2 with h2|⟨g,cap,cur,rfl,hg,hh,r⟩
 .exact Or.inl h2
 .exact Or.inr ⟨g,cap,cur,rfl,hg,(hk g cur hg hh).trans hh,r⟩
theorem dS {S:List Nat} {w w':World} {base:Nat} {e:TypeId} {size:Nat} {v:Value} {n:Nat} {xs:List Value} (h:w.ownsRow base e size v n xs) (k:aa S w w')
  (hS:∀x∈S,base<=x->∀cs,w.heap[x]? ≠some (.cells cs e (0,0))):w'.ownsRow base e size v n xs:=
 bm h (fun g cs hb hg=>k.block g (MY hg) (fun hx=>hS g hx hb cs hg))
theorem cw {r:Nat} {rs:Array Value} {t:TypeId} {w':World} (h:w.ownsRow base e size v n xs) (k:aa [r] w w') (o:ae w r rs t) (Ot:e≠t):w'.ownsRow base e size v n xs:=
 dS h k (fun x hx _ cs hc=>by
  have hx:x=r:=by simpa using hx
  subst hx
  have o':w.heap[x]? =some (.cells rs t (0,0)):=o
  rw[o']at hc
  injection hc with hc
  injection hc with _ ht
  exact Ot ht.symm)
theorem aH {base':Nat} (h:w.ownsRow base e size v n xs) (hb:base'<=base):w.ownsRow base' e size v n xs:=by
 obtain⟨h1,h2⟩:=h
 refine⟨h1,?_⟩
 rcases h2 with h2|⟨g,cap,cur,rfl,hg,r⟩
 .exact Or.inl h2
 .exact Or.inr ⟨g,cap,cur,rfl,MA hb hg,r⟩
theorem fQ (h:w.ownsRow base e size v n xs) (hn:0<n):
  ∃g c,v=.slice (some ⟨g,0,none⟩) n c/\base<=g/\g<w.heap.size/\n<=c/\c<=maxLen/\∀j u,xs[j]? =some u->w.cell? ⟨g,j,none⟩=some u:=by
 have h':=h
 obtain⟨hl,⟨rfl,rfl⟩|⟨g,cap,cur,rfl,hb,hg,hnc,Pb,SK,htake⟩⟩:=h
 .omega
 .refine⟨g,cap,rfl,hb,MY hg,hnc,Pb,fun j u hj=>?_⟩
  have:=World.ownsRow.cells h' (g:=g) rfl j u hj
  rwa[My,Nat.zero_add]at this
end Go.Proofs.YtdkimcnlhmhpgaaGreat
namespace Go.Proofs.YtdkimcnlhmhpgaaGreat
open Go.RowKit Go.Maps
variable {w:World} {b:Nat} {x0 x1 x2 x3 x4:Value} {t:TypeId} {d:DK}
theorem ae.c5 (h:ae w b #[x0,x1,x2,x3,x4] t):w.cell? ⟨b,0,none⟩=some x0/\w.cell? ⟨b,1,none⟩=some x1/\w.cell? ⟨b,2,none⟩=some x2/\w.cell? ⟨b,3,none⟩=some x3/\w.cell? ⟨b,4,none⟩=some x4:=
 ⟨h.cell 0 (by simp),h.cell 1 (by simp),h.cell 2 (by simp),h.cell 3 (by simp),h.cell 4 (by simp)⟩
theorem ae.z5 (h:ae w b #[x0,x1,x2,x3,x4] t):w.frozen? ⟨b,0,none⟩=false/\w.frozen? ⟨b,1,none⟩=false/\w.frozen? ⟨b,2,none⟩=false/\w.frozen? ⟨b,3,none⟩=false/\w.frozen? ⟨b,4,none⟩=false:=
 ⟨h.free 0,h.free 1,h.free 2,h.free 3,h.free 4⟩
def Og (d:DK) (i:Int):List UInt8:=if N7 d i=0 then seen d i.toNat else[]
def NV (d:DK) (i:Int) (s:List UInt8):Int:=if N7 d i≠0 then N7 d i else if s.length≠128 then 1 else if d.fuse=0 then 90 else 0
def NG (d:DK) (i:Int) (s:List UInt8):DK:=if N7 d i=0/\s.length=128 then aL d i.toNat s else d
def gn (d:DK):Int:=if d.down=true then 90 else if d.fuse=0 then 90 else 0
def bL (d:DK):DK:=if d.down=true then d else if d.fuse=0 then dK d else fq (dK d) (fun _=>true)
structure bg (d:DK):Prop where
 fine:∀x∈d.waits,x.1<d.stand.length/\x.2.length=128
 all:∀s∈d.stand,s.length=128
theorem bg.op (h:bg d):bg (dK d):=⟨h.fine,h.all⟩
theorem fW {i:Int} (h:N7 d i=0):d.down=false/\0<=i/\i<d.stand.length:=by
 unfold N7 at h
 cases hd:d.down
 .rw[hd,if_neg (by simp)]at h
  by_cases hc:i<0\/(d.stand.length:Int)<=i
  .rw[if_pos hc]at h;omega
  .exact⟨rfl,by omega,by omega⟩
 .rw[hd,if_pos rfl]at h;omega
theorem bg.write (h:bg d) (i:Int) (s:List UInt8):bg (NG d i s):=by
 unfold NG
 split
 .rename_i hc
  obtain⟨_,h1,h2⟩:=fW hc.1
  refine⟨fun x hx=>?_,h.all⟩
  have hx:x∈d.waits++[(i.toNat,s)]:=hx
  rw[Mj]at hx
  rcases hx with hx|hx
  .exact h.fine x hx
  .have hx:x=(i.toNat,s):=by simpa using hx
   subst hx
   exact⟨by show i.toNat<d.stand.length;omega,hc.2⟩
 .exact h
theorem bg.settle (h:bg d) (k:Nat->Bool):bg (fq d k):=
 ⟨(fun x hx=>by cases hx),C3 (p:=fun s=>s.length=128) _ _ _ h.all (fun x hx=>(h.fine x hx).2) _ (Md _)⟩
theorem bg.flush (h:bg d):bg (bL d):=by
 unfold bL
 split
 .exact h
 .split
  .exact h.op
  .exact h.op.settle _
theorem bg.iw (h:bg d) (k:List Bool):bg (Oo d k):=
 ⟨(fun x hx=>by cases hx),C3 (p:=fun s=>s.length=128) _ _ _ h.all (fun x hx=>(h.fine x hx).2) _ (Md _)⟩
theorem bg.fuse (h:bg d) (n:Int):bg (PV d n):=⟨h.fine,h.all⟩
theorem bg.new (n:Nat):bg (Pw (List.replicate n Nl)):=by
 refine⟨(fun x hx=>by cases hx),fun s hs=>?_⟩
 have:=List.eq_of_mem_replicate hs
 subst this;unfold Nl;rw[MF]
structure LD (W0 w:World) (b sb mb lo:Nat) (d:DK):Prop where
 disk:aI w b sb mb lo d
 kept:aa [] W0 w
 hb:W0.heap.size<=b
 hsb:W0.heap.size<=sb
 hmb:W0.heap.size<=mb
 hlo:W0.heap.size<=lo
 fit:bg d
section
variable {W0 w:World} {b sb mb lo:Nat} {d:DK}
theorem L4 (n:Nat) (w:World) (h1:1<=n) (h2:n<=8192):
  Calls Tryz.prog 9 #[.int .i64 n] w fun e w'=>∃b sb mb lo,e=.returned (.tuple #[.pointer (some ⟨b,0,none⟩),.int .i64 0])/\LD w w' b sb mb lo (Pw (List.replicate n Nl)):=
 (LY n w h1 h2).mono fun e w' ⟨b,sb,mb,lo,he,hD,z1,z2,z3,k⟩=>⟨b,sb,mb,lo,he,hD,k,z3,z1,z2,(by have:=aI.LJ hD;omega),bg.new n⟩
end
def Cx (b sb mb lo r:Nat) (w w':World):Prop:=
 w'.os=w.os/\w'.tape=w.tape/\w'.output=w.output/\w.heap.size<=w'.heap.size/\∀k,k<w.heap.size->k≠b->k≠sb->k≠mb->k≠r->(k<lo\/∀cs f,w.heap[k]? ≠some (.cells cs 206 f))->w'.heap[k]? =w.heap[k]?
theorem Cw.both {sb mb lo:Nat} {w':World} (h:Cw b sb mb lo w w') (r:Nat):Cx b sb mb lo r w w':=
 ⟨h.1,h.2.1,h.2.2.1,h.2.2.2.1,fun k hk e1 e2 e3 _ e4=>h.2.2.2.2 k hk e1 e2 e3 e4⟩
section
variable {W0 w:World} {b sb mb lo r rlo:Nat} {d rd:DK}
end
end Go.Proofs.YtdkimcnlhmhpgaaGreat

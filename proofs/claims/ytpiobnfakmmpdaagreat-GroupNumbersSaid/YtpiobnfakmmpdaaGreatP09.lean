import Derived.Shelf.SlicesG.CompactS
import Derived.Shelf.SortM.Plain
import Derived.Shelf.SortM.SortNone
import Derived.Shelf.SlicesQ.IndexFunc
import Derived.Shelf.SlicesE.IndexFunc
import Derived.Sort.OwnSorted
import Derived.Lib.SliceRun
import Derived.Test.YtpiobnfakmmpdaaGreatP08
set_option linter.unusedVariables false
set_option linter.unusedSimpArgs false
namespace Go.Proofs.YtpiobnfakmmpdaaGreat.Lib0
def sortS_ren:Go.Shelf.Ren:=⟨fun | 6=>157 | 8=>193 | 9=>192 | 19=>229 | 20=>230 | 21=>220 | 22=>221 | 23=>222 | 24=>223 | 25=>224 | 26=>225 | 27=>226 | 28=>227 | 29=>228 | 36=>253 | 31=>254 | 32=>255 | 37=>256 | 38=>257 | 39=>184 | 41=>270 | n=>n,fun | 27=>48 | 29=>9 | 3=>3 | 32=>185 | 26=>48 | 0=>0 | 44=>103 | 46=>117 | 4=>4 | 36=>296 | 35=>295 | 41=>226 | 5=>5 | 9=>9 | 53=>320 | 57=>324 | 63=>334 | 64=>247 | n=>n,fun | n=>n⟩
theorem sortS:Go.Proofs.SlLaysM.n6 Tryz.prog sortS_ren where
 mixed:=by kernel_rfl
 f6:=⟨"slices.Sort[[]string,string]",by decide,Tryz.func157.trans (congrArg some (by kernel_rfl))⟩
 f8:=Tryz.func193.trans (congrArg some (by kernel_rfl))
 f9:=⟨"slices.pdqsortOrdered[string]",by decide,Tryz.func192.trans (congrArg some (by kernel_rfl))⟩
 f19:=Tryz.func229.trans (congrArg some (by kernel_rfl))
 f20:=Tryz.func230.trans (congrArg some (by kernel_rfl))
 f21:=⟨"slices.insertionSortOrdered[string]",by decide,Tryz.func220.trans (congrArg some (by kernel_rfl))⟩
 f22:=⟨"slices.heapSortOrdered[string]",by decide,Tryz.func221.trans (congrArg some (by kernel_rfl))⟩
 f23:=⟨"slices.breakPatternsOrdered[string]",by decide,Tryz.func222.trans (congrArg some (by kernel_rfl))⟩
 f24:=⟨"slices.choosePivotOrdered[string]",by decide,Tryz.func223.trans (congrArg some (by kernel_rfl))⟩
 f25:=⟨"slices.reverseRangeOrdered[string]",by decide,Tryz.func224.trans (congrArg some (by kernel_rfl))⟩
 f26:=⟨"slices.partialInsertionSortOrdered[string]",by decide,Tryz.func225.trans (congrArg some (by kernel_rfl))⟩
 f27:=⟨"cmp.Less[string]",by decide,Tryz.func226.trans (congrArg some (by kernel_rfl))⟩
 f28:=⟨"slices.partitionEqualOrdered[string]",by decide,Tryz.func227.trans (congrArg some (by kernel_rfl))⟩
 f29:=⟨"slices.partitionOrdered[string]",by decide,Tryz.func228.trans (congrArg some (by kernel_rfl))⟩
 f31:=Tryz.func254.trans (congrArg some (by kernel_rfl))
 f32:=Tryz.func255.trans (congrArg some (by kernel_rfl))
 f36:=⟨"slices.siftDownOrdered[string]",by decide,Tryz.func253.trans (congrArg some (by kernel_rfl))⟩
 f37:=⟨"slices.medianAdjacentOrdered[string]",by decide,Tryz.func256.trans (congrArg some (by kernel_rfl))⟩
 f38:=⟨"slices.medianOrdered[string]",by decide,Tryz.func257.trans (congrArg some (by kernel_rfl))⟩
 f39:=⟨"cmp.isNaN[string]",by decide,Tryz.func184.trans (congrArg some (by kernel_rfl))⟩
 f41:=⟨"slices.order2Ordered[string]",by decide,Tryz.func270.trans (congrArg some (by kernel_rfl))⟩
 t0:=Tryz.underlying0
 a0:=Tryz.isAgg0
 z0:=Tryz.sizeOf0
 v0:=Tryz.zeroValue0
 t3:=Tryz.underlying3
 a3:=Tryz.isAgg3
 z3:=Tryz.sizeOf3
 v3:=Tryz.zeroValue3
 t4:=Tryz.underlying4
 a4:=Tryz.isAgg4
 z4:=Tryz.sizeOf4
 v4:=Tryz.zeroValue4
 t5:=Tryz.underlying5
 a5:=Tryz.isAgg5
 z5:=Tryz.sizeOf5
 v5:=Tryz.zeroValue5
 t9:=Tryz.underlying9
 a9:=Tryz.isAgg9
 z9:=Tryz.sizeOf9
 v9:=Tryz.zeroValue9
 t26:=Tryz.underlying48
 a26:=Tryz.isAgg48
 z26:=Tryz.sizeOf48
 v26:=Tryz.zeroValue48
 t27:=Tryz.underlying48
 a27:=Tryz.isAgg48
 z27:=Tryz.sizeOf48
 v27:=Tryz.zeroValue48
 t29:=Tryz.underlying9
 a29:=Tryz.isAgg9
 z29:=Tryz.sizeOf9
 v29:=Tryz.zeroValue9
 t32:=Tryz.underlying185
 a32:=Tryz.isAgg185
 z32:=Tryz.sizeOf185
 v32:=Tryz.zeroValue185
 t35:=Tryz.underlying295
 a35:=Tryz.isAgg295
 z35:=Tryz.sizeOf295
 v35:=Tryz.zeroValue295
 t36:=Tryz.underlying296
 a36:=Tryz.isAgg296
 z36:=Tryz.sizeOf296
 v36:=Tryz.zeroValue296
 t41:=Tryz.underlying226
 a41:=Tryz.isAgg226
 z41:=Tryz.sizeOf226
 v41:=Tryz.zeroValue226
 t44:=Tryz.underlying103
 a44:=Tryz.isAgg103
 z44:=Tryz.sizeOf103
 v44:=Tryz.zeroValue103
 t46:=Tryz.underlying117
 a46:=Tryz.isAgg117
 z46:=Tryz.sizeOf117
 v46:=Tryz.zeroValue117
 t53:=Tryz.underlying320
 a53:=Tryz.isAgg320
 z53:=Tryz.sizeOf320
 v53:=Tryz.zeroValue320
 t57:=Tryz.underlying324
 a57:=Tryz.isAgg324
 z57:=Tryz.sizeOf324
 v57:=Tryz.zeroValue324
 t63:=Tryz.underlying334
 a63:=Tryz.isAgg334
 z63:=Tryz.sizeOf334
 v63:=Tryz.zeroValue334
 t64:=Tryz.underlying247
 a64:=Tryz.isAgg247
 z64:=Tryz.sizeOf247
 v64:=Tryz.zeroValue247
def compactS_ren:Go.Shelf.Ren:=⟨fun | 44=>159 | n=>n,fun | 25=>48 | 26=>9 | 3=>3 | 4=>4 | 0=>0 | n=>n,fun | n=>n⟩
theorem compactS:Go.Proofs.SlLaysN.n44 Tryz.prog compactS_ren where
 mixed:=by kernel_rfl
 f44:=⟨"slices.Compact[[]string,string]",by decide,Tryz.func159.trans (congrArg some (by kernel_rfl))⟩
 t0:=Tryz.underlying0
 a0:=Tryz.isAgg0
 z0:=Tryz.sizeOf0
 v0:=Tryz.zeroValue0
 t3:=Tryz.underlying3
 a3:=Tryz.isAgg3
 z3:=Tryz.sizeOf3
 v3:=Tryz.zeroValue3
 t4:=Tryz.underlying4
 a4:=Tryz.isAgg4
 z4:=Tryz.sizeOf4
 v4:=Tryz.zeroValue4
 t25:=Tryz.underlying48
 a25:=Tryz.isAgg48
 z25:=Tryz.sizeOf48
 v25:=Tryz.zeroValue48
 t26:=Tryz.underlying9
 a26:=Tryz.isAgg9
 z26:=Tryz.sizeOf9
 v26:=Tryz.zeroValue9
 i26:=by kernel_rfl
end Go.Proofs.YtpiobnfakmmpdaaGreat.Lib0
namespace Go.Proofs.YtpiobnfakmmpdaaGreat.Lib0
open Go.RowKit Go.Proofs.YtpiobnfakmmpdaaGreatW.PrintWords Go.ChangeMaps
theorem encStr_byt (s:ByteArray):encStr (byt s) = .string s:=by unfold encStr;rw[show (⟨(byt s).toArray⟩:ByteArray)=str (byt s) from rfl,str_byt]
def sortL (l:List ByteArray):List ByteArray:=((l.map byt).mergeSort fun x y=>decide (x≤y)).map str
def compL (l:List ByteArray):List ByteArray:=(Lib.compact (l.map byt)).map str
def dictL (l:List ByteArray):List ByteArray:=compL (sortL l)
theorem sortL_len (l:List ByteArray):(sortL l).length=l.length:=by simp[sortL]
theorem compact_len (zs:List (List UInt8)):(Lib.compact zs).length≤zs.length:=by
 unfold Lib.compact Lib.compactUpTo
 rw[List.length_map]
 exact Nat.le_trans (List.length_filter_le _ _) (by simp)
theorem compL_len (l:List ByteArray):(compL l).length≤l.length:=by
 have:=compact_len (l.map byt)
 simpa [compL] using this
def RowS (T:TypeId) (w:World) (r:List ByteArray) (e:Ending) (w':World):Prop:=
 ∃ v,e = .returned v∧Kd.string.R T w' w.heap.size (fun _=>True) v r∧Below w.heap.size w w'
set_option maxHeartbeats 1600000 in
set_option maxRecDepth 100000 in
theorem clone_str (A:Option Addr) (c:Nat) (l:List ByteArray) (w:World) (h:Kd.string.C w A l.length l) (hl:l.length≤1099511627776) :
  Calls Tryz.prog 156 #[.slice A l.length c] w (RowS 9 w l):=by
 have HC:=mk0 h
 have HL:=mk0 hl
 rcases A with _ | ad
 ·have h0:l = []:=by
   rcases l with _ | ⟨x,l⟩
   ·rfl
   ·obtain ⟨ad,e,_⟩:=h.2.2 (by simp)
    cases e
  subst h0
  rw[List.length_nil]
  have hnil:=fun W=>Go.Lib.run_eql_slice_nil (P:=Tryz.prog) W 48 9 none 0 c 0 0 Tryz.underlying48
  simp only[Option.isNone_none] at hnil
  clear h hl
  go_enter Tryz.func156,Tryz.ntmps156
  go_wp2
  go_ret
  exact ⟨_,rfl,Kd.R_nil _ _ _ _ _,Below.refl _ _⟩
 ·have hnil:=fun W=>Go.Lib.run_eql_slice_nil (P:=Tryz.prog) W 48 9 (some ad) l.length c 0 0 Tryz.underlying48
  simp only[Option.isNone_some] at hnil
  clear h hl
  go_enter Tryz.func156,Tryz.ntmps156
  go_wp2_with (at_builtin;go_loud (refine str_append_row (.tmp 5) (.tmp 6) 48 9 (.slice (some ⟨w.heap.size,0,none⟩) 0 0) [] l _ _ _ w.heap.size rfl rfl Tryz.underlying48 info_str rfl rfl (R_empty Kd.string 9 w) (Kd.C_below HC.out (below_alloc (Below.refl _ _) _)) ?c1 ?c2 ?_))
  case c1=>simp
  case c2=>have:=HL.out;simp;omega
  intro v1 w1 hr1 hb1 _ _
  have R1:=mk0 hr1
  have B1:=mk0 ((below_alloc (Below.refl w.heap.size w) (.cells #[] 9)).trans hb1)
  clear hr1 hb1
  go_wp2
  go_ret
  exact ⟨_,rfl,by simpa using R1.out,B1.out⟩
theorem str_own {e:Nat} {w:World} {base:Nat} {v:Value} {l:List ByteArray} (h:Kd.string.R e w base (fun _=>True) v l):w.ownsRow base e 1 v l.length (l.map Value.string):=Kd.own_of_R (enc:=Value.string) (h1:=fun _=>rfl) h
theorem str_of_own {e:Nat} {w:World} {base:Nat} {v:Value} {l:List ByteArray} (h:w.ownsRow base e 1 v l.length (l.map Value.string)):Kd.string.R e w base (fun _=>True) v l:=Kd.R_of_own (enc:=Value.string) (h1:=fun _=>rfl) h (fun _ _=>trivial)
theorem map_encStr (l:List ByteArray):(l.map byt).map encStr=l.map Value.string:=by
 rw[List.map_map];exact List.map_congr_left fun s _=>encStr_byt s
theorem map_str_encStr (l:List (List UInt8)):l.map encStr=(l.map str).map Value.string:=by
 rw[List.map_map];exact List.map_congr_left fun s _=>rfl
set_option maxRecDepth 100000 in
theorem sort_str {base:Nat} {w:World} {v:Value} {l:List ByteArray} (h:Kd.string.R 9 w base (fun _=>True) v l) (hb:base≤w.heap.size) (hl:l.length≤1099511627776) :
  Calls Tryz.prog 157 #[v] w fun e w'=>e = .returned (.tuple #[])∧Kd.string.R 9 w' base (fun _=>True) v (sortL l)∧Below base w w':=by
 have ho:=str_own h
 obtain ⟨h1,h2⟩:=ho
 rcases h2 with ⟨hv,h0⟩ | ⟨g,cap,cur,hv,hbg,hh,r1,r2,r3,r4⟩
 ·subst hv
  have hn:l = []:=List.eq_nil_of_length_eq_zero (by omega)
  refine (AnyM.slices_Sort_string_none sortS none 0 w).mono ?_
  rintro e w' ⟨rfl,rfl⟩
  subst hn
  exact ⟨rfl,by simpa [sortL] using h,Below.refl _ _⟩
 ·subst hv
  have ht:cur.toList.take (l.map byt).length=(l.map byt).map encStr:=by
   rw[map_encStr,List.length_map,← r4,Nat.mul_one]
  have hH:=Go.holds_of_block hh ht
  have hg:g<w.heap.size:=(Array.getElem?_eq_some_iff.1 hh).1
  have:=AnyM.slices_Sort_string sortS g 0 cap (l.map byt) w hH hg (by simp;omega)
  rw[List.length_map] at this
  refine this.mono ?_
  rintro e w' ⟨rfl,n,os,rfl⟩
  refine ⟨rfl,str_of_own ?_,Below.grown (Below.refl base w) (Go.grownBy_sorted _) hb (fun k hk=>by cases hk;exact hbg)⟩
  have:=Go.ownsRow_sorted (w:=w) (base:=base) (n:=n) (os:=os) (ss:=l.map byt) (ts:=(l.map byt).mergeSort fun x y=>decide (x≤y)) (by simp) hbg hh (by simpa using r1) r2 r3
  rw[List.length_map,map_str_encStr] at this
  rw[sortL_len]
  exact this
set_option maxHeartbeats 1600000 in
set_option maxRecDepth 100000 in
theorem compact_str {base:Nat} {w:World} {v:Value} {l:List ByteArray} (h:Kd.string.R 9 w base (fun _=>True) v l) (hb:base≤w.heap.size) (hl:l.length≤1099511627776) :
  Calls Tryz.prog 159 #[v] w fun e w'=>∃ A c,e = .returned (.slice A (compL l).length c)∧(compL l).length≤c∧Kd.string.C w' A (compL l).length (compL l)∧Below base w w':=by
 have ho:=str_own h
 obtain ⟨h1,h2⟩:=ho
 rcases h2 with ⟨hv,h0⟩ | ⟨g,cap,cur,hv,hbg,hh,r1,r2,r3,r4⟩
 ·subst hv
  have hn:l = []:=List.eq_nil_of_length_eq_zero (by omega)
  subst hn
  clear h h0 h1 hl
  have hf:compL [] = []:=List.eq_nil_of_length_eq_zero (by have:=compL_len [];simpa using this)
  have HF:=mk0 hf
  clear hf
  go_enter Tryz.func159,Tryz.ntmps159
  go_wp2
  go_ret
  rw[HF.out]
  exact ⟨none,0,rfl,Nat.le_refl _,⟨rfl,by simp,fun h=>absurd h (by simp)⟩,Below.refl _ _⟩
 ·subst hv
  have ht:cur.toList.take (l.map byt).length=(l.map byt).map encStr:=by
   rw[map_encStr,List.length_map,← r4,Nat.mul_one]
  have hH:=Go.holds_of_block hh ht
  have hg:g<w.heap.size:=(Array.getElem?_eq_some_iff.1 hh).1
  have:=AnyG.slices_Compact_string compactS g 0 cap (l.map byt) w hH (by simp;omega) (by simpa using r1)
  rw[List.length_map] at this
  refine this.mono ?_
  rintro e w' ⟨rfl,q,rfl⟩
  have hlen:=compact_len (l.map byt)
  rw[List.length_map] at hlen
  rw[← Sort.grow_empty (Sort.putRow _ _ _ _ _)]
  refine ⟨some ⟨g,0,none⟩,cap,by simp[compL],by have:=compL_len l;omega,?_,Below.grown (Below.refl base w) (Go.grownBy_sorted _) hb (fun k hk=>by cases hk;exact hbg)⟩
  have:=Go.ownsRow_sorted (w:=w) (base:=base) (n:=q) (os:=#[]) (ss:=l.map byt) (ts:=Lib.compact (l.map byt)++List.replicate (l.length-(Lib.compact (l.map byt)).length) []) (by simp;omega) hbg hh (by simpa using r1) r2 r3
  rw[List.length_map,map_str_encStr] at this
  have hfl:(compL l++List.replicate (l.length-(compL l).length) (str [])).length=l.length:=by have:=compL_len l;simp;omega
  have he:(Lib.compact (l.map byt)++List.replicate (l.length-(Lib.compact (l.map byt)).length) []).map str=compL l++List.replicate (l.length-(compL l).length) (str []):=by simp[compL]
  rw[he] at this
  have ht2:(compL l++List.replicate (l.length-(compL l).length) (str [])).take (compL l).length=compL l:=List.take_left' rfl
  have hle:(compL l).length≤(compL l++List.replicate (l.length-(compL l).length) (str [])).length:=by simp
  generalize compL l++List.replicate (l.length-(compL l).length) (str [])=full at *
  rw[← hfl] at this
  have h5:=Kd.C_take (C_of (str_of_own this)) hle
  rw[ht2,hfl] at h5
  exact h5
set_option maxHeartbeats 1600000 in
set_option maxRecDepth 100000 in
theorem clip_str (A:Option Addr) (c:Nat) (l:List ByteArray) (w:World) (hc:l.length≤c) (hl:l.length≤1099511627776) :
  Calls Tryz.prog 158 #[.slice A l.length c] w fun e w'=>e = .returned (.slice A l.length l.length)∧w=w':=by
 have h1:(l.length:Int)≤c:=by omega
 go_enter Tryz.func158,Tryz.ntmps158
 go_wp2
 go_ret
 exact ⟨rfl,rfl⟩
end Go.Proofs.YtpiobnfakmmpdaaGreat.Lib0

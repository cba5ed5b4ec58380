import Derived.Shelf.Spec.SlicesInsert
import Derived.Lib.AppendZerosOnto
import Derived.Laws.NewBlocks
import Derived.Test.YtpiobnfakmmpdaaGreatP15
import Derived.Test.YtpiobnfakmmpdaaGreatP22
set_option linter.unusedVariables false
set_option linter.unusedSimpArgs false
namespace Go.Proofs.YtpiobnfakmmpdaaGreat.Lib0
open Go.RowKit Go.Proofs.YtpiobnfakmmpdaaGreatW.PrintWords Go.ChangeMaps Go.Proofs Go.Lib
theorem info_col:(Tryz.prog.info? 123).map (fun i=>(i.zero,i.size,i.bytes))=some (some (.agg #[.string ⟨#[]⟩,.int .i64 0]),2,24):=by kernel_rfl
theorem size_col:(Tryz.prog.info? 123).map (·.size)=some 2:=by kernel_rfl
theorem sizeOf_col (w:World):(Go.sizeOf 123).run Tryz.prog w = .ok 2 w:=by
 obtain ⟨i,hi,hs⟩:=Option.map_eq_some_iff.1 size_col
 simp[sizeOf,typeInfo,hi,hs]
theorem run_copy_two {P:Program} (w:World) (dT sT ty elem:TypeId) (b o dLen dCap:Nat) (a:Addr) (sLen sCap:Nat) (cs:List Value) (n:Nat)
  (hu:P.underlying dT=some (.slice elem)) (hs:(P.info? elem).map (·.size)=some 2) (hn:n=Nat.min sLen dLen) (hcl:cs.length=n*2)
  (hsrc:∀ j v,cs[j]?=some v→w.cell? (a.add j)=some v) (hc:∀ j,j<cs.length→(w.cell? ⟨b,o+j,none⟩).isSome=true) (hf:∀ j,j<cs.length→w.frozen? ⟨b,o+j,none⟩=false) (h1:∀ v ∈ cs,v.oneCell'=true) :
  (Builtin.copy_ #[dT,sT] ty #[.slice (some ⟨b,o,none⟩) dLen dCap,.slice (some a) sLen sCap]).run P w = .ok (goInt n) (w.setCells b o cs):=by
 have hl:=run_loadCells_list (P:=P) w a cs hsrc
 have hst:=run_storeCells_cells (P:=P) b o cs 0 w (by simpa using hc) (by simpa using hf) h1
 rw[hcl] at hl
 cases hq:P.info? elem with
 | none=>simp[hq] at hs
 | some i=>
  have hi:i.size=2:=by simpa [hq] using hs
  simp[Builtin.copy_,run_underlying hu,Builtin.lenOf,Builtin.firstCells,sizeOf,typeInfo,hq,hi,← hn,hl,hst]
theorem run_overlaps_col (w:World) (vb b o m vc lb cb:Nat) (curA curB:Array Value) (hne:vb≠b) (ha:w.heap[vb]?=some (.cells curA 123 (0,0))) (hb:w.heap[b]?=some (.cells curB 123 (0,0))) (hz:curB.size≠0) :
  (callFunc 185 #[.slice (some ⟨vb,0,none⟩) m vc,.slice (some ⟨b,o,none⟩) lb cb]).run Tryz.prog w = .ok (.value (.bool false)) w:=by
 rw[run_callFunc_extern Tryz.func185 (by kernel_rfl) (by kernel_rfl) (by kernel_rfl) (e:=Extern.SlicesOverlaps.overlaps #[87,87] #[4]) (by kernel_rfl),
  Lib.run_overlaps_apart w 87 4 123 Tryz.underlying87 2 sizeOf_col ⟨vb,0,none⟩ ⟨b,o,none⟩ m vc lb cb hne 123 123 curA.size curB.size (by unfold World.shape?;simp[ha]) (by unfold World.shape?;simp[hb]) hz (by unfold World.frozen?;simp[ha]) (by unfold World.frozen?;simp[ha])]
 rfl
set_option maxHeartbeats 3200000 in
set_option maxRecDepth 100000 in
theorem cols_shift (b n c i vb vc:Nat) (cur:Array Value) (vs:List Value) (curV:Array Value) (w:World) (hi:i<n) (hroom:n+1≤c) (hn40:n≤1099511627776) (hc63:c≤9223372036854775807) (hvb:vb≠b)
  (hb:w.heap[b]?=some (.cells cur 123 (0,0))) (hcs:cur.size=c*2) (h1c:∀ v ∈ cur.toList.take (n*2),v.oneCell'=true)
  (hV:w.heap[vb]?=some (.cells curV 123 (0,0))) (hVl:curV.toList=vs) (hvl:vs.length=2) (h1v:∀ v ∈ vs,v.oneCell'=true) :
  Calls Tryz.prog 147 #[.slice (some ⟨b,0,none⟩) n c,.int .i64 i,.slice (some ⟨vb,0,none⟩) 1 vc] w fun e w'=>
   e = .returned (.slice (some ⟨b,0,none⟩) (n+1) c)∧w'=(w.drew.setCells b ((i+1)*2) ((cur.toList.take (n*2)).drop (i*2))).setCells b (i*2) vs:=by
 have mixed:Tryz.prog.follows .mixedOrders=true:=by kernel_rfl
 obtain ⟨cs,hcse⟩:∃ cs,cs=cur.toList.take (n*2):=⟨_,rfl⟩
 have hcl:cs.length=n*2:=by rw[hcse,List.length_take,Array.length_toList];omega
 have hcell:∀ j,j<c*2→(w.cell? ⟨b,j,none⟩).isSome=true:=fun j hj=>by
  rw[cell_of_heap hb (Array.getElem?_eq_getElem (by omega:j<cur.size))];rfl
 have hfz:∀ j,w.frozen? ⟨b,j,none⟩=false:=fun j=>frozen_of_heap hb
 have hcv:∀ j v,cs[j]?=some v→w.cell? ⟨b,j,none⟩=some v:=fun j v hj=>by
  refine cell_of_heap hb ?_
  rw[hcse,List.getElem?_take] at hj
  split at hj
  ·rw[← hj,Array.getElem?_toList]
  ·cases hj
 have hvs:∀ j v,vs[j]?=some v→w.cell? ⟨vb,j,none⟩=some v:=fun j v hj=>by
  refine cell_of_heap hV ?_
  rw[← hVl,Array.getElem?_toList] at hj
  exact hj
 have h1cs:∀ v ∈ cs,v.oneCell'=true:=by rw[hcse];exact h1c
 rw[← hcse]
 have hz2:¬ ((i:Int)=(n:Int)):=by omega
 have hov:∀ lb cb,(callFunc 185 #[.slice (some ⟨vb,0,none⟩) 1 vc,.slice (some ⟨b,(i+1)*2,none⟩) lb cb]).run Tryz.prog w = .ok (.value (.bool false)) w:=fun lb cb=>run_overlaps_col w vb b _ 1 vc lb cb curV cur hvb hV hb (by omega)
 have hdl:(cs.drop (i*2)).length=(n-i)*2:=by rw[List.length_drop,hcl];omega
 have hw1:IntKind.i64.wrap ((i:Int)+1)=(i:Int)+1:=by rw[IntKind.wrap_i64];omega
 have hw2:IntKind.i64.wrap ((n:Int)+1)=(n:Int)+1:=by rw[IntKind.wrap_i64];omega
 have hb1:(0:Int)≤(i:Int)+1:=by omega
 have hin:i≤n:=by omega
 have htn:((i:Int)+1).toNat=i+1:=by omega
 have htn2:((n:Int)+1).toNat=n+1:=by omega
 have hb2:¬ (c=i+1):=by omega
 have hb3:(i:Int)≤(n:Int)+1:=by omega
 have hb4:¬ (c=i):=by omega
 have hb5:decide ((c:Int)<(n:Int)+1)=false:=decide_eq_false (by omega)
 have hb6:((i:Int)==(n:Int))=false:=by rw[beq_eq_false_iff_ne];omega
 have hcp1:∀ ty dc sc,(Builtin.copy_ #[87,87] ty #[.slice (some ⟨b,(i+1)*2,none⟩) (n-i) dc,.slice (some ⟨b,i*2,none⟩) (n+1-i) sc]).run Tryz.prog w.drew = .ok (goInt ((n-i:Nat):Int)) (w.drew.setCells b ((i+1)*2) (cs.drop (i*2))):=fun ty dc sc=>
  run_copy_two w.drew _ _ ty 123 b ((i+1)*2) (n-i) dc ⟨b,i*2,none⟩ (n+1-i) sc (cs.drop (i*2)) (n-i) Tryz.underlying87 size_col (by simp only[Nat.min_def];split<;>omega) hdl
   (fun j v hj=>by rw[Addr.add_lit];exact hcv (i*2+j) v (by rwa [List.getElem?_drop] at hj))
   (fun j hj=>hcell _ (by omega)) (fun j hj=>hfz _) (fun v hv=>h1cs v (List.mem_of_mem_drop hv))
 obtain ⟨W1,hW1⟩:∃ W1,W1=w.drew.setCells b ((i+1)*2) (cs.drop (i*2)):=⟨_,rfl⟩
 have hsp1:∀ k,k<c*2→(W1.cell? ⟨b,k,none⟩).isSome=true:=fun k hk=>by
  rw[hW1]
  exact isSome_setCells b (cs.drop (i*2)) ((i+1)*2) w.drew (fun j hj=>hcell _ (by omega)) _ (hcell k hk)
 have hcp2:∀ (W:World),(∀ x,W.cell? x=W1.cell? x)→(∀ x,W.frozen? x=W1.frozen? x)→∀ ty dc,(Builtin.copy_ #[87,87] ty #[.slice (some ⟨b,i*2,none⟩) (n+1-i) dc,.slice (some ⟨vb,0,none⟩) 1 vc]).run Tryz.prog W = .ok (goInt 1) (W.setCells b (i*2) vs):=fun W hWc hWf ty dc=>
  run_copy_two W _ _ ty 123 b (i*2) (n+1-i) dc ⟨vb,0,none⟩ 1 vc vs 1 Tryz.underlying87 size_col (by simp only[Nat.min_def];split<;>omega) (by rw[hvl])
   (fun j v hj=>by
    rw[Addr.add_lit,Nat.zero_add,hWc,hW1,World.cell?_setCells_out b _ _ _ _ (fun h _=>absurd h hvb)]
    exact hvs j v hj)
   (fun j hj=>by rw[hWc];exact hsp1 _ (by omega)) (fun j hj=>by rw[hWf,hW1,World.frozen?_setCells];exact hfz _) h1v
 rw[← hW1] at hcp1
 clear hcell hfz hcv hvs hsp1 h1cs h1c hb hV hcse hcs hVl
 go_enter Tryz.func147,Tryz.ntmps147
 go_wp2_with (simp only[hov])
 go_region_law_o (refine step_copy_runI rfl _ _ 87 87 rfl _ _ (by simp[Act.eval,Act.put]) (by simp[Act.eval,Act.put]) (hcp1 _ _ _) ?_)
 go_wp2_with (at_builtin;refine wpList_copy_runI _ rfl _ _ 87 87 rfl _ _ rfl rfl (hcp2 _ (fun _=>rfl) (fun _=>rfl) _ _) ?_)
 go_ret
 exact ⟨rfl,rfl⟩
theorem zeroCells_size (u v:Value) (k:Nat):(Builtin.zeroCells #[u,v] k).size=k*2:=by
 simp[Builtin.zeroCells]
set_option maxHeartbeats 3200000 in
set_option maxRecDepth 100000 in
theorem cols_anew (b n c i vb vc:Nat) (cur:Array Value) (vs:List Value) (curV:Array Value) (w:World) (hi:i<n) (hnc:n≤c) (hroom:c<n+1) (hc40:c≤1099511627776)
  (hb:w.heap[b]?=some (.cells cur 123 (0,0))) (hcs:cur.size=c*2) (h1c:∀ v ∈ cur.toList.take (n*2),v.oneCell'=true)
  (hV:w.heap[vb]?=some (.cells curV 123 (0,0))) (hVl:curV.toList=vs) (hvl:vs.length=2) (h1v:∀ v ∈ vs,v.oneCell'=true) :
  Calls Tryz.prog 147 #[.slice (some ⟨b,0,none⟩) n c,.int .i64 i,.slice (some ⟨vb,0,none⟩) 1 vc] w fun e w'=>
   ∃ G cur',e = .returned (.slice (some ⟨w.heap.size,0,none⟩) (n+1) G)∧n+1≤G∧G≤maxLen∧Below w.heap.size w w'∧w'.heap[w.heap.size]?=some (.cells cur' 123 (0,0))∧cur'.size=G*2∧
    cur'.toList.take ((n+1)*2)=(cur.toList.take (n*2)).take (i*2)++vs++(cur.toList.take (n*2)).drop (i*2):=by
 have mixed:Tryz.prog.follows .mixedOrders=true:=by kernel_rfl
 obtain ⟨cs,hcse⟩:∃ cs,cs=cur.toList.take (n*2):=⟨_,rfl⟩
 have hcl:cs.length=n*2:=by rw[hcse,List.length_take,Array.length_toList];omega
 have hbw:b<w.heap.size:=(Array.getElem?_eq_some_iff.1 hb).1
 have hvw:vb<w.heap.size:=(Array.getElem?_eq_some_iff.1 hV).1
 have hcv:∀ j v,cs[j]?=some v→w.cell? ⟨b,j,none⟩=some v:=fun j v hj=>by
  refine cell_of_heap hb ?_
  rw[hcse,List.getElem?_take] at hj
  split at hj
  ·rw[← hj,Array.getElem?_toList]
  ·cases hj
 have hvs:∀ j v,vs[j]?=some v→w.cell? ⟨vb,j,none⟩=some v:=fun j v hj=>by
  refine cell_of_heap hV ?_
  rw[← hVl,Array.getElem?_toList] at hj
  exact hj
 have h1cs:∀ v ∈ cs,v.oneCell'=true:=by rw[hcse];exact h1c
 rw[← hcse]
 obtain ⟨i0,hi0,hz0⟩:=Option.map_eq_some_iff.1 info_col
 simp only[Prod.mk.injEq] at hz0
 obtain ⟨hzz,hzs,hzb⟩:=hz0
 have hkk:(n:Int)+1-(i:Int)=((n+1-i:Nat):Int):=by omega
 have hik:i+(n+1-i)=n+1:=by omega
 have hold:(Builtin.firstCells i0.size i (.slice (some ⟨b,0,none⟩) i c)).run Tryz.prog w.drew = .ok (cs.take (i*2)).toArray w.drew:=by
  rw[hzs]
  exact run_firstCells_some w.drew 2 i ⟨b,0,none⟩ i c (cs.take (i*2)) (by rw[List.length_take];omega) (fun j v hj=>by
   rw[Addr.add_lit,Nat.zero_add]
   rw[List.getElem?_take] at hj
   split at hj
   ·exact hcv j v hj
   ·cases hj)
 obtain ⟨G,hG⟩:∃ G,G=grownCap w (n+1) c 123:=⟨_,rfl⟩
 obtain ⟨ROW,hROW⟩:∃ ROW:Array Value,ROW=(cs.take (i*2)).toArray++Builtin.zeroCells #[.string ⟨#[]⟩,.int .i64 0] (n+1-i)++Builtin.zeroCells #[.string ⟨#[]⟩,.int .i64 0] (G-(n+1)):=⟨_,rfl⟩
 have hrz:∀ ty,(Builtin.append_ #[87,3] ty #[.slice (some ⟨b,0,none⟩) i c,.int .i64 ((n:Int)+1-(i:Int))]).run Tryz.prog w =
   .ok (.slice (some ⟨w.heap.size,0,none⟩) (n+1) G) (w.drew.alloc (.cells ROW 123)):=fun ty=>by
  have h:=Lib.run_append_grow_zeros w 87 3 ty 123 i0 _ .i64 .i64 Tryz.underlying87 Tryz.underlying3 hi0 hzz (some ⟨b,0,none⟩) i c (cs.take (i*2)) hold (n+1-i) (by omega) (by omega) (by omega) (by omega) (by rw[hzb];omega) (by rw[hzb,hik];exact growslice_fits hroom (by omega))
  rw[hik,← hG] at h
  rw[hkk,h,hROW]
  rfl
 have hGn:n+1≤G:=by rw[hG];exact grownCap_ge w _ _ _
 have hGm:G≤maxLen:=by rw[hG];exact grownCap_le_maxLen w (n+1) c _ (by unfold maxLen;omega)
 have hG63:G≤9223372036854775807:=by unfold maxLen at hGm;omega
 have hRl:ROW.size=G*2:=by
  rw[hROW]
  simp only[Array.size_append,zeroCells_size,List.size_toArray,List.length_take]
  omega
 obtain ⟨W1,hW1⟩:∃ W1,W1=w.drew.alloc (.cells ROW 123):=⟨_,rfl⟩
 rw[← hW1] at hrz
 have hh1:W1.heap[w.heap.size]?=some (.cells ROW 123 (0,0)):=by rw[hW1];exact heap_alloc_new w.drew _
 have hb1:Below w.heap.size w W1:=by rw[hW1];exact below_alloc (below_drew _ _) _
 have hN:∀ j,j<G*2→(W1.cell? ⟨w.heap.size,j,none⟩).isSome=true:=fun j hj=>by
  rw[cell_of_heap hh1 (Array.getElem?_eq_getElem (by omega:j<ROW.size))];rfl
 have hNf:∀ j,W1.frozen? ⟨w.heap.size,j,none⟩=false:=fun j=>frozen_of_heap hh1
 have hOb:∀ j v,w.cell? ⟨b,j,none⟩=some v→W1.cell? ⟨b,j,none⟩=some v:=fun j v h=>by rw[hb1.cell (by exact hbw)];exact h
 have hOv:∀ j v,w.cell? ⟨vb,j,none⟩=some v→W1.cell? ⟨vb,j,none⟩=some v:=fun j v h=>by rw[hb1.cell (by exact hvw)];exact h
 have hcpA:∀ (W:World),(∀ x,W.cell? x=W1.cell? x)→(∀ x,W.frozen? x=W1.frozen? x)→∀ ty dc,(Builtin.copy_ #[87,87] ty #[.slice (some ⟨w.heap.size,i*2,none⟩) (n+1-i) dc,.slice (some ⟨vb,0,none⟩) 1 vc]).run Tryz.prog W = .ok (goInt 1) (W.setCells w.heap.size (i*2) vs):=fun W hWc hWf ty dc=>
  run_copy_two W _ _ ty 123 w.heap.size (i*2) (n+1-i) dc ⟨vb,0,none⟩ 1 vc vs 1 Tryz.underlying87 size_col (by simp only[Nat.min_def];split<;>omega) (by rw[hvl])
   (fun j v hj=>by rw[Addr.add_lit,Nat.zero_add,hWc];exact hOv _ v (hvs j v hj))
   (fun j hj=>by rw[hWc];exact hN _ (by omega)) (fun j hj=>by rw[hWf];exact hNf _) h1v
 have hGi:¬ (G=i):=by omega
 have hGim:¬ (G=i+1):=by omega
 have hci:¬ (c=i):=by omega
 have hbN:b≠w.heap.size:=by omega
 have hdl:(cs.drop (i*2)).length=(n-i)*2:=by rw[List.length_drop,hcl];omega
 have hcpB:∀ (W:World),(∀ x,W.cell? x=(W1.setCells w.heap.size (i*2) vs).cell? x)→(∀ x,W.frozen? x=(W1.setCells w.heap.size (i*2) vs).frozen? x)→∀ ty dc sc,(Builtin.copy_ #[87,87] ty #[.slice (some ⟨w.heap.size,(i+1)*2,none⟩) (n-i) dc,.slice (some ⟨b,i*2,none⟩) (n-i) sc]).run Tryz.prog W = .ok (goInt ((n-i:Nat):Int)) (W.setCells w.heap.size ((i+1)*2) (cs.drop (i*2))):=fun W hWc hWf ty dc sc=>
  run_copy_two W _ _ ty 123 w.heap.size ((i+1)*2) (n-i) dc ⟨b,i*2,none⟩ (n-i) sc (cs.drop (i*2)) (n-i) Tryz.underlying87 size_col (by simp only[Nat.min_def];split<;>omega) hdl
   (fun j v hj=>by
    rw[Addr.add_lit,hWc,World.cell?_setCells_out _ _ _ _ _ (fun h _=>absurd h hbN)]
    exact hOb _ v (hcv (i*2+j) v (by rwa [List.getElem?_drop] at hj)))
   (fun j hj=>by rw[hWc];exact isSome_setCells _ vs (i*2) W1 (fun t ht=>hN _ (by omega)) _ (hN _ (by omega)))
   (fun j hj=>by rw[hWf,World.frozen?_setCells];exact hNf _) (fun v hv=>h1cs v (List.mem_of_mem_drop hv))
 have HFIN:=mk0 (show ∀ W2,W2=((w.alloc (.cells ROW 123)).drew.setCells w.heap.size (i*2) vs).drew.setCells w.heap.size ((i+1)*2) (cs.drop (i*2))→
   ∃ cur',Below w.heap.size w W2∧W2.heap[w.heap.size]?=some (.cells cur' 123 (0,0))∧cur'.size=G*2∧cur'.toList.take ((n+1)*2)=cs.take (i*2)++vs++cs.drop (i*2) from by
  intro W2 hW2
  have hq1:((w.alloc (.cells ROW 123)).drew).heap[w.heap.size]?=some (.cells ROW 123 (0,0)):=heap_alloc_new w _
  obtain ⟨c1,a1,a2,a3⟩:=setCells_row vs (i*2) _ ROW hq1 (by omega)
  obtain ⟨c2,b1',b2,b3⟩:=setCells_row (cs.drop (i*2)) ((i+1)*2) (((w.alloc (.cells ROW 123)).drew.setCells w.heap.size (i*2) vs).drew) c1 a1 (by omega)
  obtain ⟨s1,s2,s3,s4⟩:=setCells_same w.heap.size vs (i*2) ((w.alloc (.cells ROW 123)).drew)
  obtain ⟨t1,t2,t3,t4⟩:=setCells_same w.heap.size (cs.drop (i*2)) ((i+1)*2) (((w.alloc (.cells ROW 123)).drew.setCells w.heap.size (i*2) vs).drew)
  rw[← hW2] at b1' t1 t2 t3 t4
  refine ⟨c2,⟨t1.trans s1,t2.trans s2,t3.trans s3,by rw[t4];show w.heap.size≤((w.alloc _).drew.setCells w.heap.size (i*2) vs).heap.size;rw[s4];simp[World.drew],fun k hk=>?_⟩,b1',by rw[b2,a2,hRl],?_⟩
  ·rw[hW2,setCells_far _ _ k (by omega)]
   show ((w.alloc _).drew.setCells w.heap.size (i*2) vs).heap[k]?=_
   rw[setCells_far _ _ k (by omega)]
   exact (below_alloc (Below.refl w.heap.size w) _).block k hk
  ·have hR0:ROW.toList.take (i*2)=cs.take (i*2):=by
    rw[hROW]
    simp only[Array.toList_append,List.append_assoc]
    rw[List.take_append_of_le_length (by rw[List.length_take];omega),List.take_of_length_le (by rw[List.length_take];omega)]
   rw[b3,a3,hR0]
   have hl1:(cs.take (i*2)++vs).length=(i+1)*2:=by rw[List.length_append,List.length_take,hvl];omega
   rw[List.take_append_of_le_length (l₁:=cs.take (i*2)++vs) (by omega),List.take_of_length_le (l:=cs.take (i*2)++vs) (by omega),List.append_assoc,← List.append_assoc]
   rw[List.take_append_of_le_length (by rw[List.length_append,hl1,hdl];omega),List.take_of_length_le (by rw[List.length_append,hl1,hdl];omega)])
 have hE1:∀ x,((w.alloc (.cells ROW 123)).drew).cell? x=W1.cell? x:=fun x=>by rw[hW1];rfl
 have hE2:∀ x,((w.alloc (.cells ROW 123)).drew).frozen? x=W1.frozen? x:=fun x=>by rw[hW1];rfl
 have hF1:∀ x,(((w.alloc (.cells ROW 123)).drew.setCells w.heap.size (i*2) vs).drew).cell? x=(W1.setCells w.heap.size (i*2) vs).cell? x:=fun x=>by rw[hW1];rfl
 have hF2:∀ x,(((w.alloc (.cells ROW 123)).drew.setCells w.heap.size (i*2) vs).drew).frozen? x=(W1.setCells w.heap.size (i*2) vs).frozen? x:=fun x=>by rw[hW1];rfl
 have hcpA2:=fun ty dc=>hcpA _ hE1 hE2 ty dc
 have hcpB2:=fun ty dc sc=>hcpB _ hF1 hF2 ty dc sc
 rw[hW1] at hrz
 have hw1:IntKind.i64.wrap ((i:Int)+1)=(i:Int)+1:=by rw[IntKind.wrap_i64];omega
 have hw2:IntKind.i64.wrap ((n:Int)+1)=(n:Int)+1:=by rw[IntKind.wrap_i64];omega
 have hw3:IntKind.i64.wrap ((n:Int)+1-(i:Int))=(n:Int)+1-(i:Int):=by rw[IntKind.wrap_i64];omega
 have hb1':(0:Int)≤(i:Int)+1:=by omega
 have hin:i≤n:=by omega
 have htn:((i:Int)+1).toNat=i+1:=by omega
 have hb3:(i:Int)≤(n:Int):=by omega
 have hb5:decide ((c:Int)<(n:Int)+1)=true:=decide_eq_true (by omega)
 have hb6:((i:Int)==(n:Int))=false:=by rw[beq_eq_false_iff_ne];omega
 have hz2:¬ ((i:Int)=(n:Int)):=by omega
 clear hkk hik hold hROW hG hRl hcpA hcpB hE1 hE2 hF1 hF2 hN hNf hOb hOv hcv hvs h1cs h1c hb hV hcse hcs hVl hh1 hb1 hW1 hi0 hzz hzs hzb
 go_enter Tryz.func147,Tryz.ntmps147
 go_wp2_with (first
  | (at_builtin;refine Lib.wpList_append_run _ rfl _ _ _ _ rfl _ _ rfl rfl _ _ (hrz _) ?_)
  | (at_builtin;refine wpList_copy_runI _ rfl _ _ 87 87 rfl _ _ rfl rfl (hcpA2 _ _) ?_))
 go_region_law_o (refine step_copy_runI rfl _ _ 87 87 rfl _ _ (by simp[Act.eval,Act.put]) (by simp[Act.eval,Act.put]) (hcpB2 _ _ _) ?_)
 obtain ⟨cur',q1,q2,q3,q4⟩:=HFIN.out _ rfl
 have HQ:=mk0 (And.intro q1 (And.intro q2 (And.intro q3 q4)))
 clear q1 q2 q3 q4 HFIN hrz hcpA2 hcpB2
 generalize ((w.alloc (.cells ROW 123)).drew.setCells w.heap.size (i*2) vs).drew.setCells w.heap.size ((i+1)*2) (cs.drop (i*2))=W2 at *
 go_wp2
 go_ret
 exact ⟨G,cur',rfl,hGn,hGm,HQ.out.1,HQ.out.2.1,HQ.out.2.2.1,HQ.out.2.2.2⟩
def flatC (xs:List ColM):List Value:=(xs.map ColM.cells).flatten
theorem flatC_len (xs:List ColM):(flatC xs).length=xs.length*2:=by
 induction xs with
 | nil=>rfl
 | cons x t ih=>unfold flatC at *;rw[List.map_cons,List.flatten_cons,List.length_append,ih];simp[ColM.cells];omega
theorem flatC_append (a b:List ColM):flatC (a++b)=flatC a++flatC b:=by simp[flatC]
theorem flatC_split (xs:List ColM) (i:Nat) (h:i≤xs.length):(flatC xs).take (i*2)=flatC (xs.take i)∧(flatC xs).drop (i*2)=flatC (xs.drop i):=by
 have e:flatC xs=flatC (xs.take i)++flatC (xs.drop i):=by rw[← flatC_append,List.take_append_drop]
 have hl:(flatC (xs.take i)).length=i*2:=by rw[flatC_len,List.length_take];omega
 rw[e]
 exact ⟨List.take_left' hl,List.drop_left' hl⟩
theorem flatC_one (xs:List ColM):∀ v ∈ flatC xs,v.oneCell'=true:=by
 intro v hv
 unfold flatC at hv
 rw[List.mem_flatten] at hv
 obtain ⟨l,hl,hv⟩:=hv
 rw[List.mem_map] at hl
 obtain ⟨x,_,rfl⟩:=hl
 unfold ColM.cells at hv
 simp only[List.mem_cons,List.not_mem_nil,or_false] at hv
 rcases hv with rfl | rfl<;>rfl
theorem reps_flatC {R:ColM→List Value→Prop} (hR:∀ p c,R p c→c=p.cells):∀ (xs:List ColM) (inner:List Value),Reps R 2 xs inner→inner=flatC xs
 | [],inner,h=>List.eq_nil_of_length_eq_zero (by have:=h.1;simpa using this)
 | x :: t,inner,h=>by
  have h0:=hR _ _ (h.2 0 x rfl)
  rw[Nat.zero_mul,List.drop_zero] at h0
  have ht:Reps R 2 t (inner.drop 2):=⟨by rw[List.length_drop,h.1,List.length_cons];omega,fun j p hj=>by
   have:=h.2 (j+1) p (by simpa using hj)
   rw[List.drop_drop]
   rwa [show 2+j*2=(j+1)*2 by omega]⟩
  have:=reps_flatC hR t _ ht
  rw[← List.take_append_drop 2 inner,h0,this]
  rfl
theorem reps_of_flatC {R:ColM→List Value→Prop} (hR:∀ p,R p p.cells) (xs:List ColM):Reps R 2 xs (flatC xs):=⟨flatC_len xs,fun j p hj=>by
 have hjl:j<xs.length:=(List.getElem?_eq_some_iff.1 hj).1
 rw[(flatC_split xs j (by omega)).2,List.drop_eq_getElem_cons hjl,(List.getElem?_eq_some_iff.1 hj).2]
 show R p ((p.cells++flatC _).take 2)
 rw[List.take_left' (show p.cells.length=2 from rfl)]
 exact hR p⟩
theorem kl_R_open {w:World} {base e:Nat} {v:Value} {xs:List ColM} (h:kl.R e w base (fun _=>True) v xs) (hp:0<xs.length) :
  ∃ g cap cur,v = .slice (some ⟨g,0,none⟩) xs.length cap∧base≤g∧w.heap[g]?=some (.cells cur e (0,0))∧xs.length≤cap∧cap≤maxLen∧cur.size=cap*2∧cur.toList.take (xs.length*2)=flatC xs:=by
 obtain ⟨_,inner,ho,hr⟩:=h
 rcases ho.2 with ⟨_,hx0⟩ | ⟨g,cap,cur,hv,hb,hh,hnc,hcm,hcs,htake⟩
 ·omega
 ·exact ⟨g,cap,cur,hv,hb,hh,hnc,hcm,hcs,htake.trans (reps_flatC (fun p c hpc=>kl_K (kl.K_of_M hpc)) xs inner hr)⟩
theorem kl_R_close {w:World} {base e g cap:Nat} {cur:Array Value} {xs:List ColM} (hb:base≤g) (hh:w.heap[g]?=some (.cells cur e (0,0))) (hn:xs.length≤cap) (hm:cap≤maxLen) (hs:cur.size=cap*2) (ht:cur.toList.take (xs.length*2)=flatC xs) :
  kl.R e w base (fun _=>True) (.slice (some ⟨g,0,none⟩) xs.length cap) xs:=
 ⟨fun _ _=>trivial,flatC xs,⟨flatC_len xs,.inr ⟨g,cap,cur,rfl,hb,hh,hn,hm,hs,ht⟩⟩,reps_of_flatC (fun p=>kl_M p) xs⟩
section
variable {P:Program} {ops:Array Oper} {rest:List Oper} {o:Oper} {a:Act} {Q:Exit→Act→World→Prop}
theorem kl_append {W:World} (s x:Operand) (t e:TypeId) (v:Value) (xs:List ColM) (p:ColM) (base:Nat)
  (hgd:o.guard=none) (ho:o.op = .call { callee:=.builtin .append,args:=#[s,x],argTypes:=#[t,t] })
  (ht:P.underlying t=some (.slice e)) (hinfo:(P.info? e).map (fun i=>(i.zero,i.size,i.bytes))=some (some (.agg #[.string ⟨#[]⟩,.int .i64 0]),2,24))
  (hs:a.eval s=v) (hx:a.eval x = .slice (some ⟨W.heap.size,0,none⟩) 1 1)
  (HO:kl.R e W base (fun _=>True) v xs) (hbase:base≤W.heap.size) (hl:xs.length≤1099511627776)
  (h:∀ v1 w1,kl.R e w1 base (fun _=>True) v1 (xs++[p])→Below base W w1→W.grownBy w1 v.ownBlock→(v1.ownBlock=v.ownBlock∨∃ b,v1.ownBlock=some b∧W.heap.size≤b)→wpList P ops Q rest (a.put o.dst v1) w1) :
  wpList P ops Q (o :: rest) a (W.alloc (.cells #[.string p.name,.int .i64 p.kind] e)):=
 Kd.R_append kl (w0:=W) base hgd s x t e (.agg #[.string ⟨#[]⟩,.int .i64 0]) 24 ho ht hinfo rfl (by decide) (by decide) v xs p p.cells (fun _=>True) (fun _=>False) hs hx (kl_M p) (fun _ hk=>hk.elim) (fun _ _=>trivial)
  HO (Below.refl _ _) hbase (by omega) h
end
def insL (xs:List ColM) (i:Nat) (x:ColM):List ColM:=xs.take i++x :: xs.drop i
theorem insL_len (xs:List ColM) (i:Nat) (x:ColM) (h:i≤xs.length):(insL xs i x).length=xs.length+1:=by
 unfold insL;rw[List.length_append,List.length_cons,List.length_take,List.length_drop];omega
theorem flatC_insL (xs:List ColM) (i:Nat) (x:ColM) (h:i≤xs.length):flatC (insL xs i x)=(flatC xs).take (i*2)++x.cells++(flatC xs).drop (i*2):=by
 rw[(flatC_split xs i h).1,(flatC_split xs i h).2,List.append_assoc]
 unfold insL
 rw[flatC_append]
 rfl
set_option maxHeartbeats 3200000 in
set_option maxRecDepth 100000 in
theorem cols_end {W:World} {base:Nat} {v:Value} {xs:List ColM} (h:kl.R 123 W base (fun _=>True) v xs) (hbase:base≤W.heap.size) (x:ColM) (hl:xs.length≤1099511627776) :
  Calls Tryz.prog 147 #[v,.int .i64 xs.length,.slice (some ⟨W.heap.size,0,none⟩) 1 1] (W.alloc (.cells #[.string x.name,.int .i64 x.kind] 123)) fun e w'=>
   ∃ v',e = .returned v'∧kl.R 123 w' base (fun _=>True) v' (xs++[x])∧Below base W w':=by
 obtain ⟨A,c,rfl⟩:=Kd.R_slice h
 have HO:=mk0 h
 have HB:=mk0 hbase
 have hli:(xs.length:Int)≤1099511627776:=by omega
 have hb6:((xs.length:Int)==(xs.length:Int))=true:=by simp
 have hxc:xs.length≤c:=(Kd.R_reads' h).2.1
 clear h hbase
 have HL:=mk0 hl
 go_enter Tryz.func147,Tryz.ntmps147
 go_wp2_with (at_builtin;go_loud (refine kl_append (W:=W) (.tmp 23) (.tmp 24) 87 123 (.slice A xs.length c) xs x base rfl rfl Tryz.underlying87 info_col rfl rfl HO.out HB.out HL.out ?_))
 all_goals
  intro v1 w1 hr hb hg hat
  obtain ⟨A1,c1,rfl⟩:=Kd.R_slice hr
  have H1:=mk0 (And.intro hr hb)
  clear hr hb hg hat
  go_wp2
  go_ret
  exact ⟨_,rfl,H1.out.1,H1.out.2⟩
theorem setCells_below {base g:Nat} (hb:base≤g) (vs:List Value) (o:Nat) (w:World):Below base w (w.setCells g o vs):=by
 obtain ⟨h1,h2,h3,h4⟩:=setCells_same g vs o w
 exact ⟨h1,h2,h3,by rw[h4];exact Nat.le_refl _,fun k hk=>setCells_far vs o k (by omega)⟩
theorem cols_Insert {W:World} {base:Nat} {v:Value} {xs:List ColM} (h:kl.R 123 W base (fun _=>True) v xs) (hbase:base≤W.heap.size) (x:ColM) (i:Nat) (hi:i≤xs.length) (hl:xs.length≤1099511627776) :
  Calls Tryz.prog 147 #[v,.int .i64 i,.slice (some ⟨W.heap.size,0,none⟩) 1 1] (W.alloc (.cells #[.string x.name,.int .i64 x.kind] 123)) fun e w'=>
   ∃ v',e = .returned v'∧kl.R 123 w' base (fun _=>True) v' (insL xs i x)∧Below base W w':=by
 rcases Nat.lt_or_ge i xs.length with hlt | hge
 case inr=>
  obtain rfl:i=xs.length:=by omega
  have:=cols_end h hbase x hl
  unfold insL
  rw[List.take_length,List.drop_length]
  exact this
 obtain ⟨g,cap,cur,rfl,hbg,hh,hnc,hcm,hcs,htake⟩:=kl_R_open h (by omega)
 have hgW:g<W.heap.size:=(Array.getElem?_eq_some_iff.1 hh).1
 have hBa:Below W.heap.size W (W.alloc (.cells #[.string x.name,.int .i64 x.kind] 123)):=below_alloc (Below.refl _ _) _
 have hh2:=(hBa.block g hgW).trans hh
 have hV:=heap_alloc_new W (.cells #[.string x.name,.int .i64 x.kind] 123)
 have h1c:∀ v ∈ cur.toList.take (xs.length*2),v.oneCell'=true:=by rw[htake];exact flatC_one xs
 have h1v:∀ v ∈ x.cells,v.oneCell'=true:=by
  intro v hv
  unfold ColM.cells at hv
  simp only[List.mem_cons,List.not_mem_nil,or_false] at hv
  rcases hv with rfl | rfl<;>rfl
 rcases Nat.lt_or_ge cap (xs.length+1) with hc | hc
 ·refine (cols_anew g xs.length cap i W.heap.size 1 cur x.cells _ _ hlt hnc hc (by omega) hh2 hcs h1c hV rfl rfl h1v).mono ?_
  rintro e w' ⟨G,cur',rfl,q1,q2,q3,q4,q5,q6⟩
  have hb1:Below base W w':=(hBa.mono hbase).trans (q3.mono (by simp;omega))
  refine ⟨_,rfl,?_,hb1⟩
  have:=kl_R_close (base:=base) (xs:=insL xs i x) (Nat.le_trans hbase (by simp)) q4 (by rw[insL_len _ _ _ hi];exact q1) q2 q5 (by rw[insL_len _ _ _ hi,flatC_insL _ _ _ hi,q6,htake])
  rwa [insL_len _ _ _ hi] at this
 ·refine (cols_shift g xs.length cap i W.heap.size 1 cur x.cells _ _ hlt hc hl (by unfold maxLen at hcm;omega) (by omega) hh2 hcs h1c hV rfl rfl h1v).mono ?_
  rintro e w' ⟨rfl,rfl⟩
  have hcl:cur.toList.length=cap*2:=by rw[Array.length_toList,hcs]
  have hl0:=flatC_len xs
  have hx2:x.cells.length=2:=rfl
  have hld:((flatC xs).drop (i*2)).length=(xs.length-i)*2:=by rw[List.length_drop,hl0];omega
  have hlt1:((flatC xs).take ((i+1)*2)).length=(i+1)*2:=by rw[List.length_take,hl0];omega
  obtain ⟨c1,a1,a2,a3⟩:=setCells_row ((cur.toList.take (xs.length*2)).drop (i*2)) ((i+1)*2) (W.alloc (.cells #[.string x.name,.int .i64 x.kind] 123)).drew cur hh2 (by rw[htake,hld,hcs];omega)
  obtain ⟨c2,b1,b2,b3⟩:=setCells_row x.cells (i*2) _ c1 a1 (by rw[a2,hcs];show i*2+2≤_;omega)
  refine ⟨_,rfl,?_,(hBa.mono hbase).trans ((below_drew _ _).trans ((setCells_below hbg _ _ _).trans (setCells_below hbg _ _ _)))⟩
  have:=kl_R_close (base:=base) (xs:=insL xs i x) hbg b1 (cap:=cap) (by rw[insL_len _ _ _ hi];omega) hcm (by rw[b2,a2,hcs]) (by
   have e0:cur.toList.take ((i+1)*2)=(flatC xs).take ((i+1)*2):=by rw[← htake,List.take_take,Nat.min_eq_left (by omega)]
   rw[e0,htake] at a3
   have k1:c1.toList.take (i*2)=(flatC xs).take (i*2):=by
    rw[a3,List.append_assoc,List.take_append_of_le_length (by omega),List.take_take,Nat.min_eq_left (by omega)]
   have k2:c1.toList.drop (i*2+x.cells.length)=(flatC xs).drop (i*2)++cur.toList.drop ((i+1)*2+((flatC xs).drop (i*2)).length):=by
    rw[a3,List.append_assoc,hx2,show i*2+2=(i+1)*2 by omega,List.drop_left' hlt1]
   rw[insL_len _ _ _ hi,flatC_insL _ _ _ hi,b3,k1,k2,← List.append_assoc]
   have hlen:((flatC xs).take (i*2)++x.cells++(flatC xs).drop (i*2)).length=(xs.length+1)*2:=by rw[List.length_append,List.length_append,List.length_take,hl0,hx2,hld];omega
   rw[List.take_append_of_le_length (by omega),List.take_of_length_le (by omega)])
  rwa [insL_len _ _ _ hi] at this
end Go.Proofs.YtpiobnfakmmpdaaGreat.Lib0

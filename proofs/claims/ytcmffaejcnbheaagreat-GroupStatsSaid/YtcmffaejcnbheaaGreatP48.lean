import Derived.Test.YtcmffaejcnbheaaGreatP24
set_option linter.unusedVariables false
set_option linter.unusedSimpArgs false
namespace Go.Proofs.YtcmffaejcnbheaaGreat.Lib0
open Go.RowKit Go.Proofs.YtcmffaejcnbheaaGreatW.PrintWords Go.ChangeMaps
set_option maxHeartbeats 3200000 in
set_option maxRecDepth 100000 in
theorem ref_Cell (t s:Int) (A:Option Addr) (cap:Nat) (l:List CellM) (col:ByteArray) (w:World) (h:kc.C w A l.length l) :
  Calls Tryz.prog 88 #[.agg #[.int .i64 t,.int .i64 s,.slice A l.length cap],.string col] w fun e w'=>e = .returned (.agg (cellOf l col).cells.toArray)∧Below w.heap.size w w':=by
 obtain ⟨r,hr⟩:∃ r,r=cellOf l col:=⟨_,rfl⟩
 rw[← hr]
 have HR:=mk0 (show r=cellOf (l.drop 0) col from hr)
 clear hr
 have HC:=mk0 h
 have hl63:=h.2.1
 clear h
 have B0:=below_alloc (Below.refl w.heap.size w) (.cells #[.int .i64 t,.int .i64 s,.slice A l.length cap] 76)
 have B1:=below_alloc (Below.refl (w.alloc (.cells #[.int .i64 t,.int .i64 s,.slice A l.length cap] 76)).heap.size (w.alloc (.cells #[.int .i64 t,.int .i64 s,.slice A l.length cap] 76))) (.cells #[.string ⟨#[]⟩,.int .i64 0,.int .i64 0,.string ⟨#[]⟩] 78)
 have HB:=mk0 (B0.trans (B1.mono (by simp)))
 have HN:=mk0 (show ((w.alloc (.cells #[.int .i64 t,.int .i64 s,.slice A l.length cap] 76)).alloc (.cells #[.string ⟨#[]⟩,.int .i64 0,.int .i64 0,.string ⟨#[]⟩] 78)).heap[w.heap.size+1]?=some (.cells #[.string ⟨#[]⟩,.int .i64 0,.int .i64 0,.string ⟨#[]⟩] 78) by
  have:=heap_alloc_new (w.alloc (.cells #[.int .i64 t,.int .i64 s,.slice A l.length cap] 76)) (.cells #[.string ⟨#[]⟩,.int .i64 0,.int .i64 0,.string ⟨#[]⟩] 78)
  rwa [show (w.alloc (.cells #[.int .i64 t,.int .i64 s,.slice A l.length cap] 76)).heap.size=w.heap.size+1 by simp] at this)
 have HX0:=mk0 (show ((w.alloc (.cells #[.int .i64 t,.int .i64 s,.slice A l.length cap] 76)).alloc (.cells #[.string ⟨#[]⟩,.int .i64 0,.int .i64 0,.string ⟨#[]⟩] 78)).heap[w.heap.size]?=some (.cells #[.int .i64 t,.int .i64 s,.slice A l.length cap] 76) from (heap_alloc_old _ _ (by simp)).trans (heap_alloc_new w _))
 clear B0 B1
 go_enter Tryz.func88,Tryz.ntmps88
 go_wp2_with fail
 go_loopw[5] (fun v3 wr=>∃ (k:Nat),k≤l.length∧v3 = .int .i64 k∧Aside0 (r=cellOf (l.drop k) col)∧Aside0 (Below w.heap.size w wr)∧Aside0 (wr.heap[w.heap.size+1]?=some (.cells #[.string ⟨#[]⟩,.int .i64 0,.int .i64 0,.string ⟨#[]⟩] 78))∧Aside0 (wr.heap[w.heap.size]?=some (.cells #[.int .i64 t,.int .i64 s,.slice A l.length cap] 76))) (fun i _=>l.length-(intOf i).toNat)
 case atStart=>exact ⟨0,by omega,rfl,HR,HB,HN,HX0⟩
 case round=>
  clear HR HB HN HX0
  obtain ⟨k,hk,rfl,HE,HB,HN,HX⟩:=hrel
  have hx2:=cell_of_heap (i:=2) HX.out rfl
  by_cases hlt:k<l.length
  ·have hlt2:(k:Int)<l.length:=by omega
   obtain ⟨b,o,rfl,hx⟩:=kc_open (Kd.C_below HC.out HB.out) (by omega)
   obtain ⟨z0,z1,z2,z3⟩:=hx k hlt
   have HE2:=mk0 (show r=if l[k].col=col then l[k] else cellOf (l.drop (k+1)) col by rw[HE.out,List.drop_eq_getElem_cons hlt,cellOf])
   obtain ⟨c,hc⟩:∃ c,c=l[k]:=⟨_,rfl⟩
   rw[← hc] at z0 z1 z2 z3 HE2
   clear hc hx HE
   have hws:w.heap.size+1<wr.heap.size:=(Array.getElem?_eq_some_iff.1 HN.out).1
   by_cases hcc:c.col=col
   ·have hb:(c.col.toList==col.toList)=true:=by rw[hcc];simp
    have HS:=mk0 (show r=c by rw[HE2.out,if_pos hcc])
    have hn0:=HN.out
    have e0:=frozen_of_heap (i:=0) hn0
    have e1:=frozen_of_heap (i:=1) hn0
    have e2:=frozen_of_heap (i:=2) hn0
    have e3:=frozen_of_heap (i:=3) hn0
    have c0:wr.cell? ⟨w.heap.size+1,0,none⟩=some (.string ⟨#[]⟩):=cell_of_heap (i:=0) hn0 rfl
    have c1:wr.cell? ⟨w.heap.size+1,1,none⟩=some (.int .i64 0):=cell_of_heap (i:=1) hn0 rfl
    have c2:wr.cell? ⟨w.heap.size+1,2,none⟩=some (.int .i64 0):=cell_of_heap (i:=2) hn0 rfl
    have c3:wr.cell? ⟨w.heap.size+1,3,none⟩=some (.string ⟨#[]⟩):=cell_of_heap (i:=3) hn0 rfl
    have hne:¬ (w.heap.size+1=wr.heap.size):=by omega
    have s4:=set4 hn0 (.string c.col) (.int .i64 c.kind) (.int .i64 c.n) (.string c.s)
    have sA:=s4
    have g0:=cell_of_heap (i:=0) sA rfl
    have g1:=cell_of_heap (i:=1) sA rfl
    have g2:=cell_of_heap (i:=2) sA rfl
    have g3:=cell_of_heap (i:=3) sA rfl
    have G:=mk0 (And.intro g0 (And.intro g1 (And.intro g2 g3)))
    have HF:=mk0 (HB.out.trans (((((Below.refl w.heap.size _).setCell (p:=⟨w.heap.size+1,0,none⟩) (by simp) (.string c.col)).setCell (p:=⟨w.heap.size+1,1,none⟩) (by simp) (.int .i64 c.kind)).setCell (p:=⟨w.heap.size+1,2,none⟩) (by simp) (.int .i64 c.n)).setCell (p:=⟨w.heap.size+1,3,none⟩) (by simp) (.string c.s)))
    clear hn0 hcc HE2 s4 sA g0 g1 g2 g3
    go_wp2
    generalize ((((wr.setCell ⟨w.heap.size+1,0,none⟩ (.string c.col)).setCell ⟨w.heap.size+1,1,none⟩ (.int .i64 c.kind)).setCell ⟨w.heap.size+1,2,none⟩ (.int .i64 c.n)).setCell ⟨w.heap.size+1,3,none⟩ (.string c.s))=Wf at *
    obtain ⟨g0,g1,g2,g3⟩:=G.out
    refine bodyPost_ret (v:=.agg #[.string c.col,.int .i64 c.kind,.int .i64 c.n,.string c.s]) (by simp[results,Tryz.results88,go_sem,g0,g1,g2,g3]) rfl ?_
    exact ⟨by rw[HS.out];rfl,HF.out⟩
   ·have hb:(c.col.toList==col.toList)=false:=by rw[beq_eq_false_iff_ne];exact fun h=>hcc (toList_inj h)
    have HE3:=mk0 (show r=cellOf (l.drop (k+1)) col by rw[HE2.out,if_neg hcc])
    clear hcc HE2
    go_wp2
    go_roundw
    case rel=>exact ⟨k+1,by omega,by go_num,HE3,HB,HN,HX⟩
    case measure=>simp[intOf];omega
  ·have hlt2:¬ (k:Int)<l.length:=by omega
   have HS:=mk0 (show r=⟨⟨#[]⟩,0,0,⟨#[]⟩⟩ by rw[HE.out,List.drop_eq_nil_of_le (by omega)];rfl)
   have hn2:=HN.out
   have e0:=frozen_of_heap (i:=0) hn2
   have e1:=frozen_of_heap (i:=1) hn2
   have e2:=frozen_of_heap (i:=2) hn2
   have e3:=frozen_of_heap (i:=3) hn2
   have c0:=cell_of_heap (i:=0) hn2 rfl
   have c1:=cell_of_heap (i:=1) hn2 rfl
   have c2:=cell_of_heap (i:=2) hn2 rfl
   have c3:=cell_of_heap (i:=3) hn2 rfl
   have s4:=set4 hn2 (.string ⟨#[]⟩) (.int .i64 0) (.int .i64 0) (.string ⟨#[]⟩)
   have g0:=cell_of_heap (i:=0) s4 rfl
   have g1:=cell_of_heap (i:=1) s4 rfl
   have g2:=cell_of_heap (i:=2) s4 rfl
   have g3:=cell_of_heap (i:=3) s4 rfl
   have G:=mk0 (And.intro g0 (And.intro g1 (And.intro g2 g3)))
   have HF:=mk0 (HB.out.trans (((((Below.refl w.heap.size _).setCell (p:=⟨w.heap.size+1,0,none⟩) (by simp) (.string ⟨#[]⟩)).setCell (p:=⟨w.heap.size+1,1,none⟩) (by simp) (.int .i64 0)).setCell (p:=⟨w.heap.size+1,2,none⟩) (by simp) (.int .i64 0)).setCell (p:=⟨w.heap.size+1,3,none⟩) (by simp) (.string ⟨#[]⟩)))
   clear hn2 s4 g0 g1 g2 g3
   go_wp2
   generalize ((((wr.setCell ⟨w.heap.size+1,0,none⟩ (.string ⟨#[]⟩)).setCell ⟨w.heap.size+1,1,none⟩ (.int .i64 0)).setCell ⟨w.heap.size+1,2,none⟩ (.int .i64 0)).setCell ⟨w.heap.size+1,3,none⟩ (.string ⟨#[]⟩))=Wf at *
   obtain ⟨g0,g1,g2,g3⟩:=G.out
   refine bodyPost_ret (v:=.agg #[.string ⟨#[]⟩,.int .i64 0,.int .i64 0,.string ⟨#[]⟩]) (by simp[results,Tryz.results88,go_sem,g0,g1,g2,g3]) rfl ?_
   exact ⟨by rw[HS.out];rfl,HF.out⟩
set_option maxHeartbeats 3200000 in
set_option maxRecDepth 100000 in
theorem ref_Column (B:Option Addr) (d:Nat) (H:List RowH) (L:List (List CellM)) (name:ByteArray) (w:World) (hH:kr.C w B H.length H) (hL:RowsOn w H L) (hl:H.length≤1099511627776) :
  Calls Tryz.prog 49 #[.slice B H.length d,.string name] w fun e w'=>
   ∃ A c,e = .returned (.slice A H.length c)∧kc.R 78 w' w.heap.size (fun _=>True) (.slice A H.length c) (columnB (rowsM H L) name)∧Below w.heap.size w w':=by
 have HH:=mk0 hH
 have HL:=mk0 hL
 have hH63:=hH.2.1
 have HLL:=mk0 hl
 have HLM:=mk0 (rowsM_len H L hL.1)
 clear hH hL
 go_enter Tryz.func49,Tryz.ntmps49
 go_wp2_with fail
 go_loopw[5,6] (fun v5 v11 wr=>∃ (k:Nat) (l1:List CellM),k≤H.length∧v11 = .int .i64 k∧Aside0 (l1=((rowsM H L).take k).map fun r=>bareC (cellOf r.cs name))∧Aside0 (kc.R 78 wr w.heap.size (fun _=>True) v5 l1)∧Aside0 (Below w.heap.size w wr)) (fun _ i _=>H.length-(intOf i).toNat)
 case atStart=>exact ⟨0,[],by omega,rfl,⟨rfl⟩,⟨Kd.R_nil _ _ _ _ _⟩,⟨Below.refl _ _⟩⟩
 case round=>
  obtain ⟨k,l1,hk,rfl,HE,HRR,HB⟩:=hrel
  have HL1:=mk0 (show l1.length=k by rw[HE.out,List.length_map,List.length_take,HLM.out];omega)
  obtain ⟨A1,c1,hv0⟩:=Kd.R_slice HRR.out
  subst hv0
  by_cases hlt:k<H.length
  case neg=>
   have hlt2:¬ (k:Int)<H.length:=by omega
   have hkh:k=H.length:=by omega
   have HS:=mk0 (show l1=columnB (rowsM H L) name by rw[HE.out,List.take_of_length_le (by rw[HLM.out];omega)];rfl)
   have HL2:=mk0 (show l1.length=H.length by have:=HL1.out;omega)
   clear hkh
   go_wp2
   go_ret
   exact ⟨A1,c1,by rw[← HL2.out];rfl,by rw[← HS.out,← HL2.out];exact HRR.out,HB.out⟩
  have hlt2:(k:Int)<H.length:=by omega
  have hkL:k<L.length:=by have:=HL.out.1;omega
  have hkM:k<(rowsM H L).length:=by rw[HLM.out];exact hlt
  have HE2:=mk0 (show l1++[bareC (cellOf L[k] name)]=((rowsM H L).take (k+1)).map fun r=>bareC (cellOf r.cs name) by
   rw[List.take_succ_eq_append_getElem hkM,List.map_append,← HE.out,rowsM_get H L k hlt hkL hkM];rfl)
  obtain ⟨b,o,rfl,hx⟩:=kr_open (Kd.C_below HH.out HB.out) (by omega)
  obtain ⟨z0,z1,z2⟩:=hx k hlt
  obtain ⟨n1,n2,n3⟩:=HL.out.2 k hlt hkL
  obtain ⟨hd,hhd⟩:∃ hd,hd=H[k]:=⟨_,rfl⟩
  obtain ⟨cs,hcs⟩:∃ cs,cs=L[k]:=⟨_,rfl⟩
  rw[← hhd,← hcs] at n1 n2 n3
  rw[← hhd] at z0 z1 z2
  rw[← hcs] at HE2
  obtain ⟨ht,hs,hA,hn,hc⟩:=hd
  dsimp only at n1 n2 n3 z0 z1 z2
  subst n1
  clear hhd hcs hx hkM HE
  have HBA:=HB
  have HRA:=HRR
  have HRC:=mk0 (ref_Cell ht hs hA hc cs name _ (Kd.C_below n3 HBA.out))
  obtain ⟨y,hy⟩:∃ y,y=cellOf cs name:=⟨_,rfl⟩
  rw[← hy] at HE2 HRC
  unfold CellM.cells at HRC
  clear n3 HRR HB hy
  go_wp2_with fail
  (with_reducible refine HRC.out.mono ?_)
  rintro e w2 ⟨rfl,hb⟩
  have HB2:=mk0 (HBA.out.trans (hb.mono HBA.out.size))
  have HR2:=mk0 (Kd.R_below HRA.out hb)
  clear hb HRC HBA HRA z0 z1 z2
  have HB3:=mk0 (below_alloc HB2.out (.cells #[.string ⟨#[]⟩,.int .i64 y.kind,.int .i64 y.n,.string y.s] 78))
  have HR3:=mk0 (Kd.R_alloc HR2.out (.cells #[.string ⟨#[]⟩,.int .i64 y.kind,.int .i64 y.n,.string y.s] 78))
  have H1:=mk0 (show l1.length≤1099511627776 by have:=HLL.out;have:=HL1.out;omega)
  go_wp2_with (at_builtin;go_loud (refine kc_append (W:=w2.alloc (.cells #[.string ⟨#[]⟩,.int .i64 y.kind,.int .i64 y.n,.string y.s] 78)) (.tmp 21) (.tmp 23) 74 78 (.slice A1 l1.length c1) l1 (bareC y) w.heap.size rfl rfl Tryz.underlying74 info_cell rfl (by show Value.slice (some ⟨_,0,none⟩) 1 1=_;simp) HR3.out HB3.out.size H1.out ?_))
  intro v1 w3 hr3 hb3 _ _
  obtain ⟨A3,c3,rfl⟩:=Kd.R_slice hr3
  have HR4:=mk0 hr3
  have HB4:=mk0 (HB3.out.trans hb3)
  clear hr3 hb3
  generalize l1++[bareC y]=l3 at *
  go_wp2
  go_roundw
  case rel=>exact ⟨k+1,l3,by omega,by go_num,HE2,HR4,HB4⟩
  case measure=>simp[intOf];omega
end Go.Proofs.YtcmffaejcnbheaaGreat.Lib0

import Derived.Test.YtplnodcbbcdcgaaGreatP42
set_option linter.unusedVariables false
set_option linter.unusedSimpArgs false
namespace Go.Proofs.YtplnodcbbcdcgaaGreat.Lib0
open Go.RowKit Go.Proofs.YtplnodcbbcdcgaaGreatW.PrintWords Go.ChangeMaps
def OpenSS (w:World) (b:List UInt8) (e:Ending) (w':World):Prop:=
 (openS b=none∧e = .returned (.tuple #[.pointer none,.int .i64 12])∧Below w.heap.size w w')∨
 (∃ (M:List RowM) (PT:List Nat) (sg:Nat),openS b=some M∧e = .returned (.tuple #[.pointer (some ⟨sg,0,none⟩),.int .i64 0])∧w.heap.size≤sg∧SegAt w' sg M PT∧Below w.heap.size w w')
set_option maxHeartbeats 6400000 in
set_option maxRecDepth 100000 in
theorem seg_Open (A:Option Addr) (c:Nat) (b:List UInt8) (w:World) (h:u8.C w A b.length b) (hc:b.length≤c) (hl:b.length≤17179869184) :
  Calls Tryz.prog 11 #[.slice A b.length c] w (OpenSS w b):=by
 have mixed:Tryz.prog.follows .mixedOrders=true:=by kernel_rfl
 have late:Tryz.prog.follows .lateStores=true:=by kernel_rfl
 have HAL:=mk0 (block_All A c b w h hc (by omega))
 have HC:=mk0 h
 obtain ⟨tl,htl,_,hsm,_⟩:=allB_is b
 have hble:(allB b).1.length≤b.length:=by
  have h1:=congrArg List.length htl
  have h2:=recs_len (allB b).1
  rw[List.length_append] at h1
  omega
 clear htl
 have HSM:=mk0 hsm
 have HBL:=mk0 hble
 have HOP:=mk0 (show openS b=if (allB b).2.2≠0∨(allB b).1 = [] then none else match rowsQ (allB b).1.tail with
  | none=>none
  | some M=>if writeS M=(b,0) then some M else none from rfl)
 have HLB:=mk0 hl
 have HXS:=mk0 (show ∀ M,writeS M=(b,0)→(∀ r ∈ M,∀ c ∈ r.cs,I64 c.n)→(allB b).1.tail=(pcs (nP M) M).map (fun m=>bytesM m) from fun M hM hi=>by
  obtain ⟨h0,h1,h2,h3⟩:=writeS_ok hM
  rw[h3,show allB (segB M)=(blks M,((segB M).length:Int),0) from allB_end _ (blks_small h2 h1 hi)]
  rfl)
 generalize allB b=r at *
 obtain ⟨bs,at_,why⟩:=r
 simp only at HSM HBL HOP HAL HXS
 clear h hsm hl hble
 go_enter Tryz.func11,Tryz.ntmps11
 go_wp2_with fail
 (with_reducible refine HAL.out.mono ?_)
 rintro e w1 ⟨v,rfl,hr1,hb1⟩
 obtain ⟨A4,c4,rfl,hc4,hC4⟩:=Kd.R_reads hr1
 have B1:=mk0 hb1
 have C4:=mk0 hC4
 have CC4:=mk0 hc4
 clear hr1 hb1 hC4 hc4 HAL
 by_cases hw:why=0
 case neg=>
  have hwb:(why != 0)=true:=by rw[bne_iff_ne];exact hw
  have HON:=mk0 (show openS b=none by rw[HOP.out,if_pos (.inl hw)])
  clear HOP hw
  go_wp2
  refine bodyPost_ret (v:=.tuple #[.pointer none,.int .i64 12]) (by simp[results,Tryz.results11,go_sem]) rfl ?_
  exact .inl ⟨HON.out,rfl,B1.out⟩
 subst hw
 by_cases hbs:bs = []
 ·have HON:=mk0 (show openS b=none by rw[HOP.out,if_pos (.inr hbs)])
  subst hbs
  clear HOP
  go_wp2
  refine bodyPost_ret (v:=.tuple #[.pointer none,.int .i64 12]) (by simp[results,Tryz.results11,go_sem]) rfl ?_
  exact .inl ⟨HON.out,rfl,B1.out⟩
 have hbl:0<bs.length:=List.length_pos_iff.2 hbs
 have hbl2:((bs.length:Int)==0)=false:=by rw[beq_eq_false_iff_ne];omega
 have hbl3:(bs.length==0)=false:=by rw[beq_eq_false_iff_ne];omega
 obtain ⟨A5,c5,hs5,hc5,hC5⟩:=sl_drop (P:=Tryz.prog) bb 59 23 .i64 Tryz.underlying59 info_bb rfl A4 bs c4 1 (by omega) (by omega) CC4.out
 rw[show (1:Int).toNat=1 from rfl] at hs5 hc5 hC5
 have HT:=mk0 (show bs.drop 1=bs.tail by simp)
 have HTL:=mk0 (show ∀ x ∈ bs.drop 1,x.length≤1048576 from fun x hx=>HSM.out x (List.mem_of_mem_drop hx))
 have HDL:=mk0 (show (bs.drop 1).length≤17179869184 by rw[List.length_drop];have:=HBL.out;have:=HLB.out;omega)
 rw[if_neg (by simp[hbs])] at HOP
 rw[← HT.out] at HOP HXS
 have HRW:=mk0 (seg_rows A5 c5 (bs.drop 1) w1 (hC5 w1 C4.out) HDL.out HTL.out)
 have HC5:=mk0 hC5
 have HS5:=mk0 hs5
 generalize bs.drop 1=xs at *
 clear hbs
 go_wp2_with fail
 (with_reducible refine HRW.out.mono ?_)
 intro e w2 hrw
 rcases hrw with ⟨hnone,rfl,hb2⟩ | ⟨M,H,L,A7,c7,hrq,rfl,hc7,hr7,hrr7,hm7,hn7,hb2⟩
 ·have HON:=mk0 (show openS b=none by rw[HOP.out,hnone])
  have B2:=mk0 (B1.out.trans (hb2.mono B1.out.size))
  clear HOP hnone hb2 HRW hs5 HS5
  go_wp2
  refine bodyPost_ret (v:=.tuple #[.pointer none,.int .i64 12]) (by simp[results,Tryz.results11,go_sem]) rfl ?_
  exact .inl ⟨HON.out,rfl,B2.out⟩
 have HI:=mk0 (rowsQ_I64 _ _ hrq)
 rw[hrq] at HOP
 have HWR:=mk0 (seg_Write A7 c7 H L w2 hc7 (C_of hr7) hrr7.on (by rw[hm7];exact HI.out))
 rw[hm7] at HWR
 have B12:=mk0 hb2
 have B2:=mk0 (B1.out.trans (hb2.mono B1.out.size))
 have HM7:=mk0 hm7
 have HC7:=mk0 (C_of hr7)
 have HO7:=mk0 hrr7.on
 have HQ7:=mk0 hrq
 clear hrq hr7 hrr7 hm7 hn7 hb2 HRW hc7
 go_wp2_with fail
 (with_reducible refine HWR.out.mono ?_)
 rintro e w3 ⟨v9,rfl,hr9,hb3⟩
 obtain ⟨A9,c9,rfl,_,hC9⟩:=u8_R_len hr9
 have B23:=mk0 hb3
 have B3:=mk0 (B2.out.trans (hb3.mono B2.out.size))
 have HEQ:=mk0 (bytes_Equal A9 A c9 c (writeS M).1 b w3 hC9 (Kd.C_below HC.out B3.out))
 have HOP2:=mk0 (show openS b=if (writeS M).1=b∧(writeS M).2=0 then some M else none by
  rw[HOP.out]
  show (if writeS M=(b,0) then some M else none)=_
  congr 1
  exact propext Prod.ext_iff)
 clear hr9 hb3 hC9 HWR HOP
 generalize (writeS M).1=z at *
 generalize (writeS M).2=y at *
 by_cases hy:y=0
 case neg=>
  have hyb:(y != 0)=true:=by rw[bne_iff_ne];exact hy
  have HON:=mk0 (show openS b=none by rw[HOP2.out,if_neg (fun h=>hy h.2)])
  clear HOP2 hy HEQ
  go_wp2
  refine bodyPost_ret (v:=.tuple #[.pointer none,.int .i64 12]) (by simp[results,Tryz.results11,go_sem]) rfl ?_
  exact .inl ⟨HON.out,rfl,B3.out⟩
 subst hy
 go_wp2_with fail
 (with_reducible refine HEQ.out.mono ?_)
 rintro e w3' ⟨rfl,rfl⟩
 clear HEQ
 by_cases hz:z=b
 case neg=>
  have hzb:decide (z=b)=false:=decide_eq_false hz
  have HON:=mk0 (show openS b=none by rw[HOP2.out,if_neg (fun h=>hz h.1)])
  clear HOP2 hz
  go_wp2
  refine bodyPost_ret (v:=.tuple #[.pointer none,.int .i64 12]) (by simp[results,Tryz.results11,go_sem]) rfl ?_
  exact .inl ⟨HON.out,rfl,B3.out⟩
 have hzb:decide (z=b)=true:=decide_eq_true hz
 have HON:=mk0 (show openS b=some M by rw[HOP2.out];simp[hz])
 clear HOP2 hz
 have HW:=mk0 (openS_some HON.out)
 have HXE:=mk0 (HXS.out M HW.out HI.out)
 have hML:M.length=H.length:=by rw[← HM7.out,rowsM_len H L HO7.out.1]
 have HML:=mk0 hML
 have HMT:=mk0 (show M.map (·.t)=H.map (·.t) by rw[← HM7.out];exact rowsM_t H L HO7.out.1)
 have hm0:=(writeS_ok HW.out).1
 have hm4096:=(writeS_ok HW.out).2.1
 have hn0:0<H.length:=by omega
 have hHi:(H.length:Int)≤4096:=by omega
 have hHi0:(0:Int)<H.length:=by omega
 obtain ⟨bt,ot,e7,hxt⟩:=kr_open (Kd.C_below HC7.out B23.out) hn0
 have t0:=(hxt 0 hn0).1
 have t1:=(hxt (H.length-1) (by omega)).1
 rw[Nat.zero_mul,Nat.add_zero] at t0
 obtain ⟨lo,hlo⟩:∃ lo,lo=(H[0]'hn0).t:=⟨_,rfl⟩
 obtain ⟨hi,hhi⟩:∃ hi,hi=(H[H.length-1]'(by omega)).t:=⟨_,rfl⟩
 have HLO:=mk0 (show (M.map (·.t))[0]?=some lo by rw[HMT.out,hlo,List.getElem?_map,List.getElem?_eq_getElem hn0];rfl)
 have HHI:=mk0 (show (M.map (·.t))[M.length-1]?=some hi by rw[HMT.out,hhi,hML,List.getElem?_map,List.getElem?_eq_getElem (by omega)];rfl)
 rw[← hlo] at t0
 rw[← hhi] at t1
 subst e7
 have hnn:wrap64 ((H.length:Int)-1)=((H.length-1:Nat):Int):=by unfold wrap64;omega
 have hnn2:IntKind.i64.wrap ((H.length:Int)-1)=((H.length-1:Nat):Int):=by rw[IntWalk.i64_in _ (by omega)];omega
 have hnn3:(((H.length-1:Nat):Int))<H.length:=by omega
 have hbt:=World.block_lt_of_cell? w3 _ t0
 have k1:∀ o,(w3.alloc o).cell? ⟨bt,ot,none⟩=some (.int .i64 lo):=fun o=>(World.cell?_alloc_lt _ _ ⟨bt,ot,none⟩ hbt).trans t0
 have k2:∀ o,(w3.alloc o).cell? ⟨bt,ot+(H.length-1)*3,none⟩=some (.int .i64 hi):=fun o=>(World.cell?_alloc_lt _ _ ⟨bt,ot+(H.length-1)*3,none⟩ hbt).trans t1
 clear hlo hhi hxt hML hm0 hm4096 HXS
 go_wp2_with fail
 go_region
 obtain ⟨sg,hsg⟩:∃ sg,sg=w3.heap.size:=⟨_,rfl⟩
 have hn4:((w3.alloc (.cells #[.slice none 0 0,.int .i64 H.length,.int .i64 lo,.int .i64 hi,.slice none 0 0] 67)).drew).heap[w3.heap.size]?=some (.cells #[.slice none 0 0,.int .i64 H.length,.int .i64 lo,.int .i64 hi,.slice none 0 0] 67 (0,0)):=heap_alloc_new w3 _
 have hb4:Below w3.heap.size w3 ((w3.alloc (.cells #[.slice none 0 0,.int .i64 H.length,.int .i64 lo,.int .i64 hi,.slice none 0 0] 67)).drew):=(below_alloc (Below.refl w3.heap.size w3) _).trans (below_drew w3.heap.size _)
 generalize (w3.alloc (.cells #[.slice none 0 0,.int .i64 H.length,.int .i64 lo,.int .i64 hi,.slice none 0 0] 67)).drew=w4 at *
 rw[← hsg] at hn4 ⊢
 have HSG:=mk0 hsg
 have HN4:=mk0 hn4
 have HB4:=mk0 hb4
 have hb24:=B23.out.trans (hb4.mono B23.out.size)
 have HGR:=mk0 (row_Grow none 0 [] (some ⟨bt,ot,none⟩) c7 H L w4 ⟨rfl,by simp,fun h=>absurd h (by simp)⟩ (Kd.C_below HC7.out hb24) (HO7.out.below hb24))
 rw[HM7.out] at HGR
 simp only[List.length_nil] at HGR
 have HX3:=mk0 (Kd.C_below (HC5.out w1 C4.out) (B12.out.trans (B23.out.mono B12.out.size)))
 clear hsg hn4 hb4 hb24 t0 t1 k1 k2 hbt hnn hnn2 hnn3 hC5 hHi0
 obtain ⟨cols,hcols⟩:∃ cols,cols=(growsR [] M).1:=⟨_,rfl⟩
 rw[← hcols] at HGR
 have HCO:=mk0 hcols
 clear hcols
 generalize (growsR [] M).2.1=g1 at *
 generalize (growsR [] M).2.2=g2 at *
 go_wp2_with fail
 (with_reducible refine HGR.out.mono ?_)
 rintro e w5 ⟨Ac,cc,rfl,hcl5,hb5⟩
 have hlt4:=(Array.getElem?_eq_some_iff.1 HN4.out).1
 have hn5:=(hb5.block sg hlt4).trans HN4.out
 have z4:w5.cell? ⟨sg,4,none⟩=some (.slice none 0 0):=cell_of_heap (i:=4) hn5 rfl
 have zf:=frozen_of_heap (i:=4) hn5
 have hn6:(w5.setCell ⟨sg,4,none⟩ (.slice Ac cols.length cc)).heap[sg]?=some (.cells (SgC none 0 0 H.length lo hi Ac cols.length cc) 67 (0,0)):=heap_setCell_same _ _ 4 _ _ _ hn5
 have hk6:=(Keep1.refl sg w5).set 4 (.slice Ac cols.length cc)
 have hb35:=HB4.out.trans (hb5.mono HB4.out.size)
 have HC6:=mk0 (sg_klC (Ap:=none) (np:=0) (cp:=0) (n:=H.length) (lo:=lo) (hi:=hi) (Ac:=none) (nc:=0) (cc:=0) hn5 hk6 hcl5)
 have HOS:=mk0 (show OpS w3 (w5.setCell ⟨sg,4,none⟩ (.slice Ac cols.length cc)) sg w5.heap.size xs H.length lo hi Ac cols.length cc [] from
  ⟨⟨none,0,hn6,Kd.R_nil _ _ _ _ _⟩,fun i h1=>absurd h1 (by simp),Nat.zero_le _,List.Pairwise.nil,fun p hp=>absurd hp (by simp),(by rw[HSG.out];exact hb35.setCell (p:=⟨w3.heap.size,4,none⟩) (Nat.le_refl _) _),HSG.out,Nat.le_of_lt (Array.getElem?_eq_some_iff.1 hn5).1,by simp[World.setCell]⟩)
 have HN6:=mk0 hn6
 have HBS:=mk0 (show w5.heap.size=(w5.setCell ⟨sg,4,none⟩ (.slice Ac cols.length cc)).heap.size by simp[World.setCell])
 obtain ⟨bs6,hbs6⟩:∃ bs6,bs6=w5.heap.size:=⟨_,rfl⟩
 rw[← hbs6] at HOS HBS
 clear hbs6
 clear hcl5 hb5 hn5 hn6 hk6 hb35 hlt4 HGR HN4 HB4
 go_wp2_with fail
 clear z4 zf
 generalize w5.setCell ⟨sg,4,none⟩ (.slice Ac cols.length cc)=W6 at *
 have HK6:=mk0 (Keep1.refl sg W6)
 have hxi:(xs.length:Int)≤17179869184:=by have:=HDL.out;omega
 go_loopw[75] (fun v75 wr=>∃ (j:Nat) (PT:List Nat),j≤xs.length∧v75 = .int .i64 j∧Aside0 (PT.length=j)∧Aside0 (OpS w3 wr sg bs6 xs H.length lo hi Ac cols.length cc PT)∧Aside0 (Keep1 sg W6 wr)) (fun i _=>xs.length-(intOf i).toNat)
 case atStart=>exact ⟨0,[],by omega,rfl,⟨rfl⟩,HOS,HK6⟩
 case round=>
  clear HOS HK6
  obtain ⟨j,PT,hj,rfl,HPL,HOS,HK⟩:=hrel
  have hpl:=HPL.out
  subst hpl
  clear HPL
  by_cases hlt:PT.length<xs.length
  ·have hlt2:(PT.length:Int)<xs.length:=by omega
   obtain ⟨b5,o5,rfl,hxx⟩:=bb_open HX3.out (by omega)
   obtain ⟨B,cB,hx3,hcB,hCB⟩:=hxx PT.length hlt
   have hx:=(HOS.out.B.cell (by rw[HOS.out.s0];exact World.block_lt_of_cell? w3 _ hx3)).trans hx3
   obtain ⟨Ap,cp,hh,hk⟩:=HOS.out.ex
   have y0:wr.cell? ⟨sg,0,none⟩=some (.slice Ap PT.length cp):=cell_of_heap (i:=0) hh rfl
   have hsl:=(Array.getElem?_eq_some_iff.1 hh).1
   have hm16:wrap64 ((PT.length:Int)*16)=(PT.length:Int)*16:=by unfold wrap64;omega
   have y0a:∀ o,(wr.alloc o).cell? ⟨sg,0,none⟩=some (.slice Ap PT.length cp):=fun o=>(World.cell?_alloc_lt _ _ ⟨sg,0,none⟩ hsl).trans y0
   have HH:=mk0 (And.intro hh hk)
   have HCB:=mk0 (And.intro hcB hCB)
   have HPC:=mk0 (show (#[.slice B xs[PT.length].length cB,.int .i64 ((PT.length:Int)*16),.int .u32 0,.int .i32 0,.int .u32 0,.pointer none]:Array Value)=ptC B xs[PT.length].length cB ((16*PT.length:Nat):Int) 0 0 none by
    rw[show ((16*PT.length:Nat):Int)=(PT.length:Int)*16 by omega];rfl)
   have HNX:=mk0 (show ∀ v1 w7,kq.R 70 w7 bs6 (fun _=>True) v1 (PT++[wr.heap.size])→Below bs6 (wr.alloc (.cells #[.slice B xs[PT.length].length cB,.int .i64 ((PT.length:Int)*16),.int .u32 0,.int .i32 0,.int .u32 0,.pointer none] 85)) w7→(wr.alloc (.cells #[.slice B xs[PT.length].length cB,.int .i64 ((PT.length:Int)*16),.int .u32 0,.int .i32 0,.int .u32 0,.pointer none] 85)).grownBy w7 (Value.slice Ap PT.length cp).ownBlock→
     OpS w3 (w7.setCell ⟨sg,0,none⟩ v1) sg bs6 xs H.length lo hi Ac cols.length cc (PT++[wr.heap.size])∧Keep1 sg W6 (w7.setCell ⟨sg,0,none⟩ v1) from fun v1 w7 hr hb hg=>by
    have hkk:=HOS.out.keep (v1:=v1) HK.out HBS.out hb
    rw[HPC.out] at hb hg
    exact ⟨HOS.out.next hlt hh hk hCB hcB hr hb hg,hkk⟩)
   obtain ⟨x,hxe⟩:∃ x,x=xs[PT.length]:=⟨_,rfl⟩
   rw[← hxe] at hx HNX
   have hx0:Value.slice (some ⟨wr.heap.size+1,0,none⟩) 1 1 = .slice (some ⟨(wr.alloc (.cells #[.slice B x.length cB,.int .i64 ((PT.length:Int)*16),.int .u32 0,.int .i32 0,.int .u32 0,.pointer none] 85)).heap.size,0,none⟩) 1 1:=by simp
   have ba:=below_alloc (Below.refl wr.heap.size wr) (.cells #[.slice B x.length cB,.int .i64 ((PT.length:Int)*16),.int .u32 0,.int .i32 0,.int .u32 0,.pointer none] 85)
   have HX0:=mk0 hx0
   have HRA:=mk0 (Kd.R_below hk ba)
   have HSA:=mk0 (Nat.le_trans HOS.out.s2 ba.size)
   have HLA:=mk0 (show PT.length≤1099511627776 by omega)
   have HHA:=mk0 ((ba.block sg hsl).trans hh)
   have HLT:=mk0 (Nat.lt_of_lt_of_le hsl ba.size)
   clear hxe hxx hx3 hcB hCB hh hk hx0 ba hsl HPC HOS HK
   go_wp2_with (at_builtin;go_loud (refine kq_append (W:=wr.alloc (.cells #[.slice B x.length cB,.int .i64 ((PT.length:Int)*16),.int .u32 0,.int .i32 0,.int .u32 0,.pointer none] 85)) (.tmp 84) (.tmp 90) 65 70 (.slice Ap PT.length cp) PT wr.heap.size bs6 rfl rfl Tryz.underlying65 info_ptr rfl HX0.out HRA.out HSA.out HLA.out ?_))
   intro v1 w7 hr7 hb7 hg7 ha7
   have HNN:=HNX.out v1 w7 hr7 hb7 hg7
   have HO7:=mk0 HNN.1
   have HK7:=mk0 HNN.2
   have e7:=(hg7.block sg HLT.out (fun e=>R_not_at HRA.out HHA.out (by decide) e.symm)).trans HHA.out
   have z7:w7.cell? ⟨sg,0,none⟩=some (.slice Ap PT.length cp):=cell_of_heap (i:=0) e7 rfl
   have zf7:=frozen_of_heap (i:=0) e7
   obtain ⟨A1,c1,hv1⟩:=Kd.R_slice hr7
   subst hv1
   have HPP:=mk0 (show (PT++[wr.heap.size]).length=PT.length+1 by simp)
   generalize PT++[wr.heap.size]=PT2 at *
   clear hr7 hb7 hg7 ha7 HNN e7 hx y0 y0a HNX HH HCB HX0 HRA HSA HLA HHA HLT
   go_wp2
   go_roundw
   case rel=>exact ⟨PT.length+1,PT2,by omega,by go_num,HPP,HO7,HK7⟩
   case measure=>simp[intOf];omega
  ·have hje:PT.length=xs.length:=by omega
   obtain ⟨Ap,cp,hh,hk⟩:=HOS.out.ex
   have HLEN:=mk0 hje
   have hxe:=HXE.out
   have HNP:=mk0 (show PT.length=nP M by rw[hje,hxe,List.length_map,pcs_len])
   have HFIN:=mk0 (show SegAt wr sg M PT from ⟨⟨Ap,cp,Ac,cc,lo,hi,by rw[HML.out,← HCO.out];exact hh,C_of hk,by rw[← HCO.out];exact sg_klC HN6.out HK.out HC6.out,HLO.out,HHI.out⟩,HNP.out,fun i h1=>by
    have h2:i<xs.length:=by omega
    obtain ⟨B,c,p1,p2,p3⟩:=HOS.out.pt i h1 h2
    have h3:xs[i]=bytesM ((M.drop (16*i)).take 16):=by
     have h4:xs[i]?=some (bytesM ((M.drop (16*i)).take 16)):=by
      rw[hxe,List.getElem?_map,List.getElem?_eq_getElem (by rw[pcs_len,← HNP.out];exact h1),pcs_get]
      rfl
     rw[List.getElem?_eq_getElem h2] at h4
     injection h4
    rw[h3] at p1 p2 p3
    have p4:=Kd.C_below p3 (by have:=HOS.out.B;rw[HOS.out.s0] at this;exact this)
    exact ⟨B,c,p1,p2,p4⟩,HOS.out.nd,fun p hp=>(HOS.out.lt p hp).1⟩)
   have HBF:=mk0 (B3.out.trans ((show Below w3.heap.size w3 wr by have:=HOS.out.B;rw[HOS.out.s0] at this;exact this).mono B3.out.size))
   have HSS:=mk0 (show w.heap.size≤sg by rw[HSG.out];exact B3.out.size)
   have hlt2:¬ (xs.length:Int)<xs.length:=by omega
   have hlt3:¬ (PT.length:Int)<xs.length:=by omega
   clear hje hh hk hxe HOS HK
   go_wp2
   refine bodyPost_ret (v:=.tuple #[.pointer (some ⟨sg,0,none⟩),.int .i64 0]) (by simp[results,Tryz.results11,go_sem]) rfl ?_
   exact .inr ⟨M,PT,sg,HON.out,rfl,HSS.out,HFIN.out,HBF.out⟩
end Go.Proofs.YtplnodcbbcdcgaaGreat.Lib0
namespace Go.Proofs.YtplnodcbbcdcgaaGreat.Lib0
open Go.RowKit Go.Proofs.YtplnodcbbcdcgaaGreatW.PrintWords Go.ChangeMaps
theorem PtRaw.cells {w:World} {pt:Nat} {B:Option Addr} {n c:Nat} {fr on st:Int} {gp:Option Addr} (h:PtRaw w pt (ptC B n c fr on st gp)):w.cell? ⟨pt,0,none⟩=some (.slice B n c)∧w.cell? ⟨pt,2,none⟩=some (.int .u32 on)∧w.cell? ⟨pt,3,none⟩=some (.int .i32 st)∧w.cell? ⟨pt,5,none⟩=some (.pointer gp)∧∀ i,w.frozen? ⟨pt,i,none⟩=false:=
 ⟨cell_of_heap (i:=0) h rfl,cell_of_heap (i:=2) h rfl,cell_of_heap (i:=3) h rfl,cell_of_heap (i:=5) h rfl,fun i=>frozen_of_heap h⟩
theorem PtRaw.setOn {w:World} {pt:Nat} {B:Option Addr} {n c:Nat} {fr on st:Int} {gp:Option Addr} (h:PtRaw w pt (ptC B n c fr on st gp)) (on':Int):PtRaw (w.setCell ⟨pt,2,none⟩ (.int .u32 on')) pt (ptC B n c fr on' st gp):=heap_at_setCell h
theorem PtRaw.setSt {w:World} {pt:Nat} {B:Option Addr} {n c:Nat} {fr on st:Int} {gp:Option Addr} (h:PtRaw w pt (ptC B n c fr on st gp)) (st':Int):PtRaw (w.setCell ⟨pt,3,none⟩ (.int .i32 st')) pt (ptC B n c fr on st' gp):=heap_at_setCell h
theorem PtRaw.setG {w:World} {pt:Nat} {B:Option Addr} {n c:Nat} {fr on st:Int} {gp:Option Addr} (h:PtRaw w pt (ptC B n c fr on st gp)) (gp':Option Addr):PtRaw (w.setCell ⟨pt,5,none⟩ (.pointer gp')) pt (ptC B n c fr on st gp'):=heap_at_setCell h
def CloP (w:World) (pt:Nat) (B:Option Addr) (c:Nat) (fr on st:Int) (x:List UInt8) (e:Ending) (w':World):Prop:=
 e = .returned (.tuple #[])∧∃ (ts ss:List Int) (ps:List PartM) (lo hi:Int) (g base:Nat),readG x=some (ts,ss,ps.map PartM.q)∧GrpG w' g base ts ss ps 0 0 none 0 0 lo hi∧w.heap.size≤base∧base≤g∧base≤w'.heap.size∧PtRaw w' pt (ptC B x.length c fr on st (some ⟨g,0,none⟩))∧Keep1 pt w w'
set_option maxHeartbeats 1600000 in
set_option maxRecDepth 100000 in
theorem pg_clo {w:World} {pl pt:Nat} {B:Option Addr} {c:Nat} {fr on st:Int} {gp:Option Addr} {x:List UInt8} (hp:w.cell? ⟨pl,0,none⟩=some (.pointer (some ⟨pt,0,none⟩))) (h:PtRaw w pt (ptC B x.length c fr on st gp)) (hC:u8.C w B x.length x) (hc:x.length≤c) (hl:x.length≤1073741824) (hr:readG x≠none) :
  Calls Tryz.prog 57 #[.pointer (some ⟨pl,0,none⟩)] w (CloP w pt B c fr on st x):=by
 have hcs:=h.cells
 have hpd:w.drew.cell? ⟨pl,0,none⟩=some (.pointer (some ⟨pt,0,none⟩)):=hp
 have p0:=hcs.1
 have HD2:=mk0 ((group_Read B c x w.drew (Kd.C_drew hC) hc hl).mono (R':=fun e w1=>∃ g,e = .returned (.tuple #[.pointer (some ⟨g,0,none⟩),.int .i64 0])∧Aside0 (CloP w pt B c fr on st x (.returned (.tuple #[])) (w1.setCell ⟨pt,5,none⟩ (.pointer (some ⟨g,0,none⟩))))∧w1.cell? ⟨pl,0,none⟩=some (.pointer (some ⟨pt,0,none⟩))∧w1.cell? ⟨pt,5,none⟩=some (.pointer gp)∧w1.frozen? ⟨pt,5,none⟩=false) (by
  rintro e w1 hrd
  rcases hrd with ⟨hnone,_⟩ | ⟨ts,ss,ps,lo,hi,hs,rfl,hg,hlo,hhi,hb⟩
  ·exact absurd hnone hr
  have hsz:w.drew.heap.size=w.heap.size:=rfl
  rw[hsz] at hg hb
  have hb0:Below w.heap.size w w1:=(below_drew w.heap.size w).trans hb
  have hpt:=h.keep hb0
  have hlt:=h.lt
  have hG:=hg.g
  have hG2:=hG.off hpt (show pt≠w.heap.size by omega) (fun p hp e=>by have:=hG.K.old p hp;omega) 5 (.pointer (some ⟨w.heap.size,0,none⟩))
  refine ⟨w.heap.size,rfl,⟨rfl,ts,ss,ps,lo,hi,w.heap.size,w.heap.size,hs,hG2,Nat.le_refl _,Nat.le_refl _,?_,hpt.setG _,(Keep1.of_below (b:=pt) hb0).set 5 _⟩,(hb0.cell (World.block_lt_of_cell? w _ hp)).trans hp,hpt.cells.2.2.2.1,hpt.cells.2.2.2.2 5⟩
  have:=hb0.size
  simpa [World.setCell] using this))
 clear hcs h hC hc hl hr
 go_enter Tryz.func57,Tryz.ntmps57
 go_wp2_with fail
 go_region_with ((go_at_call 52;refine HD2.out.mono ?_;rintro e w1 ⟨g,rfl,HQ,y0,y1,y2⟩))
 all_goals
  clear hp hpd p0 y0 y1 y2
  go_wp2
  go_end0
  exact HQ.out
set_option maxHeartbeats 1600000 in
set_option maxRecDepth 100000 in
theorem pg_slow {w:World} {pl pt:Nat} (hne:pl≠pt) {B:Option Addr} {c:Nat} {fr:Int} {gp:Option Addr} {x:List UInt8} (hp:w.cell? ⟨pl,0,none⟩=some (.pointer (some ⟨pt,0,none⟩))) (h:PtRaw w pt (ptC B x.length c fr 0 0 gp)) (hC:u8.C w B x.length x) (hc:x.length≤c) (hl:x.length≤1073741824) (hr:readG x≠none) :
  Calls Tryz.prog 86 #[.pointer (some ⟨pt,2,none⟩),.func (.func 57) #[] #[.pointer (some ⟨pl,0,none⟩)]] w (CloP w pt B c fr 1 0 x):=by
 have h1:=h.setSt 1
 have hk1:=(Keep1.refl pt w).set 3 (.int .i32 1)
 have hp1:(w.setCell ⟨pt,3,none⟩ (.int .i32 1)).cell? ⟨pl,0,none⟩=some (.pointer (some ⟨pt,0,none⟩)):=(World.cell?_of_block (Below.heap_setCell _ _ _ _ hne)).trans hp
 have HL:=mk0 (o_lock ⟨pt,3,none⟩ w h.cells.2.2.1 (h.cells.2.2.2.2 3))
 have HLD:=mk0 (o_load ⟨pt,2,none⟩ 0 false rfl (w.setCell ⟨pt,3,none⟩ (.int .i32 1)) h1.cells.2.1)
 have HCL:=mk0 (pg_clo hp1 h1 (h.u8C hk1 hC) hc hl hr)
 have HSZ:=mk0 (show (w.setCell ⟨pt,3,none⟩ (.int .i32 1)).heap.size=w.heap.size by simp[World.setCell])
 have HK1:=mk0 hk1
 have HLT:=mk0 h.lt
 have hnot:∀ (x:Bool) (w:World),(Op.unary .not (.bool x)).run Tryz.prog w = .ok (.bool (!x)) w:=fun _ _=>rfl
 clear h h1 hp1 hp hC hk1
 go_enter_defers Tryz.func86,Tryz.ntmps86
 go_wp2_with fail
 (with_reducible refine HL.out.mono ?_)
 rintro e w' ⟨rfl,rfl⟩
 go_wp2_with fail
 (with_reducible refine HLD.out.mono ?_)
 rintro e w' ⟨rfl,rfl⟩
 go_wp2_with fail
 (with_reducible refine HCL.out.mono ?_)
 rintro e w2 ⟨rfl,ts,ss,ps,lo,hi,g,base,q1,q2,q3,q4,q5,q6,q7⟩
 rw[HSZ.out] at q3
 have hlt:=HLT.out
 have q2d:=q2.below (below_drew w2.heap.size w2)
 have q6d:=q6.keep (below_drew w2.heap.size w2)
 have hog:pt≠g:=by omega
 have hop:∀ p ∈ ps,p.cp≠pt:=fun p hp e=>by have:=q2.K.old p hp;omega
 have r3:=q6d.setOn 1
 have r4:=r3.setSt 0
 have g3:=q2d.off q6d hog hop 2 (.int .u32 1)
 have g4:=g3.off r3 hog hop 3 (.int .i32 0)
 have hk:=(((HK1.out.trans q7).trans (Keep1.of_below (b:=pt) (below_drew w2.heap.size w2))).set 2 (.int .u32 1)).set 3 (.int .i32 0)
 have hfin:CloP w pt B c fr 1 0 x (.returned (.tuple #[])) ((w2.drew.setCell ⟨pt,2,none⟩ (.int .u32 1)).setCell ⟨pt,3,none⟩ (.int .i32 0)):=
  ⟨rfl,ts,ss,ps,lo,hi,g,base,q1,g4,q3,q4,by simpa [World.setCell] using q5,r4,hk⟩
 have HFF:=mk0 hfin
 have R2:=mk0 q6
 have R3:=mk0 r3
 clear r3 r4 g3 g4 hfin q1 q2 q3 q4 q5 q6 q7 q2d q6d hk hog hop
 go_wp2
 change Leaves _ _ _ _ _ _ _
 refine leaves_cons (f:=117) (args:=#[.pointer (some ⟨pt,2,none⟩),.bool true]) (by simp) (by simp[go_sem]) ?_
 refine (o_store ⟨pt,2,none⟩ (.int .u32 0) .returning _ R2.out.cells.2.1 (R2.out.cells.2.2.2.2 2)).mono ?_
 rintro e u' w'' ⟨rfl,rfl,rfl⟩
 refine leaves_cons (f:=116) (args:=#[.pointer (some ⟨pt,3,none⟩)]) (by simp[settle]) (by simp[go_sem]) ?_
 refine (o_unlock ⟨pt,3,none⟩ _ _ R3.out.cells.2.2.1 (R3.out.cells.2.2.2.2 3)).mono ?_
 rintro e u' w'' ⟨rfl,rfl,rfl⟩
 have:=HFF.out
 simp[Leaves,settle,results,Tryz.results86]
 exact this
set_option maxHeartbeats 1600000 in
set_option maxRecDepth 100000 in
theorem pg_do0 {w:World} {pl pt:Nat} (hne:pl≠pt) {B:Option Addr} {c:Nat} {fr:Int} {gp:Option Addr} {x:List UInt8} (hp:w.cell? ⟨pl,0,none⟩=some (.pointer (some ⟨pt,0,none⟩))) (h:PtRaw w pt (ptC B x.length c fr 0 0 gp)) (hC:u8.C w B x.length x) (hc:x.length≤c) (hl:x.length≤1073741824) (hr:readG x≠none) :
  Calls Tryz.prog 56 #[.pointer (some ⟨pt,2,none⟩),.func (.func 57) #[] #[.pointer (some ⟨pl,0,none⟩)]] w (CloP w pt B c fr 1 0 x):=by
 have HLD:=mk0 (o_load ⟨pt,2,none⟩ 0 false rfl w h.cells.2.1)
 have HSL:=mk0 (pg_slow hne hp h hC hc hl hr)
 have hnot:∀ (x:Bool) (w:World),(Op.unary .not (.bool x)).run Tryz.prog w = .ok (.bool (!x)) w:=fun _ _=>rfl
 clear h hp hC
 go_enter Tryz.func56,Tryz.ntmps56
 go_wp2_with fail
 (with_reducible refine HLD.out.mono ?_)
 rintro e w' ⟨rfl,rfl⟩
 go_wp2_with fail
 (with_reducible refine HSL.out.mono ?_)
 rintro e w2 hq
 have HQ:=mk0 hq.2
 obtain ⟨rfl,_⟩:=hq
 go_wp2
 go_end0
 exact ⟨rfl,HQ.out⟩
def PgS (w:World) (pt:Nat) (B:Option Addr) (c:Nat) (fr:Int) (x:List UInt8) (e:Ending) (w':World):Prop:=
 ∃ (ts ss:List Int) (ps:List PartM) (lo hi:Int) (g base:Nat),e = .returned (.pointer (some ⟨g,0,none⟩))∧readG x=some (ts,ss,ps.map PartM.q)∧GrpG w' g base ts ss ps 0 0 none 0 0 lo hi∧w.heap.size≤base∧base≤g∧base≤w'.heap.size∧PtRaw w' pt (ptC B x.length c fr 1 0 (some ⟨g,0,none⟩))∧Keep1 pt w w'
set_option maxHeartbeats 1600000 in
set_option maxRecDepth 100000 in
theorem part_group {w:World} {pt:Nat} {B:Option Addr} {c:Nat} {fr:Int} {gp:Option Addr} {x:List UInt8} (h:PtRaw w pt (ptC B x.length c fr 0 0 gp)) (hC:u8.C w B x.length x) (hc:x.length≤c) (hl:x.length≤1073741824) (hr:readG x≠none) :
  Calls Tryz.prog 33 #[.pointer (some ⟨pt,0,none⟩)] w (PgS w pt B c fr x):=by
 have hmf:∀ (fn:Fn) (first cap:Array Value) (w:World),(Instr.makeFunc fn first cap).run Tryz.prog w = .ok (.func fn first cap) w:=fun _ _ _ _=>rfl
 have BO:=below_alloc (Below.refl w.heap.size w) (.cells #[.pointer (some ⟨pt,0,none⟩)] 70)
 have hpl:(w.alloc (.cells #[.pointer (some ⟨pt,0,none⟩)] 70)).cell? ⟨w.heap.size,0,none⟩=some (.pointer (some ⟨pt,0,none⟩)):=cell_of_heap (heap_alloc_new w _) rfl
 have hne:w.heap.size≠pt:=by have:=h.lt;omega
 have HDO:=mk0 (pg_do0 hne hpl (h.keep BO) (Kd.C_below hC BO) hc hl hr)
 have HPL:=mk0 hpl
 have HBO:=mk0 BO
 clear h BO hpl hC
 go_enter Tryz.func33,Tryz.ntmps33
 go_wp2_with fail
 (with_reducible refine HDO.out.mono ?_)
 rintro e w2 ⟨rfl,ts,ss,ps,lo,hi,g,base,q1,q2,q3,q4,q5,q6,q7⟩
 have x5:=q6.cells.2.2.2.1
 have xp:w2.cell? ⟨w.heap.size,0,none⟩=some (.pointer (some ⟨pt,0,none⟩)):=(World.cell?_of_block (q7.block w.heap.size (by simp) hne)).trans HPL.out
 have Q:=mk0 (And.intro q1 (And.intro q2 (And.intro (Nat.le_trans HBO.out.size q3) (And.intro q4 (And.intro q5 (And.intro q6 ((Keep1.of_below (b:=pt) HBO.out).trans q7)))))))
 clear q1 q2 q3 q4 q5 q6 q7
 go_wp2
 go_ret
 exact ⟨ts,ss,ps,lo,hi,g,base,rfl,Q.out⟩
end Go.Proofs.YtplnodcbbcdcgaaGreat.Lib0

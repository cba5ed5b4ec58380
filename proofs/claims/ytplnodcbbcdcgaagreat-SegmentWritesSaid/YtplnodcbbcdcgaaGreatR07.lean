import Derived.Test.YtplnodcbbcdcgaaGreatP44
import Derived.Test.YtplnodcbbcdcgaaGreatR03
import Derived.Test.YtplnodcbbcdcgaaGreatR06
set_option linter.unusedVariables false
set_option linter.unusedSimpArgs false
namespace Go.Proofs.YtplnodcbbcdcgaaGreat.Lib0
open Go.RowKit Go.Proofs.YtplnodcbbcdcgaaGreatW.PrintWords Go.ChangeMaps
theorem writeS_why (M:List RowM):(writeS M).2=refW M 4096:=by
 unfold writeS refW
 split
 ·rfl
 ·split
  ·rename_i h;rw[h]
  ·rfl
theorem writeS_bad {M:List RowM} (h:(writeS M).2≠0):(writeS M).1 = []:=by
 unfold writeS at h ⊢
 split
 ·rfl
 ·rename_i h1
  rw[if_neg h1] at h
  split at h
  ·simp at h
  ·rename_i h2
   rw[if_neg h2]
theorem RowsFit.snoc {M:List RowM} (h:RowsFit M) (hn:M.length<1000) (r:RowM) (hm:∃ q ∈ M,r.cs=q.cs):RowsFit (M++[r]):=by
 obtain ⟨q,hq,e⟩:=hm
 have hs:∀ p ∈ M++[r],∃ y ∈ M,p.cs=y.cs:=fun p hp=>by
  rcases List.mem_append.1 hp with hp | hp
  ·exact ⟨p,hp,rfl⟩
  ·rw[List.mem_singleton] at hp
   subst hp
   exact ⟨q,hq,e⟩
 refine ⟨by rw[List.length_append];show M.length+1≤1000;omega,fun p hp c hc=>?_,fun p hp c hc=>?_,fun p hp=>?_⟩
 ·obtain ⟨y,hy,e⟩:=hs p hp
  rw[e] at hc
  exact h.i y hy c hc
 ·obtain ⟨y,hy,e⟩:=hs p hp
  rw[e] at hc
  exact h.c y hy c hc
 ·obtain ⟨y,hy,e⟩:=hs p hp
  rw[e]
  exact h.l y hy
theorem rising50_fit (M:List RowM) (n:Nat) (hn:n≤1000):RowsFit (risingM M n):=by
 refine ⟨by rw[risingM_len];omega,fun r hr=>(rising17_row M n hn r hr).2.2,fun r hr c hc=>?_,fun r hr=>?_⟩
 ·have h:=(rising17_row M n hn r hr).1
  unfold rowB at h
  rw[Bool.and_eq_true] at h
  have:=nameB_len (fineB_name (cellsRB_fine _ _ h.2 c hc))
  omega
 ·have:=rowB_head (rising17_row M n hn r hr).1
  omega
set_option maxHeartbeats 6400000 in
set_option maxRecDepth 100000 in
theorem walk_SegmentWrites (A:Option Addr) (ca:Nat) (H:List RowH) (L:List (List CellM)) (tame:Bool) (more:Int) (w:World) (hH:kr.C w A H.length H) (hL:RowsOn w H L) (hl:H.length≤9223372036854775807) (hc:∀ c ∈ L,c.length*48≤140737488355328) (hi:∀ r ∈ rowsM H L,∀ c ∈ r.cs,I64 c.n) (hm:-9223372036854775808≤more∧more≤9223372036854775807) :
  Calls Tryz.prog 6 #[.slice A H.length ca,.bool tame,.int .i64 more] w (TrueEnd w):=by
 have HSH:=mk0 (show Calls Tryz.prog 14 #[.slice A H.length ca,.int .i64 30] w (RisS w (shortM (rowsM H L) (min H.length 30))) from keep_Short A ca H L 30 w hH hL hl (by decide) hc)
 have HRG:=mk0 (show ∀ w',Below w.heap.size w w'→Calls Tryz.prog 7 #[.slice A H.length ca,.int .i64 50] w' (RisS w' (risingM (rowsM H L) (min H.length 50))) from fun w' hb=>keep_Rising A ca H L 50 w' (Kd.C_below hH hb) (hL.below hb) hl (by decide) (fun c h=>by have:=hc c h;omega))
 have HFS:=mk0 (short_fit (rowsM H L) (min H.length 30) (by omega) hi)
 have HFR:=mk0 (rising50_fit (rowsM H L) (min H.length 50) (by omega))
 have HRL:=mk0 (show (risingM (rowsM H L) (min H.length 50)).length≤50 by rw[risingM_len];omega)
 have HMR:=mk0 hm
 generalize shortM (rowsM H L) (min H.length 30)=M1 at *
 generalize risingM (rowsM H L) (min H.length 50)=M2 at *
 clear hH hL hc hi hm
 go_enter Tryz.func6,Tryz.ntmps6
 go_wp2_with fail
 (with_reducible refine HSH.out.mono ?_)
 rintro e w1 ⟨H1,L1,A1,c1,rfl,hr1,hrr1,hm1,hb1⟩
 cases tame
 ·have B1:=mk0 hb1
  have HF:=HFS
  generalize M1=M at *
  obtain ⟨_,_,he1,hc1,_⟩:=Kd.R_reads hr1
  cases he1
  have HC1:=mk0 (C_of hr1)
  have HO1:=mk0 hrr1.on
  have HK1:=mk0 hm1
  have HCC:=mk0 hc1
  clear hb1 HSH HRG HFS HFR HRL hr1 hrr1 hm1 hc1
  have hH1:H1.length=M.length:=by rw[← HK1.out,rowsM_len H1 L1 HO1.out.1]
  have HHL:=mk0 (show H1.length≤1000 by have:=HF.out.n;omega)
  have HL1:=mk0 (show ∀ c ∈ L1,c.length≤1000∧∀ x ∈ c,x.col.size≤1099511627776 from fun c h=>by
   rw[← rowsM_cs H1 L1 HO1.out.1,HK1.out] at h
   obtain ⟨r,hr,rfl⟩:=List.mem_map.1 h
   exact ⟨HF.out.l r hr,HF.out.c r hr⟩)
  have HWR:=mk0 (seg_Write A1 c1 H1 L1 w1 HCC.out HC1.out HO1.out (by rw[HK1.out];exact HF.out.i))
  rw[HK1.out] at HWR
  have HRE:=mk0 (show ∀ w',Below w1.heap.size w1 w'→Calls Tryz.prog 15 #[.slice A1 H1.length c1,.int .i64 4096] w' (fun e w''=>e = .returned (.int .i64 (writeS M).2)∧Below w'.heap.size w' w'') from fun w' hb=>by
   have h:=ref_Write A1 c1 H1 L1 4096 w' (Kd.C_below HC1.out hb) (HO1.out.below hb) (by have:=HHL.out;omega) (by decide) (fun c h=>(HL1.out c h).2)
   rw[HK1.out,← writeS_why] at h
   exact h)
  have HBAD:=mk0 (@writeS_bad M)
  have HLEN:=mk0 hH1
  have HWS:=mk0 (show (writeS M).2=0→writeS M=((writeS M).1,0) from fun h=>Prod.ext_iff.2 ⟨rfl,h⟩)
  clear hH1
  generalize (writeS M).2=x at *
  generalize (writeS M).1=z at *
  go_wp2_with fail
  (with_reducible refine HWR.out.mono ?_)
  rintro e w2 ⟨v2,rfl,hr2,hb2⟩
  obtain ⟨A2,c2,rfl,hc2,hC2⟩:=u8_R_len hr2
  have HC2:=mk0 (And.intro hc2 hC2)
  have B2:=mk0 hb2
  have HRE2:=mk0 (HRE.out w2 hb2)
  clear hr2 hb2 hc2 hC2 HWR HRE
  go_wp2_with fail
  (with_reducible refine HRE2.out.mono ?_)
  rintro e w3 ⟨rfl,hb3⟩
  have B3:=mk0 (B2.out.trans (hb3.mono B2.out.size))
  have HC3:=mk0 (And.intro HC2.out.1 (Kd.C_below HC2.out.2 hb3))
  have BW3:=mk0 (B1.out.trans (B3.out.mono B1.out.size))
  clear hb3 HRE2 HC2 B2
  have hxx:(x != x)=false:=by simp
  by_cases hx:x=0
  case neg=>
   have hx2:(x != 0)=true:=by simp[hx]
   have hz:=HBAD.out hx
   subst hz
   have HKN:=mk0 (law17_known w3)
   clear HBAD hx HWS
   go_wp2_with fail
   (with_reducible refine HKN.out.mono ?_)
   rintro e w4 ⟨rfl,hb4⟩
   have B4:=mk0 (BW3.out.trans (hb4.mono BW3.out.size))
   clear hb4 HKN
   go_wp2
   go_ret
   exact ⟨rfl,B4.out⟩
  subst hx
  have HW:=mk0 (HWS.out rfl)
  have HI:=mk0 HF.out.i
  have HOP:=mk0 (seg_Open A2 c2 z w3 HC3.out.2 HC3.out.1 (by have:=segB_len HW.out HI.out;omega))
  clear HBAD HWS HC3
  go_wp2_with fail
  (with_reducible refine HOP.out.mono ?_)
  intro e w4 hop
  rcases hop with ⟨hnone,_⟩ | ⟨M',PT,sg,hsm,rfl,hsg,hsa,hb4⟩
  ·rw[openS_write HW.out HI.out] at hnone;cases hnone
  obtain rfl:M=M':=by rw[openS_write HW.out HI.out] at hsm;injection hsm
  have HSG:=mk0 hsg
  have HS4:=mk0 hsa
  have B34:=mk0 hb4
  have HSP:=mk0 (seg_Span hsa)
  clear hsm hsg hsa hb4 HOP
  go_wp2_with fail
  (with_reducible refine HSP.out.mono ?_)
  rintro e w5 ⟨lo,hi,rfl,hlo,hhi,hb5⟩
  have B35:=mk0 (B34.out.trans (hb5.mono B34.out.size))
  have HS5:=mk0 (HS4.out.below hb5)
  have B15:=mk0 (B3.out.trans (B35.out.mono B3.out.size))
  have HRG:=mk0 (ref_Grow A1 c1 H1 L1 w5 (Kd.C_below HC1.out B15.out) (HO1.out.below B15.out) (by have:=HHL.out;omega) (fun c h=>(HL1.out c h).2))
  rw[HK1.out] at HRG
  have HMT:=mk0 (show M.map (·.t)=H1.map (·.t) by rw[← HK1.out];exact rowsM_t H1 L1 HO1.out.1)
  have hm0:=(writeS_ok HW.out).1
  have hn0:0<H1.length:=by have:=HLEN.out;omega
  have HLO:=mk0 (show (H1[0]'hn0).t=lo by
   rw[HMT.out,List.getElem?_map,List.getElem?_eq_getElem hn0] at hlo
   injection hlo)
  have HHI:=mk0 (show (H1[H1.length-1]'(by omega)).t=hi by
   rw[HMT.out,← HLEN.out,List.getElem?_map,List.getElem?_eq_getElem (by omega)] at hhi
   injection hhi)
  clear hlo hhi hb5 HSP hm0
  go_wp2_with fail
  (with_reducible refine HRG.out.mono ?_)
  rintro e w6 ⟨v6,rfl,hr6,hb6⟩
  obtain ⟨A6,c6,rfl⟩:=Kd.R_slice hr6
  have HC6:=mk0 (C_of hr6)
  have B36:=mk0 (B35.out.trans (hb6.mono B35.out.size))
  have B16:=mk0 (B15.out.trans (hb6.mono B15.out.size))
  have HS6:=mk0 (HS5.out.below hb6)
  have HCT:=mk0 (seg_Count HS6.out)
  rw[← HLEN.out] at HCT
  have HGR:=mk0 (seg_Groups HS6.out)
  have HNP:=mk0 (show nP M=(H1.length+15)/16 by unfold nP;rw[HLEN.out])
  rw[HNP.out] at HGR
  have HCO:=mk0 (seg_Cols HS6.out)
  have HGL:=mk0 (growsR_len M)
  generalize (growsR [] M).1=cols at *
  generalize (growsR [] M).2.1=g1 at *
  generalize (growsR [] M).2.2=g2 at *
  clear hr6 hb6 HRG
  go_wp2_with fail
  (with_reducible refine HCT.out.mono ?_)
  rintro e w6' ⟨rfl,rfl⟩
  go_wp2_with fail
  (with_reducible refine HGR.out.mono ?_)
  rintro e w6' ⟨rfl,rfl⟩
  have hH1000:(H1.length:Int)≤1000:=by have:=HHL.out;omega
  have hn0i:(0:Int)<H1.length:=by omega
  obtain ⟨bt,ot,e7,hxt⟩:=kr_open (Kd.C_below HC1.out B16.out) hn0
  have t0:=(hxt 0 hn0).1
  have t1:=(hxt (H1.length-1) (by omega)).1
  rw[HLO.out,Nat.zero_mul,Nat.add_zero] at t0
  rw[HHI.out] at t1
  subst e7
  have hnn:wrap64 ((H1.length:Int)-1)=((H1.length-1:Nat):Int):=by unfold wrap64;omega
  have hnn2:IntKind.i64.wrap ((H1.length:Int)-1)=((H1.length-1:Nat):Int):=by rw[IntWalk.i64_in _ (by omega)];omega
  have hnn3:(((H1.length-1:Nat):Int))<H1.length:=by omega
  have hnq:(((H1.length:Int)+16-1).tdiv 16)=(((H1.length+15)/16:Nat):Int):=by
   rw[Int.tdiv_eq_ediv_of_nonneg (by omega)]
   omega
  have hnq2:(((H1.length:Int)+15).tdiv 16)=(((H1.length+15)/16:Nat):Int):=by
   rw[Int.tdiv_eq_ediv_of_nonneg (by omega)]
   omega
  have hll:((H1.length:Int)==(H1.length:Int))=true:=by simp
  clear hxt HCT HGR
  go_wp2_with fail
  (with_reducible refine HCO.out.mono ?_)
  rintro e w7 ⟨A7,c7,rfl,hk7,hb7⟩
  have HKC:=mk0 (keep_Cols A7 A6 c7 c6 cols w7 hk7 (Kd.C_below HC6.out hb7) (Nat.le_trans HGL.out (by decide)))
  have B37:=mk0 (B36.out.trans (hb7.mono B36.out.size))
  have HS7:=mk0 (HS6.out.below hb7)
  clear hk7 hb7 HCO t0 t1 hnn hnn2 hnn3 hnq hnq2
  go_wp2_with fail
  (with_reducible refine HKC.out.mono ?_)
  rintro e w8 ⟨rfl,hb8⟩
  have B38:=mk0 (B37.out.trans (hb8.mono B37.out.size))
  have HRW:=mk0 (seg_Rows (HS7.out.below hb8) HW.out HI.out)
  clear hb8 HKC
  go_wp2_with fail
  (with_reducible refine HRW.out.mono ?_)
  rintro e w9 ⟨H',L',A9,c9,rfl,hc9,hr9,ho9,hm9,hf9⟩
  have hb9:=hf9.below (base:=w3.heap.size) B38.out.size (fun p hp=>by have:=HS7.out.lt p hp;have:=HSG.out;omega)
  have B39:=mk0 (B38.out.trans hb9)
  have B19:=mk0 (B3.out.trans (B39.out.mono B3.out.size))
  have hl9:H'.length=H1.length:=by rw[← rowsM_len H' L' ho9.1,hm9];exact HLEN.out.symm
  have hcl:∀ c ∈ L',c.length≤1099511627776:=fun c hc=>by
   rw[← rowsM_cs H' L' ho9.1,hm9] at hc
   obtain ⟨r,hr,rfl⟩:=List.mem_map.1 hc
   have:=HF.out.l r hr
   omega
  have HKR:=mk0 (keep_Rows A9 (some ⟨bt,ot,none⟩) c9 c1 H' H1 L' L1 w9 (C_of hr9) (Kd.C_below HC1.out B19.out) ho9.on (HO1.out.below B19.out) (by rw[hl9];have:=HHL.out;omega) (by have:=HHL.out;omega) hcl (fun c hc=>by have:=(HL1.out c hc).1;omega))
  rw[hm9,HK1.out,eqMs_refl] at HKR
  have BF:=mk0 (BW3.out.trans (B39.out.mono BW3.out.size))
  clear hc9 hr9 ho9 hm9 hf9 hb9 hl9 hcl HRW
  go_wp2_with fail
  (with_reducible refine HKR.out.mono ?_)
  rintro e w11 ⟨rfl,hb11⟩
  have BZ:=mk0 (BF.out.trans (hb11.mono BF.out.size))
  clear hb11 HKR
  have HKN:=mk0 (law17_known w11)
  go_wp2_with fail
  (with_reducible refine HKN.out.mono ?_)
  rintro e w12 ⟨rfl,hb12⟩
  have BY:=mk0 (BZ.out.trans (hb12.mono BZ.out.size))
  clear hb12
  go_wp2
  go_ret
  exact ⟨rfl,BY.out⟩
 ·have B0:=mk0 hb1
  have HRG2:=mk0 (HRG.out w1 hb1)
  clear hr1 hrr1 hm1 hb1 HSH HRG HFS
  go_wp2_with fail
  (with_reducible refine HRG2.out.mono ?_)
  rintro e w2 ⟨H0,L0,A0,c0,rfl,hr0,hrr0,hm0,hb2⟩
  have B2:=mk0 (B0.out.trans (hb2.mono B0.out.size))
  have hl50:H0.length≤50:=by
   have h1:=HRL.out
   rw[← hm0,rowsM_len H0 L0 hrr0.1] at h1
   exact h1
  have HL50:=mk0 hl50
  have HR0:=mk0 (Kd.R_lower hr0 B0.out.size)
  have HO0:=mk0 (hrr0.low B0.out.size)
  have HF0:=mk0 (show RowsFit (rowsM H0 L0) by rw[hm0];exact HFR.out)
  clear hr0 hrr0 hm0 hb2 HRG2 HFR B0 HRL hl50
  go_wp2_with fail
  go_loopw[7,9] (fun v7 v9 wr=>∃ (i:Nat) (H:List RowH) (L:List (List CellM)),i≤40∧v9 = .int .i64 i∧Aside0 (H.length=H0.length+i)∧Aside0 (RowsR wr w.heap.size H L)∧Aside0 (kr.R 37 wr w.heap.size (fun _=>True) v7 H)∧Aside0 (RowsFit (rowsM H L))∧Aside0 (Below w.heap.size w wr)) (fun _ i _=>40-(intOf i).toNat)
  case atStart=>exact ⟨0,H0,L0,by omega,rfl,⟨rfl⟩,HO0,HR0,HF0,B2⟩
  case round=>
   clear HO0 HR0 HF0 B2
   obtain ⟨i,H1,L1,hi40,rfl,HN,HO,HR,HF,HB⟩:=hrel
   obtain ⟨A1,c1,rfl,hc1,_⟩:=Kd.R_reads HR.out
   have HCC:=mk0 hc1
   have HWI:=mk0 (book_Within more 40 wr HMR.out (by decide) (by decide))
   obtain ⟨q,hq⟩:∃ q,q=more%(40+1):=⟨_,rfl⟩
   have hq0:0≤q:=by rw[hq];exact Int.emod_nonneg _ (by decide)
   have hq40:q≤40:=by
    have:=Int.emod_lt_of_pos more (show (0:Int)<40+1 by decide)
    omega
   rw[← hq] at HWI
   clear hq hc1
   have hl50:=HL50.out
   by_cases hgo:(i:Int)<q∧0<H0.length
   ·obtain ⟨hiq,hn0⟩:=hgo
    have hgt:decide ((H0.length:Int)>0)=true:=decide_eq_true (by omega)
    have hgt2:(H0.length:Int)>0:=by omega
    have hn1:=HN.out
    obtain ⟨k,hk⟩:∃ k,k=i%H0.length:=⟨_,rfl⟩
    have hrem:(i:Int).tmod H0.length=(k:Int):=by rw[hk,Int.tmod_eq_emod_of_nonneg (by omega)];simp
    have hz0:¬ (H0.length:Int)=0:=by omega
    have hz1:¬ H0 = []:=by rintro rfl;simp at hn0
    have hkn:k<H0.length:=by rw[hk];exact Nat.mod_lt _ hn0
    have hk1:k<H1.length:=by omega
    clear hk
    obtain ⟨b,o,rfl,hx⟩:=kr_open (C_of HR.out) (by omega)
    obtain ⟨x0,x1,x2⟩:=hx k hk1
    have y0:=(hx (H1.length-1) (by omega)).1
    have hLk:k<L1.length:=by have:=HO.out.1;omega
    obtain ⟨n1,n2,n3⟩:=HO.out.2 k hk1 hLk
    have HF2:=mk0 (show ∀ T S,RowsFit (rowsM H1 L1++[⟨T,S,L1[k]⟩]) from fun T S=>HF.out.snoc (by rw[rowsM_len H1 L1 HO.out.1];omega) ⟨T,S,L1[k]⟩ (by
     have h1:L1[k] ∈ (rowsM H1 L1).map (·.cs):=by rw[rowsM_cs H1 L1 HO.out.1];exact List.getElem_mem hLk
     obtain ⟨q,hq,e⟩:=List.mem_map.1 h1
     exact ⟨q,hq,e.symm⟩))
    obtain ⟨y,hy⟩:∃ y,y=H1[k]:=⟨_,rfl⟩
    obtain ⟨yc,hyc⟩:∃ yc,yc=L1[k]:=⟨_,rfl⟩
    obtain ⟨lt,hlt⟩:∃ lt,lt=(H1[H1.length-1]'(by omega)).t:=⟨_,rfl⟩
    rw[← hy] at x0 x1 x2 n1 n2 n3
    rw[← hyc] at n1 n2 n3 HF2
    rw[← hlt] at y0
    have hki:(k:Int)<H1.length:=by omega
    have hbl:=World.block_lt_of_cell? wr _ x0
    have y0a:∀ o',(wr.alloc o').cell? ⟨b,o+(H1.length-1)*3,none⟩=some (.int .i64 lt):=fun o'=>(World.cell?_alloc_lt wr o' ⟨b,o+(H1.length-1)*3,none⟩ hbl).trans y0
    have hh1:(H1.length:Int)≤1000:=by omega
    have hnn:wrap64 ((H1.length:Int)-1)=((H1.length-1:Nat):Int):=by unfold wrap64;omega
    have hnn2:IntKind.i64.wrap ((H1.length:Int)-1)=((H1.length-1:Nat):Int):=by rw[IntWalk.i64_in _ (by omega)];omega
    have hnn3:(((H1.length-1:Nat):Int))<H1.length:=by omega
    have hx0:Value.slice (some ⟨wr.heap.size+1,0,none⟩) 1 1 = .slice (some ⟨(wr.alloc (.cells #[.int .i64 (wrap64 (lt+(i:Int)%2)),.int .i64 (100+(i:Int)),.slice y.A y.n y.c] 37)).heap.size,0,none⟩) 1 1:=by simp
    have ba:=below_alloc (Below.refl wr.heap.size wr) (.cells #[.int .i64 (wrap64 (lt+(i:Int)%2)),.int .i64 (100+(i:Int)),.slice y.A y.n y.c] 37)
    have HX0:=mk0 hx0
    have HRW:=mk0 (Kd.R_below HR.out ba)
    have HOW:=mk0 (HO.out.below ba)
    have HYW:=mk0 (Kd.R_below n3 ba)
    have HBW:=mk0 (HB.out.trans (ba.mono HB.out.size))
    have HLW:=mk0 (show H1.length≤1099511627776 by omega)
    have HYN:=mk0 (And.intro n1 n2)
    have HMS:=mk0 (rowsM_snoc H1 L1 ⟨wrap64 (lt+(i:Int)%2),100+(i:Int),y.A,y.n,y.c⟩ yc HO.out.1)
    have hh2:0<H1.length:=by omega
    have HI40:=mk0 (show i+1≤40 by omega)
    clear hx hn1 hkn hy hyc hlt hLk n1 n2 n3 hx0 ba HF HO HR HB
    go_wp2_with fail
    (with_reducible refine HWI.out.mono ?_)
    rintro e w' ⟨rfl,rfl⟩
    go_wp2_with (at_builtin;go_loud (refine kr_append (W:=wr.alloc (.cells #[.int .i64 (wrap64 (lt+(i:Int)%2)),.int .i64 (100+(i:Int)),.slice y.A y.n y.c] 37)) (.tmp 57) (.tmp 59) 22 37 (.slice (some ⟨b,o,none⟩) H1.length c1) H1 ⟨wrap64 (lt+(i:Int)%2),100+(i:Int),y.A,y.n,y.c⟩ w.heap.size rfl rfl Tryz.underlying22 info_row rfl HX0.out HRW.out HBW.out.size HLW.out ?_))
    intro v7 w7 hr7 hb7 hg7 hat7
    have HO7:=mk0 ((HOW.out.grown HRW.out (by decide) hg7).snoc ⟨wrap64 (lt+(i:Int)%2),100+(i:Int),y.A,y.n,y.c⟩ yc HYN.out.1 HYN.out.2 (R_grown_ne rfl HYW.out HRW.out (by decide) hg7))
    have HB7:=mk0 (HBW.out.trans hb7)
    have HF7:=mk0 (show RowsFit (rowsM (H1++[(⟨wrap64 (lt+(i:Int)%2),100+(i:Int),y.A,y.n,y.c⟩:RowH)]) (L1++[yc])) by rw[HMS.out];exact HF2.out _ _)
    have HN7:=mk0 (show (H1++[(⟨wrap64 (lt+(i:Int)%2),100+(i:Int),y.A,y.n,y.c⟩:RowH)]).length=H0.length+(i+1) by rw[List.length_append,HN.out];rfl)
    have HR7:=mk0 hr7
    generalize H1++[(⟨wrap64 (lt+(i:Int)%2),100+(i:Int),y.A,y.n,y.c⟩:RowH)]=H2 at *
    clear hr7 hb7 hg7 hat7 HRW HOW HYW HBW HLW HYN HMS HF2 HX0 x0 x1 x2 y0 y0a hnn hnn2 hnn3 hrem
    go_wp2
    go_roundw
    case rel=>exact ⟨i+1,H2,_,HI40.out,by go_num,HN7,HO7,HR7,HF7,HB7⟩
    case measure=>have:=HI40.out;simp[intOf];omega
   ·obtain ⟨M,hM⟩:∃ M,M=rowsM H1 L1:=⟨_,rfl⟩
    rw[← hM] at HF
    have HK1:=mk0 hM.symm
    have HC1:=mk0 (C_of HR.out)
    have HO1:=mk0 HO.out.on
    have B1:=HB
    clear hM HR HO HB HN
    by_cases hiq:(i:Int)<q
    ·have hn0:¬ (0:Nat)<H0.length:=fun h=>hgo ⟨hiq,h⟩
     have hgt:decide ((H0.length:Int)>0)=false:=decide_eq_false (by omega)
     have hgt2:¬ (H0.length:Int)>0:=by omega
     have hz:H0 = []:=List.eq_nil_of_length_eq_zero (by omega)
     subst hz
     clear hgo hn0
     go_wp2_with fail
     (with_reducible refine HWI.out.mono ?_)
     rintro e w' ⟨rfl,rfl⟩
     have hH1:H1.length=M.length:=by rw[← HK1.out,rowsM_len H1 L1 HO1.out.1]
     have HHL:=mk0 (show H1.length≤1000 by have:=HF.out.n;omega)
     have HL1:=mk0 (show ∀ c ∈ L1,c.length≤1000∧∀ x ∈ c,x.col.size≤1099511627776 from fun c h=>by
      rw[← rowsM_cs H1 L1 HO1.out.1,HK1.out] at h
      obtain ⟨r,hr,rfl⟩:=List.mem_map.1 h
      exact ⟨HF.out.l r hr,HF.out.c r hr⟩)
     have HWR:=mk0 (seg_Write A1 c1 H1 L1 wr HCC.out HC1.out HO1.out (by rw[HK1.out];exact HF.out.i))
     rw[HK1.out] at HWR
     have HRE:=mk0 (show ∀ w',Below wr.heap.size wr w'→Calls Tryz.prog 15 #[.slice A1 H1.length c1,.int .i64 4096] w' (fun e w''=>e = .returned (.int .i64 (writeS M).2)∧Below w'.heap.size w' w'') from fun w' hb=>by
      have h:=ref_Write A1 c1 H1 L1 4096 w' (Kd.C_below HC1.out hb) (HO1.out.below hb) (by have:=HHL.out;omega) (by decide) (fun c h=>(HL1.out c h).2)
      rw[HK1.out,← writeS_why] at h
      exact h)
     have HBAD:=mk0 (@writeS_bad M)
     have HLEN:=mk0 hH1
     have HWS:=mk0 (show (writeS M).2=0→writeS M=((writeS M).1,0) from fun h=>Prod.ext_iff.2 ⟨rfl,h⟩)
     clear hH1
     generalize (writeS M).2=x at *
     generalize (writeS M).1=z at *
     go_wp2_with fail
     (with_reducible refine HWR.out.mono ?_)
     rintro e w2 ⟨v2,rfl,hr2,hb2⟩
     obtain ⟨A2,c2,rfl,hc2,hC2⟩:=u8_R_len hr2
     have HC2:=mk0 (And.intro hc2 hC2)
     have B2:=mk0 hb2
     have HRE2:=mk0 (HRE.out w2 hb2)
     clear hr2 hb2 hc2 hC2 HWR HRE
     go_wp2_with fail
     (with_reducible refine HRE2.out.mono ?_)
     rintro e w3 ⟨rfl,hb3⟩
     have B3:=mk0 (B2.out.trans (hb3.mono B2.out.size))
     have HC3:=mk0 (And.intro HC2.out.1 (Kd.C_below HC2.out.2 hb3))
     have BW3:=mk0 (B1.out.trans (B3.out.mono B1.out.size))
     clear hb3 HRE2 HC2 B2
     have hxx:(x != x)=false:=by simp
     by_cases hx:x=0
     case neg=>
      have hx2:(x != 0)=true:=by simp[hx]
      have hz:=HBAD.out hx
      subst hz
      have HKN:=mk0 (law17_known w3)
      clear HBAD hx HWS
      go_wp2_with fail
      (with_reducible refine HKN.out.mono ?_)
      rintro e w4 ⟨rfl,hb4⟩
      have B4:=mk0 (BW3.out.trans (hb4.mono BW3.out.size))
      clear hb4 HKN
      go_wp2
      go_ret
      exact ⟨rfl,B4.out⟩
     subst hx
     have HW:=mk0 (HWS.out rfl)
     have HI:=mk0 HF.out.i
     have HOP:=mk0 (seg_Open A2 c2 z w3 HC3.out.2 HC3.out.1 (by have:=segB_len HW.out HI.out;omega))
     clear HBAD HWS HC3
     go_wp2_with fail
     (with_reducible refine HOP.out.mono ?_)
     intro e w4 hop
     rcases hop with ⟨hnone,_⟩ | ⟨M',PT,sg,hsm,rfl,hsg,hsa,hb4⟩
     ·rw[openS_write HW.out HI.out] at hnone;cases hnone
     obtain rfl:M=M':=by rw[openS_write HW.out HI.out] at hsm;injection hsm
     have HSG:=mk0 hsg
     have HS4:=mk0 hsa
     have B34:=mk0 hb4
     have HSP:=mk0 (seg_Span hsa)
     clear hsm hsg hsa hb4 HOP
     go_wp2_with fail
     (with_reducible refine HSP.out.mono ?_)
     rintro e w5 ⟨lo,hi,rfl,hlo,hhi,hb5⟩
     have B35:=mk0 (B34.out.trans (hb5.mono B34.out.size))
     have HS5:=mk0 (HS4.out.below hb5)
     have B15:=mk0 (B3.out.trans (B35.out.mono B3.out.size))
     have HRG:=mk0 (ref_Grow A1 c1 H1 L1 w5 (Kd.C_below HC1.out B15.out) (HO1.out.below B15.out) (by have:=HHL.out;omega) (fun c h=>(HL1.out c h).2))
     rw[HK1.out] at HRG
     have HMT:=mk0 (show M.map (·.t)=H1.map (·.t) by rw[← HK1.out];exact rowsM_t H1 L1 HO1.out.1)
     have hm0:=(writeS_ok HW.out).1
     have hn0:0<H1.length:=by have:=HLEN.out;omega
     have HLO:=mk0 (show (H1[0]'hn0).t=lo by
      rw[HMT.out,List.getElem?_map,List.getElem?_eq_getElem hn0] at hlo
      injection hlo)
     have HHI:=mk0 (show (H1[H1.length-1]'(by omega)).t=hi by
      rw[HMT.out,← HLEN.out,List.getElem?_map,List.getElem?_eq_getElem (by omega)] at hhi
      injection hhi)
     clear hlo hhi hb5 HSP hm0
     go_wp2_with fail
     (with_reducible refine HRG.out.mono ?_)
     rintro e w6 ⟨v6,rfl,hr6,hb6⟩
     obtain ⟨A6,c6,rfl⟩:=Kd.R_slice hr6
     have HC6:=mk0 (C_of hr6)
     have B36:=mk0 (B35.out.trans (hb6.mono B35.out.size))
     have B16:=mk0 (B15.out.trans (hb6.mono B15.out.size))
     have HS6:=mk0 (HS5.out.below hb6)
     have HCT:=mk0 (seg_Count HS6.out)
     rw[← HLEN.out] at HCT
     have HGR:=mk0 (seg_Groups HS6.out)
     have HNP:=mk0 (show nP M=(H1.length+15)/16 by unfold nP;rw[HLEN.out])
     rw[HNP.out] at HGR
     have HCO:=mk0 (seg_Cols HS6.out)
     have HGL:=mk0 (growsR_len M)
     generalize (growsR [] M).1=cols at *
     generalize (growsR [] M).2.1=g1 at *
     generalize (growsR [] M).2.2=g2 at *
     clear hr6 hb6 HRG
     go_wp2_with fail
     (with_reducible refine HCT.out.mono ?_)
     rintro e w6' ⟨rfl,rfl⟩
     go_wp2_with fail
     (with_reducible refine HGR.out.mono ?_)
     rintro e w6' ⟨rfl,rfl⟩
     have hH1000:(H1.length:Int)≤1000:=by have:=HHL.out;omega
     have hn0i:(0:Int)<H1.length:=by omega
     obtain ⟨bt,ot,e7,hxt⟩:=kr_open (Kd.C_below HC1.out B16.out) hn0
     have t0:=(hxt 0 hn0).1
     have t1:=(hxt (H1.length-1) (by omega)).1
     rw[HLO.out,Nat.zero_mul,Nat.add_zero] at t0
     rw[HHI.out] at t1
     subst e7
     have hnn:wrap64 ((H1.length:Int)-1)=((H1.length-1:Nat):Int):=by unfold wrap64;omega
     have hnn2:IntKind.i64.wrap ((H1.length:Int)-1)=((H1.length-1:Nat):Int):=by rw[IntWalk.i64_in _ (by omega)];omega
     have hnn3:(((H1.length-1:Nat):Int))<H1.length:=by omega
     have hnq:(((H1.length:Int)+16-1).tdiv 16)=(((H1.length+15)/16:Nat):Int):=by
      rw[Int.tdiv_eq_ediv_of_nonneg (by omega)]
      omega
     have hnq2:(((H1.length:Int)+15).tdiv 16)=(((H1.length+15)/16:Nat):Int):=by
      rw[Int.tdiv_eq_ediv_of_nonneg (by omega)]
      omega
     have hll:((H1.length:Int)==(H1.length:Int))=true:=by simp
     clear hxt HCT HGR
     go_wp2_with fail
     (with_reducible refine HCO.out.mono ?_)
     rintro e w7 ⟨A7,c7,rfl,hk7,hb7⟩
     have HKC:=mk0 (keep_Cols A7 A6 c7 c6 cols w7 hk7 (Kd.C_below HC6.out hb7) (Nat.le_trans HGL.out (by decide)))
     have B37:=mk0 (B36.out.trans (hb7.mono B36.out.size))
     have HS7:=mk0 (HS6.out.below hb7)
     clear hk7 hb7 HCO t0 t1 hnn hnn2 hnn3 hnq hnq2
     go_wp2_with fail
     (with_reducible refine HKC.out.mono ?_)
     rintro e w8 ⟨rfl,hb8⟩
     have B38:=mk0 (B37.out.trans (hb8.mono B37.out.size))
     have HRW:=mk0 (seg_Rows (HS7.out.below hb8) HW.out HI.out)
     clear hb8 HKC
     go_wp2_with fail
     (with_reducible refine HRW.out.mono ?_)
     rintro e w9 ⟨H',L',A9,c9,rfl,hc9,hr9,ho9,hm9,hf9⟩
     have hb9:=hf9.below (base:=w3.heap.size) B38.out.size (fun p hp=>by have:=HS7.out.lt p hp;have:=HSG.out;omega)
     have B39:=mk0 (B38.out.trans hb9)
     have B19:=mk0 (B3.out.trans (B39.out.mono B3.out.size))
     have hl9:H'.length=H1.length:=by rw[← rowsM_len H' L' ho9.1,hm9];exact HLEN.out.symm
     have hcl:∀ c ∈ L',c.length≤1099511627776:=fun c hc=>by
      rw[← rowsM_cs H' L' ho9.1,hm9] at hc
      obtain ⟨r,hr,rfl⟩:=List.mem_map.1 hc
      have:=HF.out.l r hr
      omega
     have HKR:=mk0 (keep_Rows A9 (some ⟨bt,ot,none⟩) c9 c1 H' H1 L' L1 w9 (C_of hr9) (Kd.C_below HC1.out B19.out) ho9.on (HO1.out.below B19.out) (by rw[hl9];have:=HHL.out;omega) (by have:=HHL.out;omega) hcl (fun c hc=>by have:=(HL1.out c hc).1;omega))
     rw[hm9,HK1.out,eqMs_refl] at HKR
     have BF:=mk0 (BW3.out.trans (B39.out.mono BW3.out.size))
     clear hc9 hr9 ho9 hm9 hf9 hb9 hl9 hcl HRW
     go_wp2_with fail
     (with_reducible refine HKR.out.mono ?_)
     rintro e w11 ⟨rfl,hb11⟩
     have BZ:=mk0 (BF.out.trans (hb11.mono BF.out.size))
     clear hb11 HKR
     have HKN:=mk0 (law17_known w11)
     go_wp2_with fail
     (with_reducible refine HKN.out.mono ?_)
     rintro e w12 ⟨rfl,hb12⟩
     have BY:=mk0 (BZ.out.trans (hb12.mono BZ.out.size))
     clear hb12
     go_wp2
     go_ret
     exact ⟨rfl,BY.out⟩
    ·clear hgo
     go_wp2_with fail
     (with_reducible refine HWI.out.mono ?_)
     rintro e w' ⟨rfl,rfl⟩
     have hH1:H1.length=M.length:=by rw[← HK1.out,rowsM_len H1 L1 HO1.out.1]
     have HHL:=mk0 (show H1.length≤1000 by have:=HF.out.n;omega)
     have HL1:=mk0 (show ∀ c ∈ L1,c.length≤1000∧∀ x ∈ c,x.col.size≤1099511627776 from fun c h=>by
      rw[← rowsM_cs H1 L1 HO1.out.1,HK1.out] at h
      obtain ⟨r,hr,rfl⟩:=List.mem_map.1 h
      exact ⟨HF.out.l r hr,HF.out.c r hr⟩)
     have HWR:=mk0 (seg_Write A1 c1 H1 L1 wr HCC.out HC1.out HO1.out (by rw[HK1.out];exact HF.out.i))
     rw[HK1.out] at HWR
     have HRE:=mk0 (show ∀ w',Below wr.heap.size wr w'→Calls Tryz.prog 15 #[.slice A1 H1.length c1,.int .i64 4096] w' (fun e w''=>e = .returned (.int .i64 (writeS M).2)∧Below w'.heap.size w' w'') from fun w' hb=>by
      have h:=ref_Write A1 c1 H1 L1 4096 w' (Kd.C_below HC1.out hb) (HO1.out.below hb) (by have:=HHL.out;omega) (by decide) (fun c h=>(HL1.out c h).2)
      rw[HK1.out,← writeS_why] at h
      exact h)
     have HBAD:=mk0 (@writeS_bad M)
     have HLEN:=mk0 hH1
     have HWS:=mk0 (show (writeS M).2=0→writeS M=((writeS M).1,0) from fun h=>Prod.ext_iff.2 ⟨rfl,h⟩)
     clear hH1
     generalize (writeS M).2=x at *
     generalize (writeS M).1=z at *
     go_wp2_with fail
     (with_reducible refine HWR.out.mono ?_)
     rintro e w2 ⟨v2,rfl,hr2,hb2⟩
     obtain ⟨A2,c2,rfl,hc2,hC2⟩:=u8_R_len hr2
     have HC2:=mk0 (And.intro hc2 hC2)
     have B2:=mk0 hb2
     have HRE2:=mk0 (HRE.out w2 hb2)
     clear hr2 hb2 hc2 hC2 HWR HRE
     go_wp2_with fail
     (with_reducible refine HRE2.out.mono ?_)
     rintro e w3 ⟨rfl,hb3⟩
     have B3:=mk0 (B2.out.trans (hb3.mono B2.out.size))
     have HC3:=mk0 (And.intro HC2.out.1 (Kd.C_below HC2.out.2 hb3))
     have BW3:=mk0 (B1.out.trans (B3.out.mono B1.out.size))
     clear hb3 HRE2 HC2 B2
     have hxx:(x != x)=false:=by simp
     by_cases hx:x=0
     case neg=>
      have hx2:(x != 0)=true:=by simp[hx]
      have hz:=HBAD.out hx
      subst hz
      have HKN:=mk0 (law17_known w3)
      clear HBAD hx HWS
      go_wp2_with fail
      (with_reducible refine HKN.out.mono ?_)
      rintro e w4 ⟨rfl,hb4⟩
      have B4:=mk0 (BW3.out.trans (hb4.mono BW3.out.size))
      clear hb4 HKN
      go_wp2
      go_ret
      exact ⟨rfl,B4.out⟩
     subst hx
     have HW:=mk0 (HWS.out rfl)
     have HI:=mk0 HF.out.i
     have HOP:=mk0 (seg_Open A2 c2 z w3 HC3.out.2 HC3.out.1 (by have:=segB_len HW.out HI.out;omega))
     clear HBAD HWS HC3
     go_wp2_with fail
     (with_reducible refine HOP.out.mono ?_)
     intro e w4 hop
     rcases hop with ⟨hnone,_⟩ | ⟨M',PT,sg,hsm,rfl,hsg,hsa,hb4⟩
     ·rw[openS_write HW.out HI.out] at hnone;cases hnone
     obtain rfl:M=M':=by rw[openS_write HW.out HI.out] at hsm;injection hsm
     have HSG:=mk0 hsg
     have HS4:=mk0 hsa
     have B34:=mk0 hb4
     have HSP:=mk0 (seg_Span hsa)
     clear hsm hsg hsa hb4 HOP
     go_wp2_with fail
     (with_reducible refine HSP.out.mono ?_)
     rintro e w5 ⟨lo,hi,rfl,hlo,hhi,hb5⟩
     have B35:=mk0 (B34.out.trans (hb5.mono B34.out.size))
     have HS5:=mk0 (HS4.out.below hb5)
     have B15:=mk0 (B3.out.trans (B35.out.mono B3.out.size))
     have HRG:=mk0 (ref_Grow A1 c1 H1 L1 w5 (Kd.C_below HC1.out B15.out) (HO1.out.below B15.out) (by have:=HHL.out;omega) (fun c h=>(HL1.out c h).2))
     rw[HK1.out] at HRG
     have HMT:=mk0 (show M.map (·.t)=H1.map (·.t) by rw[← HK1.out];exact rowsM_t H1 L1 HO1.out.1)
     have hm0:=(writeS_ok HW.out).1
     have hn0:0<H1.length:=by have:=HLEN.out;omega
     have HLO:=mk0 (show (H1[0]'hn0).t=lo by
      rw[HMT.out,List.getElem?_map,List.getElem?_eq_getElem hn0] at hlo
      injection hlo)
     have HHI:=mk0 (show (H1[H1.length-1]'(by omega)).t=hi by
      rw[HMT.out,← HLEN.out,List.getElem?_map,List.getElem?_eq_getElem (by omega)] at hhi
      injection hhi)
     clear hlo hhi hb5 HSP hm0
     go_wp2_with fail
     (with_reducible refine HRG.out.mono ?_)
     rintro e w6 ⟨v6,rfl,hr6,hb6⟩
     obtain ⟨A6,c6,rfl⟩:=Kd.R_slice hr6
     have HC6:=mk0 (C_of hr6)
     have B36:=mk0 (B35.out.trans (hb6.mono B35.out.size))
     have B16:=mk0 (B15.out.trans (hb6.mono B15.out.size))
     have HS6:=mk0 (HS5.out.below hb6)
     have HCT:=mk0 (seg_Count HS6.out)
     rw[← HLEN.out] at HCT
     have HGR:=mk0 (seg_Groups HS6.out)
     have HNP:=mk0 (show nP M=(H1.length+15)/16 by unfold nP;rw[HLEN.out])
     rw[HNP.out] at HGR
     have HCO:=mk0 (seg_Cols HS6.out)
     have HGL:=mk0 (growsR_len M)
     generalize (growsR [] M).1=cols at *
     generalize (growsR [] M).2.1=g1 at *
     generalize (growsR [] M).2.2=g2 at *
     clear hr6 hb6 HRG
     go_wp2_with fail
     (with_reducible refine HCT.out.mono ?_)
     rintro e w6' ⟨rfl,rfl⟩
     go_wp2_with fail
     (with_reducible refine HGR.out.mono ?_)
     rintro e w6' ⟨rfl,rfl⟩
     have hH1000:(H1.length:Int)≤1000:=by have:=HHL.out;omega
     have hn0i:(0:Int)<H1.length:=by omega
     obtain ⟨bt,ot,e7,hxt⟩:=kr_open (Kd.C_below HC1.out B16.out) hn0
     have t0:=(hxt 0 hn0).1
     have t1:=(hxt (H1.length-1) (by omega)).1
     rw[HLO.out,Nat.zero_mul,Nat.add_zero] at t0
     rw[HHI.out] at t1
     subst e7
     have hnn:wrap64 ((H1.length:Int)-1)=((H1.length-1:Nat):Int):=by unfold wrap64;omega
     have hnn2:IntKind.i64.wrap ((H1.length:Int)-1)=((H1.length-1:Nat):Int):=by rw[IntWalk.i64_in _ (by omega)];omega
     have hnn3:(((H1.length-1:Nat):Int))<H1.length:=by omega
     have hnq:(((H1.length:Int)+16-1).tdiv 16)=(((H1.length+15)/16:Nat):Int):=by
      rw[Int.tdiv_eq_ediv_of_nonneg (by omega)]
      omega
     have hnq2:(((H1.length:Int)+15).tdiv 16)=(((H1.length+15)/16:Nat):Int):=by
      rw[Int.tdiv_eq_ediv_of_nonneg (by omega)]
      omega
     have hll:((H1.length:Int)==(H1.length:Int))=true:=by simp
     clear hxt HCT HGR
     go_wp2_with fail
     (with_reducible refine HCO.out.mono ?_)
     rintro e w7 ⟨A7,c7,rfl,hk7,hb7⟩
     have HKC:=mk0 (keep_Cols A7 A6 c7 c6 cols w7 hk7 (Kd.C_below HC6.out hb7) (Nat.le_trans HGL.out (by decide)))
     have B37:=mk0 (B36.out.trans (hb7.mono B36.out.size))
     have HS7:=mk0 (HS6.out.below hb7)
     clear hk7 hb7 HCO t0 t1 hnn hnn2 hnn3 hnq hnq2
     go_wp2_with fail
     (with_reducible refine HKC.out.mono ?_)
     rintro e w8 ⟨rfl,hb8⟩
     have B38:=mk0 (B37.out.trans (hb8.mono B37.out.size))
     have HRW:=mk0 (seg_Rows (HS7.out.below hb8) HW.out HI.out)
     clear hb8 HKC
     go_wp2_with fail
     (with_reducible refine HRW.out.mono ?_)
     rintro e w9 ⟨H',L',A9,c9,rfl,hc9,hr9,ho9,hm9,hf9⟩
     have hb9:=hf9.below (base:=w3.heap.size) B38.out.size (fun p hp=>by have:=HS7.out.lt p hp;have:=HSG.out;omega)
     have B39:=mk0 (B38.out.trans hb9)
     have B19:=mk0 (B3.out.trans (B39.out.mono B3.out.size))
     have hl9:H'.length=H1.length:=by rw[← rowsM_len H' L' ho9.1,hm9];exact HLEN.out.symm
     have hcl:∀ c ∈ L',c.length≤1099511627776:=fun c hc=>by
      rw[← rowsM_cs H' L' ho9.1,hm9] at hc
      obtain ⟨r,hr,rfl⟩:=List.mem_map.1 hc
      have:=HF.out.l r hr
      omega
     have HKR:=mk0 (keep_Rows A9 (some ⟨bt,ot,none⟩) c9 c1 H' H1 L' L1 w9 (C_of hr9) (Kd.C_below HC1.out B19.out) ho9.on (HO1.out.below B19.out) (by rw[hl9];have:=HHL.out;omega) (by have:=HHL.out;omega) hcl (fun c hc=>by have:=(HL1.out c hc).1;omega))
     rw[hm9,HK1.out,eqMs_refl] at HKR
     have BF:=mk0 (BW3.out.trans (B39.out.mono BW3.out.size))
     clear hc9 hr9 ho9 hm9 hf9 hb9 hl9 hcl HRW
     go_wp2_with fail
     (with_reducible refine HKR.out.mono ?_)
     rintro e w11 ⟨rfl,hb11⟩
     have BZ:=mk0 (BF.out.trans (hb11.mono BF.out.size))
     clear hb11 HKR
     have HKN:=mk0 (law17_known w11)
     go_wp2_with fail
     (with_reducible refine HKN.out.mono ?_)
     rintro e w12 ⟨rfl,hb12⟩
     have BY:=mk0 (BZ.out.trans (hb12.mono BZ.out.size))
     clear hb12
     go_wp2
     go_ret
     exact ⟨rfl,BY.out⟩
end Go.Proofs.YtplnodcbbcdcgaaGreat.Lib0

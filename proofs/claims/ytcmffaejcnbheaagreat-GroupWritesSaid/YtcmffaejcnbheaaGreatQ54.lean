import Derived.Test.YtcmffaejcnbheaaGreatQ44
import Derived.Test.YtcmffaejcnbheaaGreatQ50
import Derived.Test.YtcmffaejcnbheaaGreatQ51
import Derived.Test.YtcmffaejcnbheaaGreatQ53
import Derived.Test.YtcmffaejcnbheaaGreatQ45
import Derived.SizedLaws
set_option linter.unusedVariables false
set_option linter.unusedSimpArgs false
namespace Go.Proofs.YtcmffaejcnbheaaGreat.Lib0
open Go.RowKit Go.Proofs.YtcmffaejcnbheaaGreatW.PrintWords Go.ChangeMaps
structure RowsFit (M : List RowM) : Prop where
 n : M.length ≤ 1000
 i : ∀ r ∈ M, ∀ c ∈ r.cs, I64 c.n
 c : ∀ r ∈ M, ∀ c ∈ r.cs, c.col.size ≤ 1099511627776
 l : ∀ r ∈ M, r.cs.length ≤ 1000
theorem cut20_size (s : ByteArray) : (cut20 s).size ≤ 20 := by
 unfold cut20
 split
 ·rw [ByteArray.size_extract]; omega
 ·omega
theorem shortM_len (M : List RowM) (n : Nat) : (shortM M n).length = min n M.length := by simp [shortM]
theorem short_fit (M : List RowM) (n : Nat) (hn : n ≤ 1000) (hi : ∀ r ∈ M, ∀ c ∈ r.cs, I64 c.n) : RowsFit (shortM M n) := by
 have hm : ∀ r ∈ shortM M n, ∃ q ∈ M, r = ⟨q.t, q.s, shortCs q.cs⟩ := fun r hr => by
  unfold shortM at hr
  obtain ⟨q, hq, rfl⟩ := List.mem_map.1 hr
  exact ⟨q, List.mem_of_mem_take hq, rfl⟩
 have hc : ∀ q : List CellM, ∀ c ∈ shortCs q, ∃ d ∈ q, c = shortC d := fun q c hc => by
  unfold shortCs at hc
  obtain ⟨d, hd, rfl⟩ := List.mem_map.1 hc
  exact ⟨d, List.mem_of_mem_take hd, rfl⟩
 refine ⟨by rw [shortM_len]; omega, fun r hr c h => ?_, fun r hr c h => ?_, fun r hr => ?_⟩
 ·obtain ⟨q, hq, rfl⟩ := hm r hr
  obtain ⟨d, hd, rfl⟩ := hc q.cs c h
  exact hi q hq d hd
 ·obtain ⟨q, hq, rfl⟩ := hm r hr
  obtain ⟨d, hd, rfl⟩ := hc q.cs c h
  have := cut20_size d.col
  show (cut20 d.col).size ≤ _
  omega
 ·obtain ⟨q, hq, rfl⟩ := hm r hr
  show (shortCs q.cs).length ≤ 1000
  unfold shortCs
  rw [List.length_map, List.length_take]
  omega
theorem rising_fit (M : List RowM) (n : Nat) (hn : n ≤ 17) : RowsFit (risingM M n) := by
 refine ⟨by rw [risingM_len]; omega, fun r hr => (rising17_row M n (by omega) r hr).2.2, fun r hr c hc => ?_, fun r hr => ?_⟩
 ·have h := (rising17_row M n (by omega) r hr).1
  unfold rowB at h
  rw [Bool.and_eq_true] at h
  have := nameB_len (fineB_name (cellsRB_fine _ _ h.2 c hc))
  omega
 ·have := rowB_head (rising17_row M n (by omega) r hr).1
  omega
theorem partB_small {M : List RowM} (hM : M.length ≤ 16) (x : ColM) (h : x.name.size ≤ 12 ∧ (x.kind = 1 ∨ x.kind = 2) ∧ ∀ c ∈ columnB M x.name, NormC x.kind c) : (partB M x).length ≤ 70000 := by
 have h1 := chunk_small h.2.1 (by rw [columnB_len]; exact hM) h.2.2
 unfold partB textB
 have h2 := putV_len10 (n := x.name.size) (by omega)
 have h3 := putV_len10 (n := (str (chunkB x.kind (columnB M x.name)).1).size) (by rw [str_size]; omega)
 have h4 : (byt x.name).length = x.name.size := byt_length _
 rw [List.length_append, List.length_append, List.length_append, byt_str]
 omega
theorem partsB_small {M : List RowM} (hM : M.length ≤ 16) : ∀ (l : List ColM), (∀ x ∈ l, x.name.size ≤ 12 ∧ (x.kind = 1 ∨ x.kind = 2) ∧ ∀ c ∈ columnB M x.name, NormC x.kind c) → (partsB M l).length ≤ 70000 * l.length
 | [], _ => Nat.zero_le _
 | c :: l, h => by
  have h1 := partsB_small hM l (fun x hx => h x (List.mem_cons_of_mem _ hx))
  have h2 := partB_small hM c (h c (by simp))
  rw [partsB, List.length_append, List.length_cons]
  omega
theorem write_small {M : List RowM} (h : (writeM M).2 = 0) (hi : ∀ r ∈ M, ∀ c ∈ r.cs, I64 c.n) : (writeM M).1.length ≤ 1000000 := by
 obtain ⟨h0, h16, hck, hw⟩ := writeM_ok h
 obtain ⟨hok, hg, _⟩ := checkM_ok hck
 have hcols := growsR_cols hg
 have h3 := growsR_len M
 have hnm := growsR_names M
 have hrow : ∀ r ∈ M, I64 r.t ∧ I64 r.s := fun r hr => by
  have := rowB_head (show rowB r.t r.s r.cs = true from hok r hr)
  unfold I64
  omega
 have h1 := deltaB_len (M.map (·.t)) (fun n hn => by obtain ⟨r, hr, rfl⟩ := List.mem_map.1 hn; exact (hrow r hr).1) (by rw [List.length_map]; omega)
 have h2 := deltaB_len (M.map (·.s)) (fun n hn => by obtain ⟨r, hr, rfl⟩ := List.mem_map.1 hn; exact (hrow r hr).2) (by rw [List.length_map]; omega)
 have h4 := partsB_small h16 (growsR [] M).1 (fun x hx => ⟨hnm x hx, hcols.norm hok hi hx⟩)
 have h5 := putV_len10 (n := (growsR [] M).1.length) (by omega)
 rw [hw]
 show (bytesM M).length ≤ _
 unfold bytesM
 rw [List.length_map] at h1 h2
 simp only [List.length_append]
 omega
theorem eqMs_refl : ∀ l : List RowM, eqMs l l = true
 | [] => rfl
 | c :: l => by rw [eqMs, eqMs_refl l, eqM_self]; rfl
theorem writeM_bad {M : List RowM} (h : (writeM M).2 ≠ 0) : (writeM M).1 = [] := by
 unfold writeM at h ⊢
 split
 ·rfl
 ·rename_i h1
  rw [if_neg h1] at h
  split at h
  ·simp at h
  ·rename_i h2
   rw [if_neg h2]
set_option maxHeartbeats 6400000 in
set_option maxRecDepth 100000 in
theorem walk_GroupWrites (A : Option Addr) (ca : Nat) (H : List RowH) (L : List (List CellM)) (tame : Bool) (w : World) (hH : kr.C w A H.length H) (hL : RowsOn w H L) (hl : H.length ≤ 9223372036854775807) (hc : ∀ c ∈ L, c.length * 48 ≤ 140737488355328) (hi : ∀ r ∈ rowsM H L, ∀ c ∈ r.cs, I64 c.n) :
  Calls Tryz.prog 3 #[.slice A H.length ca, .bool tame] w (TrueEnd w) := by
 have HSH := Aside0.mk (show Calls Tryz.prog 6 #[.slice A H.length ca, .int .i64 18] w (RisS w (shortM (rowsM H L) (min H.length 18))) from keep_Short A ca H L 18 w hH hL hl (by decide) hc)
 have HRG := Aside0.mk (show ∀ w', Below w.heap.size w w' → Calls Tryz.prog 7 #[.slice A H.length ca, .int .i64 17] w' (RisS w' (risingM (rowsM H L) (min H.length 17))) from fun w' hb => keep_Rising A ca H L 17 w' (Kd.C_below hH hb) (hL.below hb) hl (by decide) (fun c h => by have := hc c h; omega))
 have HFS := Aside0.mk (short_fit (rowsM H L) (min H.length 18) (by omega) hi)
 have HFR := Aside0.mk (rising_fit (rowsM H L) (min H.length 17) (by omega))
 generalize shortM (rowsM H L) (min H.length 18) = M1 at *
 generalize risingM (rowsM H L) (min H.length 17) = M2 at *
 clear hH hL hc hi
 go_enter Tryz.func3, Tryz.ntmps3
 go_wp2_with fail
 (with_reducible refine HSH.out.mono ?_)
 rintro e w1 ⟨H1, L1, A1, c1, rfl, hr1, hrr1, hm1, hb1⟩
 cases tame
 ·have B1 := Aside0.mk hb1
  have HF := HFS
  generalize M1 = M at *
  clear hb1 HSH HRG HFS HFR
  have hH1 : H1.length = M.length := by rw [← hm1, rowsM_len H1 L1 hrr1.1]
  have HHL := Aside0.mk (show H1.length ≤ 1000 by have := HF.out.n; omega)
  have HL1 := Aside0.mk (show ∀ c ∈ L1, c.length ≤ 1000 ∧ ∀ x ∈ c, x.col.size ≤ 1099511627776 from fun c h => by
   rw [← rowsM_cs H1 L1 hrr1.1, hm1] at h
   obtain ⟨r, hr, rfl⟩ := List.mem_map.1 h
   exact ⟨HF.out.l r hr, HF.out.c r hr⟩)
  have HWR := Aside0.mk (group_Write A1 c1 H1 L1 w1 (C_of hr1) hrr1.on (by rw [hm1]; exact HF.out.i))
  rw [writeR_M hrr1.1, hm1] at HWR
  have HRE := Aside0.mk (show ∀ w', Below w1.heap.size w1 w' → Calls Tryz.prog 9 #[.slice A1 H1.length c1, .int .i64 16] w' (fun e w'' => e = .returned (.int .i64 (writeM M).2) ∧ Below w'.heap.size w' w'') from fun w' hb => by
   have h := ref_Write A1 c1 H1 L1 16 w' (Kd.C_below (C_of hr1) hb) (hrr1.on.below hb) (by have := HHL.out; omega) (by decide) (fun c h => (HL1.out c h).2)
   rw [hm1, ← writeM_why] at h
   exact h)
  have HC1 := Aside0.mk (C_of hr1)
  have HO1 := Aside0.mk hrr1.on
  have HK1 := Aside0.mk hm1
  have HLEN := Aside0.mk hH1
  have HBAD := Aside0.mk (@writeM_bad M)
  have HSM := Aside0.mk (fun h => write_small (M := M) h HF.out.i)
  have HTR := Aside0.mk (fun h => readG_write (M := M) h HF.out.i)
  clear hr1 hrr1 hm1 hH1
  generalize (writeM M).2 = x at *
  generalize (writeM M).1 = z at *
  go_wp2_with fail
  (with_reducible refine HWR.out.mono ?_)
  rintro e w2 ⟨v2, rfl, hr2, hb2⟩
  obtain ⟨A2, c2, rfl⟩ := Kd.R_slice hr2
  have HR2 := Aside0.mk hr2
  have B2 := Aside0.mk hb2
  have HRE2 := Aside0.mk (HRE.out w2 hb2)
  clear hr2 hb2 HWR HRE
  go_wp2_with fail
  (with_reducible refine HRE2.out.mono ?_)
  rintro e w3 ⟨rfl, hb3⟩
  have B3 := Aside0.mk (B2.out.trans (hb3.mono B2.out.size))
  have HR3 := Aside0.mk (Kd.R_below HR2.out hb3)
  have BW3 := Aside0.mk (B1.out.trans (B3.out.mono B1.out.size))
  clear hb3 HRE2 HR2 B2
  have hxx : (x != x) = false := by simp
  by_cases hx : x = 0
  case neg =>
   have hx2 : (x != 0) = true := by simp [hx]
   have hz := HBAD.out hx
   subst hz
   have HKN := Aside0.mk (law16_known w3)
   clear HSM HTR HBAD hx
   go_wp2_with fail
   (with_reducible refine HKN.out.mono ?_)
   rintro e w4 ⟨rfl, hb4⟩
   have B4 := Aside0.mk (BW3.out.trans (hb4.mono BW3.out.size))
   clear hb4 HKN
   go_wp2
   go_ret
   exact ⟨rfl, B4.out⟩
  subst hx
  obtain ⟨qs, hq1, hq2, hq3⟩ := HTR.out rfl
  have hzl := HSM.out rfl
  obtain ⟨A2', c2', e9, hc2, _⟩ := Kd.R_reads HR3.out
  cases e9
  have HRD := Aside0.mk (group_Read A2 c2 z w3 (C_of HR3.out) hc2 (by omega))
  have HQ1 := Aside0.mk hq1
  have HQ2 := Aside0.mk hq2
  clear HSM HTR HBAD hq1 hq2 hq3 hc2 hzl
  go_wp2_with fail
  (with_reducible refine HRD.out.mono ?_)
  intro e w8 hrd
  rcases hrd with ⟨hnone, _⟩ | ⟨ts, ss, ps, lo, hi, hs, rfl, hg, hlo, hhi, hb8⟩
  ·rw [HQ1.out] at hnone; cases hnone
  have HFT := Aside0.mk (readG_some hs)
  have HE := Aside0.mk (show ts.length = M.length ∧ builtM ts ss (ps.map PartM.q) = M by
   rw [HQ1.out] at hs
   injection hs with hs
   injection hs with e1 hs
   injection hs with e2 e3
   subst e1 e2
   rw [← e3]
   exact ⟨List.length_map _, HQ2.out⟩)
  have HG := Aside0.mk hg.g
  have B8 := Aside0.mk hb8
  clear hs hg hlo hhi hb8 HRD HQ1 HQ2
  have HCT := Aside0.mk (group_Count HG.out)
  rw [HE.out.1, ← HLEN.out] at HCT
  go_wp2_with fail
  (with_reducible refine HCT.out.mono ?_)
  rintro e w9 ⟨rfl, rfl⟩
  have hll : ((H1.length : Int) == (H1.length : Int)) = true := by simp
  go_wp2_with fail
  have HRW := Aside0.mk (group_Rows (.inl HG.out) HFT.out.fit B8.out.size)
  (with_reducible refine HRW.out.mono ?_)
  rintro e w10 ⟨H', L', A9, c9, rfl, hr9, ho9, hk9, hg9, hf9⟩
  have B10 := Aside0.mk (FrG.below HG.out.K hf9 (Nat.le_refl _) B8.out.size)
  have hl9 := built_lens ho9.1 hk9 HFT.out.ps12
  have BB := Aside0.mk (B3.out.trans ((B8.out.trans B10.out).mono B3.out.size))
  have HKR := Aside0.mk (keep_Rows A9 A1 c9 c1 H' H1 L' L1 w10 (C_of hr9) (Kd.C_below HC1.out BB.out) ho9 (HO1.out.below BB.out) (by have := hl9.1; have := HFT.out.n16; omega) (by have := HHL.out; omega) (fun c hc => by have := hl9.2 c hc; omega) (fun c hc => by have := (HL1.out c hc).1; omega))
  rw [hk9, HK1.out, HE.out.2, eqMs_refl] at HKR
  have BF := Aside0.mk (BW3.out.trans ((B8.out.trans B10.out).mono BW3.out.size))
  clear hr9 ho9 hk9 hg9 hf9 B10 hl9 HRW
  go_wp2_with fail
  (with_reducible refine HKR.out.mono ?_)
  rintro e w11 ⟨rfl, hb11⟩
  have BZ := Aside0.mk (BF.out.trans (hb11.mono BF.out.size))
  clear hb11 HKR
  have HKN := Aside0.mk (law16_known w11)
  go_wp2_with fail
  (with_reducible refine HKN.out.mono ?_)
  rintro e w12 ⟨rfl, hb12⟩
  have BY := Aside0.mk (BZ.out.trans (hb12.mono BZ.out.size))
  clear hb12
  go_wp2
  go_ret
  exact ⟨rfl, BY.out⟩
 ·have B0 := Aside0.mk hb1
  have HRG2 := Aside0.mk (HRG.out w1 hb1)
  clear hr1 hrr1 hm1 hb1 HSH HRG HFS
  go_wp2_with fail
  (with_reducible refine HRG2.out.mono ?_)
  rintro e w2 ⟨H1, L1, A1, c1, rfl, hr1, hrr1, hm1, hb2⟩
  have B1 := Aside0.mk (B0.out.trans (hb2.mono B0.out.size))
  have HF := HFR
  generalize M2 = M at *
  clear hb2 HRG2 HFR B0
  generalize w1 = w0 at *
  generalize w2 = w1 at *
  have hH1 : H1.length = M.length := by rw [← hm1, rowsM_len H1 L1 hrr1.1]
  have HHL := Aside0.mk (show H1.length ≤ 1000 by have := HF.out.n; omega)
  have HL1 := Aside0.mk (show ∀ c ∈ L1, c.length ≤ 1000 ∧ ∀ x ∈ c, x.col.size ≤ 1099511627776 from fun c h => by
   rw [← rowsM_cs H1 L1 hrr1.1, hm1] at h
   obtain ⟨r, hr, rfl⟩ := List.mem_map.1 h
   exact ⟨HF.out.l r hr, HF.out.c r hr⟩)
  have HWR := Aside0.mk (group_Write A1 c1 H1 L1 w1 (C_of hr1) hrr1.on (by rw [hm1]; exact HF.out.i))
  rw [writeR_M hrr1.1, hm1] at HWR
  have HRE := Aside0.mk (show ∀ w', Below w1.heap.size w1 w' → Calls Tryz.prog 9 #[.slice A1 H1.length c1, .int .i64 16] w' (fun e w'' => e = .returned (.int .i64 (writeM M).2) ∧ Below w'.heap.size w' w'') from fun w' hb => by
   have h := ref_Write A1 c1 H1 L1 16 w' (Kd.C_below (C_of hr1) hb) (hrr1.on.below hb) (by have := HHL.out; omega) (by decide) (fun c h => (HL1.out c h).2)
   rw [hm1, ← writeM_why] at h
   exact h)
  have HC1 := Aside0.mk (C_of hr1)
  have HO1 := Aside0.mk hrr1.on
  have HK1 := Aside0.mk hm1
  have HLEN := Aside0.mk hH1
  have HBAD := Aside0.mk (@writeM_bad M)
  have HSM := Aside0.mk (fun h => write_small (M := M) h HF.out.i)
  have HTR := Aside0.mk (fun h => readG_write (M := M) h HF.out.i)
  clear hr1 hrr1 hm1 hH1
  generalize (writeM M).2 = x at *
  generalize (writeM M).1 = z at *
  go_wp2_with fail
  (with_reducible refine HWR.out.mono ?_)
  rintro e w2 ⟨v2, rfl, hr2, hb2⟩
  obtain ⟨A2, c2, rfl⟩ := Kd.R_slice hr2
  have HR2 := Aside0.mk hr2
  have B2 := Aside0.mk hb2
  have HRE2 := Aside0.mk (HRE.out w2 hb2)
  clear hr2 hb2 HWR HRE
  go_wp2_with fail
  (with_reducible refine HRE2.out.mono ?_)
  rintro e w3 ⟨rfl, hb3⟩
  have B3 := Aside0.mk (B2.out.trans (hb3.mono B2.out.size))
  have HR3 := Aside0.mk (Kd.R_below HR2.out hb3)
  have BW3 := Aside0.mk (B1.out.trans (B3.out.mono B1.out.size))
  clear hb3 HRE2 HR2 B2
  have hxx : (x != x) = false := by simp
  by_cases hx : x = 0
  case neg =>
   have hx2 : (x != 0) = true := by simp [hx]
   have hz := HBAD.out hx
   subst hz
   have HKN := Aside0.mk (law16_known w3)
   clear HSM HTR HBAD hx
   go_wp2_with fail
   (with_reducible refine HKN.out.mono ?_)
   rintro e w4 ⟨rfl, hb4⟩
   have B4 := Aside0.mk (BW3.out.trans (hb4.mono BW3.out.size))
   clear hb4 HKN
   go_wp2
   go_ret
   exact ⟨rfl, B4.out⟩
  subst hx
  obtain ⟨qs, hq1, hq2, hq3⟩ := HTR.out rfl
  have hzl := HSM.out rfl
  obtain ⟨A2', c2', e9, hc2, _⟩ := Kd.R_reads HR3.out
  cases e9
  have HRD := Aside0.mk (group_Read A2 c2 z w3 (C_of HR3.out) hc2 (by omega))
  have HQ1 := Aside0.mk hq1
  have HQ2 := Aside0.mk hq2
  clear HSM HTR HBAD hq1 hq2 hq3 hc2 hzl
  go_wp2_with fail
  (with_reducible refine HRD.out.mono ?_)
  intro e w8 hrd
  rcases hrd with ⟨hnone, _⟩ | ⟨ts, ss, ps, lo, hi, hs, rfl, hg, hlo, hhi, hb8⟩
  ·rw [HQ1.out] at hnone; cases hnone
  have HFT := Aside0.mk (readG_some hs)
  have HE := Aside0.mk (show ts.length = M.length ∧ builtM ts ss (ps.map PartM.q) = M by
   rw [HQ1.out] at hs
   injection hs with hs
   injection hs with e1 hs
   injection hs with e2 e3
   subst e1 e2
   rw [← e3]
   exact ⟨List.length_map _, HQ2.out⟩)
  have HG := Aside0.mk hg.g
  have B8 := Aside0.mk hb8
  clear hs hg hlo hhi hb8 HRD HQ1 HQ2
  have HCT := Aside0.mk (group_Count HG.out)
  rw [HE.out.1, ← HLEN.out] at HCT
  go_wp2_with fail
  (with_reducible refine HCT.out.mono ?_)
  rintro e w9 ⟨rfl, rfl⟩
  have hll : ((H1.length : Int) == (H1.length : Int)) = true := by simp
  go_wp2_with fail
  have HRW := Aside0.mk (group_Rows (.inl HG.out) HFT.out.fit B8.out.size)
  (with_reducible refine HRW.out.mono ?_)
  rintro e w10 ⟨H', L', A9, c9, rfl, hr9, ho9, hk9, hg9, hf9⟩
  have B10 := Aside0.mk (FrG.below HG.out.K hf9 (Nat.le_refl _) B8.out.size)
  have hl9 := built_lens ho9.1 hk9 HFT.out.ps12
  have BB := Aside0.mk (B3.out.trans ((B8.out.trans B10.out).mono B3.out.size))
  have HKR := Aside0.mk (keep_Rows A9 A1 c9 c1 H' H1 L' L1 w10 (C_of hr9) (Kd.C_below HC1.out BB.out) ho9 (HO1.out.below BB.out) (by have := hl9.1; have := HFT.out.n16; omega) (by have := HHL.out; omega) (fun c hc => by have := hl9.2 c hc; omega) (fun c hc => by have := (HL1.out c hc).1; omega))
  rw [hk9, HK1.out, HE.out.2, eqMs_refl] at HKR
  have BF := Aside0.mk (BW3.out.trans ((B8.out.trans B10.out).mono BW3.out.size))
  clear hr9 ho9 hk9 hg9 hf9 B10 hl9 HRW
  go_wp2_with fail
  (with_reducible refine HKR.out.mono ?_)
  rintro e w11 ⟨rfl, hb11⟩
  have BZ := Aside0.mk (BF.out.trans (hb11.mono BF.out.size))
  clear hb11 HKR
  have HKN := Aside0.mk (law16_known w11)
  go_wp2_with fail
  (with_reducible refine HKN.out.mono ?_)
  rintro e w12 ⟨rfl, hb12⟩
  have BY := Aside0.mk (BZ.out.trans (hb12.mono BZ.out.size))
  clear hb12
  go_wp2
  go_ret
  exact ⟨rfl, BY.out⟩
end Go.Proofs.YtcmffaejcnbheaaGreat.Lib0
namespace Go.Proofs.YtcmffaejcnbheaaGreat.Lib0
open Go.ChangeShapes Go.WideShapes Go.ChangeAt Go.RowKit
open Go.Proofs.YtcmffaejcnbheaaGreatW.PrintWords
section
variable {H : Type} {enc : TypeId × Value → H}
theorem weights_mem_all {P : Program} {e : TypeId} : ∀ {l : List (DataW H)} {d : DataW H}, d ∈ l → ∀ b ∈ DataW.weights P e d, b ∈ DataW.weightsAll P e l
 | x :: l, d, hd, b, hb => by
  rw [DataW.weightsAll, List.mem_append]
  rcases List.mem_cons.1 hd with rfl | hd
  ·exact .inl hb
  ·exact .inr (weights_mem_all hd b hb)
set_option maxRecDepth 100000 in
theorem in_cells2 {W : World} {fuel : Nat} {v : Value} {x : DataW H × List MemPlace} (h : DataW.trod enc Tryz.prog W 0 (fun _ => true) true fuel 74 [v] = some x) (hw : ∀ b ∈ DataW.weights Tryz.prog 74 x.1, b ≤ reachBytes) :
  ∃ A c, ∃ l : List CellM, v = .slice A l.length c ∧ l.length ≤ c ∧ kc.C W A l.length l ∧ l.length * 48 ≤ 140737488355328 ∧ ∀ c ∈ l, I64 c.n := by
 rcases Go.Deep.open_slice Tryz.underlying74 h with ⟨hcs, hx⟩ | ⟨a, len, cap, m, n, D, Pl, hcs, _, hl, hm, hmm, hx, hel⟩
 ·simp at hcs
  subst hcs
  exact ⟨none, 0, [], rfl, Nat.le_refl _, ⟨rfl, by simp, fun h => absurd h (by simp)⟩, by simp, fun c hc => by cases hc⟩
 ·simp at hcs
  subst hcs
  simp only [if_true] at hmm
  have hmx : cap ≤ 9223372036854775807 := by simpa [maxLen] using hm
  have hce : Tryz.prog.cellsOf 78 = 4 := by kernel_rfl
  obtain ⟨f, hf⟩ := Go.Deep.choose_lt (α := CellM) (n := len) (p := fun i c => (∀ j u, c.cells[j]? = some u → W.cell? (a.add (i * 4 + j)) = some u) ∧ I64 c.n) (fun i hi => by
   obtain ⟨cs', h1, h2⟩ := hel i (by omega)
   rw [hce] at h1
   obtain ⟨_, hlen, hcell⟩ := World.cells?_some h1
   obtain ⟨y0, y1, y2, y3, n', _, _, g0, g1, g2, g3⟩ := Go.Joins.trod_struct4 Tryz.underlying78 h2
   obtain ⟨c0, c1, c2, c3, rfl⟩ := list4 hlen
   dsimp only at g0 g1 g2 g3
   rw [show Tryz.prog.cellsOf 9 = 1 by kernel_rfl] at g0 g3
   rw [show Tryz.prog.cellsOf 3 = 1 by kernel_rfl] at g1
   rw [show Tryz.prog.cellsOf 2 = 1 by kernel_rfl] at g2
   simp only [List.drop_zero, List.drop_succ_cons, List.take_succ_cons, List.take_zero] at g0 g1 g2 g3
   obtain ⟨s0, e0, _, _⟩ := DataW.trod_string Tryz.underlying9 g0
   obtain ⟨n1, e1, _, _⟩ := DataW.trod_int Tryz.underlying3 g1
   obtain ⟨n2, e2, _, hwf2⟩ := DataW.trod_int Tryz.underlying2 g2
   obtain ⟨s3, e3, _, _⟩ := DataW.trod_string Tryz.underlying9 g3
   cases e0; cases e1; cases e2; cases e3
   refine ⟨⟨s0, n1, n2, s3⟩, fun j u hu => ?_, bounds_i64 hwf2⟩
   have hj : j < 4 := (List.getElem?_eq_some_iff.1 hu).1
   have := hcell j hj
   rw [add_go] at this
   rw [this]
   exact hu)
  have hlen : ((List.range len).map f).length = len := by simp
  have hsz : len * 48 ≤ 140737488355328 := by
   have hmem : ((List.range len).map D).length + ((List.range (m - len)).map fun j => D (len + j)).length ≤ 2932031007320 := by
    have h1 := hw ((((List.range len).map D).length + ((List.range (m - len)).map fun j => D (len + j)).length) * Tryz.prog.bytesOf 78) (by rw [hx]; simp [DataW.weights, Tryz.underlying74])
    have h2 : Tryz.prog.bytesOf 78 = 48 := by kernel_rfl
    rw [h2] at h1
    unfold reachBytes at h1
    omega
   rw [List.length_map, List.length_range] at hmem
   omega
  refine ⟨some a, cap, (List.range len).map f, by rw [hlen], by omega, ?_, by rw [hlen]; exact hsz, fun c hc => ?_⟩
  case refine_2 =>
   obtain ⟨i, hi, rfl⟩ := List.mem_map.1 hc
   exact (hf i (List.mem_range.1 hi)).2
  have hC := C_told (l := (List.range len).map f) (W := W) (a := a) kc_flat kc_told (by omega) (fun i hi j u hu => by
   have hi2 : i < len := by simpa using hi
   rw [List.getElem_map, List.getElem_range] at hu
   exact (hf i hi2).1 j u hu)
  exact hC
set_option maxRecDepth 100000 in
theorem in_rows2 {W : World} {v : Value} {d : DataW H} {ps : List MemPlace} {b : Nat} (hv : Value.okWide Tryz.prog W .any b 22 v) (h : DataW.Trod enc Tryz.prog W 0 (fun _ => true) true 22 v d ps) (hw : ∀ b ∈ DataW.weights Tryz.prog 22 d, b ≤ reachBytes) :
  ∃ A c, ∃ (R : List RowH) (L : List (List CellM)), v = .slice A R.length c ∧ kr.C W A R.length R ∧ RowsOn W R L ∧ R.length ≤ 9223372036854775807 ∧ ∀ x ∈ L, x.length * 48 ≤ 140737488355328 ∧ ∀ c ∈ x, I64 c.n := by
 obtain ⟨a0, len0, cap0, rfl⟩ := okWide_slice Tryz.underlying22 hv
 obtain ⟨fuel, h⟩ := h
 simp only [Value.cells] at h
 rcases Go.Deep.open_slice Tryz.underlying22 h with ⟨hcs, hx⟩ | ⟨a, len, cap, m, n, D, Pl, hcs, _, hl, hm, hmm, hx, hel⟩
 ·simp at hcs
  obtain ⟨rfl, rfl, rfl⟩ := hcs
  exact ⟨none, 0, [], [], rfl, ⟨rfl, by simp, fun h => absurd h (by simp)⟩, ⟨rfl, fun i h1 => by simp at h1⟩, by simp, fun x hx => by cases hx⟩
 ·simp at hcs
  obtain ⟨rfl, rfl, rfl⟩ := hcs
  simp only [if_true] at hmm
  have hmx : cap0 ≤ 9223372036854775807 := by simpa [maxLen] using hm
  have hce : Tryz.prog.cellsOf 76 = 3 := by kernel_rfl
  obtain ⟨f, hf⟩ := Go.Deep.choose_lt (α := RowIn) (n := len0) (p := fun i c => (∀ j u, c.h.cells[j]? = some u → W.cell? (a.add (i * 3 + j)) = some u) ∧ c.h.n = c.cs.length ∧ c.cs.length ≤ c.h.c ∧ kc.C W c.h.A c.cs.length c.cs ∧ c.cs.length * 48 ≤ 140737488355328 ∧ ∀ y ∈ c.cs, I64 y.n) (fun i hi => by
   obtain ⟨cs', h1, h2⟩ := hel i (by omega)
   rw [hce] at h1
   obtain ⟨_, hlen, hcell⟩ := World.cells?_some h1
   obtain ⟨y0, y1, y2, n', hDi, _, g0, g1, g2⟩ := Go.Deep.trod_struct3 Tryz.underlying76 h2
   obtain ⟨c0, c1, c2, rfl⟩ := list3 hlen
   dsimp only at g0 g1 g2
   rw [show Tryz.prog.cellsOf 2 = 1 by kernel_rfl] at g0
   rw [show Tryz.prog.cellsOf 3 = 1 by kernel_rfl] at g1
   rw [show Tryz.prog.cellsOf 74 = 1 by kernel_rfl] at g2
   simp only [List.drop_zero, List.drop_succ_cons, List.take_succ_cons, List.take_zero] at g0 g1 g2
   obtain ⟨n0, e0, _, _⟩ := DataW.trod_int Tryz.underlying2 g0
   obtain ⟨n1, e1, _, _⟩ := DataW.trod_int Tryz.underlying3 g1
   obtain ⟨A2, c2', l2, e2, k1, k2, k3, k4⟩ := in_cells2 g2 (fun b hb => by
    refine hw b ?_
    have e9 : d = .slice ((List.range len0).map D) ((List.range (m - len0)).map fun j => D (len0 + j)) := congrArg Prod.fst hx
    have e8 : D i = .agg [y0.1, y1.1, y2.1] := congrArg Prod.fst hDi
    rw [e9]
    have hin : b ∈ DataW.weights Tryz.prog 76 (D i) := by
     rw [e8]
     simp only [DataW.weights, Tryz.underlying76]
     exact DataW.weights_mem_each (j := 2) rfl rfl b hb
    simp only [DataW.weights, Tryz.underlying22, List.mem_cons, List.mem_append]
    exact .inr (.inl (weights_mem_all (List.mem_map_of_mem (List.mem_range.2 hi)) b hin)))
   cases e0; cases e1; subst e2
   refine ⟨⟨⟨n0, n1, A2, l2.length, c2'⟩, l2⟩, fun j u hu => ?_, rfl, k1, k2, k3, k4⟩
   have hj : j < 3 := (List.getElem?_eq_some_iff.1 hu).1
   have := hcell j hj
   rw [add_go] at this
   rw [this]
   exact hu)
  have hlen : ((List.range len0).map (fun i => (f i).h)).length = len0 := by simp
  refine ⟨some a, cap0, (List.range len0).map (fun i => (f i).h), (List.range len0).map (fun i => (f i).cs), by rw [hlen], ?_, ⟨by simp, fun i k1 k2 => ?_⟩, by omega, fun x hx => ?_⟩
  ·exact C_told (l := (List.range len0).map (fun i => (f i).h)) (W := W) (a := a) kr_flat kr_told (by omega) (fun i hi j u hu => by
    have hi2 : i < len0 := by simpa using hi
    rw [List.getElem_map, List.getElem_range] at hu
    exact (hf i hi2).1 j u hu)
  ·have hi2 : i < len0 := by simpa using k1
   rw [List.getElem_map, List.getElem_map, List.getElem_range]
   obtain ⟨q1, q2, q3, q4, q5, q6⟩ := hf i hi2
   exact ⟨q2, q3, q4⟩
  ·obtain ⟨i, hi, rfl⟩ := List.mem_map.1 hx
   exact (hf i (List.mem_range.1 hi)).2.2.2.2
end
end Go.Proofs.YtcmffaejcnbheaaGreat.Lib0

/- What chapter 6's reference does: Open, All. -/
import Derived.Test.YthacnbbijmgjfaaDoorRef
set_option linter.unusedVariables false
set_option linter.unusedSimpArgs false
namespace Go.Proofs.YthacnbbijmgjfaaDoor.Lib0
open Go.RowKit Go.Proofs.YthacnbbijmgjfaaDoorW.PrintWords
attribute [local go_sem] u32_all

set_option maxHeartbeats 1600000 in
set_option maxRecDepth 100000 in
theorem ref_Open_in (A : Option Addr) (c : Nat) (l : List UInt8) (a : Nat) (w : World) (h : u8.C w A l.length l) (hc : l.length ≤ c) (h1 : a ≤ l.length) (hl62 : l.length ≤ 1099511627776) :
    Calls Tryd.prog 47 #[.slice A l.length c, .int .i64 a] w (Told 5 w (openB l a)) := by
  rw [openB, if_neg (by omega), Int.toNat_natCast]
  obtain ⟨A1, c1, hs1, hc1, hC1⟩ := sl_drop (P := Tryd.prog) u8 23 5 .i64 Tryd.underlying23 info_u8 rfl A l c a (by omega) (by omega) hc
  rw [Int.toNat_natCast] at hs1 hc1 hC1
  have C1 := Aside0.mk (hC1 w h)
  have HC0 := Aside0.mk h
  have HN := Aside0.mk (show (l.drop a).length + a = l.length by rw [List.length_drop]; omega)
  clear hC1
  have h2 : ¬ (a : Int) < 0 := by omega
  have h3 : ¬ (l.length : Int) < a := by omega
  obtain ⟨l1, hl1⟩ : ∃ l1, l1 = l.drop a := ⟨_, rfl⟩
  rw [← hl1] at hs1 hc1 C1 HN ⊢
  by_cases h8 : l1.length < 8
  · rw [openL_short l1 a h8]
    have h8' : (l.length : Int) - a < 8 := by have := HN.out; omega
    clear h hl1 hs1
    go_enter Tryd.func47, Tryd.ntmps47
    go_wp2_with fail
    go_ret3
    exact told_nil _ _ _ (Below.refl _ _) _ _
  · have h8' : ¬ (l.length : Int) - a < 8 := by have := HN.out; omega
    obtain ⟨b0, b1, b2, b3, d0, d1, d2, d3, t, ht⟩ := eight l1 (by omega)
    rw [ht] at hl1 hs1 hc1 C1 HN ⊢
    have hlen : (b0 :: b1 :: b2 :: b3 :: d0 :: d1 :: d2 :: d3 :: t).length = t.length + 8 := by simp
    obtain ⟨A2, c2, hs2, hc2, hC2⟩ := sl_drop (P := Tryd.prog) u8 23 5 .i64 Tryd.underlying23 info_u8 rfl A l c ((a : Int) + 4) (by omega) (by have := HN.out; omega) hc
    have hd2 : l.drop ((a : Int) + 4).toNat = d0 :: d1 :: d2 :: d3 :: t := by
      rw [show ((a : Int) + 4).toNat = a + 4 by omega, ← List.drop_drop, ← hl1]; rfl
    have C2 := Aside0.mk (hC2 w h)
    rw [hd2] at hs2 hc2 C2
    have hd3 : ∀ n : Nat, l.drop ((a : Int) + 8 + (n : Int)).toNat = t.drop n := fun n => by
      rw [show ((a : Int) + 8 + (n : Int)).toNat = a + 8 + n by omega, ← List.drop_drop, ← List.drop_drop, ← hl1]; rfl
    have hd4 : ∀ n : Nat, (l.take ((a : Int) + 8 + (n : Int)).toNat).drop ((a : Int) + 8).toNat = t.take n := fun n => by
      rw [List.drop_take, show ((a : Int) + 8).toNat = a + 8 by omega, ← List.drop_drop, ← hl1, show ((a : Int) + 8 + (n : Int)).toNat - (a + 8) = n by omega]; rfl
    have HD3 := Aside0.mk hd3
    have HD4 := Aside0.mk hd4
    generalize (d0 :: d1 :: d2 :: d3 :: t).length = n2 at *
    have HLEN := Aside0.mk (show t.length + 8 + a = l.length by have := HN.out; omega)
    clear HN hC2 h hl1 hd2 hd3 hd4 hlen ht h8
    generalize (b0 :: b1 :: b2 :: b3 :: d0 :: d1 :: d2 :: d3 :: t).length = n1 at *
    have hu := un4_lt b0 b1 b2 b3
    have HE := Aside0.mk (openL_eight b0 b1 b2 b3 d0 d1 d2 d3 t a)
    generalize openL (b0 :: b1 :: b2 :: b3 :: d0 :: d1 :: d2 :: d3 :: t) a = r at *
    go_enter Tryd.func47, Tryd.ntmps47
    go_wp2_with fail
    refine (ref_get A1 n1 c1 b0 b1 b2 b3 _ _ C1.out).mono ?_
    rintro e w1 ⟨rfl, k1, rfl⟩
    go_wp2_with fail
    refine (ref_get A2 n2 c2 d0 d1 d2 d3 t _ (Kd.C_below C2.out (Drawn0.below (Drawn0.step (Drawn0.refl _) _)))).mono ?_
    rintro e w2 ⟨rfl, k2, rfl⟩
    have e1 := not_u32 (un4 b0 b1 b2 b3 : Int) (by omega) (by omega)
    have B2 := Aside0.mk (Drawn0.below (Drawn0.step (Drawn0.step (Drawn0.refl w) k1) k2))
    clear C2 hs2 hc2 C1 hs1 hc1
    generalize (w.drewN k1).drewN k2 = w2 at *
    generalize un4 d0 d1 d2 d3 = m at *
    generalize un4 b0 b1 b2 b3 = n at *
    by_cases hne : (m : Int) = 4294967295 - (n : Nat)
    · have H2 := HE.out
      rw [if_neg (by omega)] at H2
      replace HE := Aside0.mk H2
      clear H2
      have hb1 : ((m : Int) != 4294967295 - (n : Nat)) = false := by simp [hne]
      clear hne
      by_cases hbig : 1048576 < n
      · have H2 := HE.out
        rw [if_pos hbig] at H2
        replace HE := Aside0.mk H2
        clear H2
        have hbig' : (1048576 : Int) < n := by omega
        go_wp2
        go_ret3
        rw [HE.out]
        exact told_nil _ _ _ B2.out _ _
      have H2 := HE.out
      rw [if_neg hbig] at H2
      replace HE := Aside0.mk H2
      clear H2
      have hbig' : (n : Int) ≤ 1048576 := by omega
      by_cases hsh : t.length < n + 4
      · have H2 := HE.out
        rw [if_pos hsh] at H2
        replace HE := Aside0.mk H2
        clear H2
        have hsh' : (l.length : Int) - a - 8 < n + 4 := by have := HLEN.out; omega
        clear hsh
        go_wp2
        go_ret3
        rw [HE.out]
        exact told_nil _ _ _ B2.out _ _
      have H2 := HE.out
      rw [if_neg hsh] at H2
      replace HE := Aside0.mk H2
      clear H2
      have hsh' : ¬ (l.length : Int) - a - 8 < n + 4 := by have := HLEN.out; omega
      obtain ⟨A4, c4, hs4, hc4, hC4⟩ := sl_mid (P := Tryd.prog) u8 23 5 .i64 .i64 Tryd.underlying23 info_u8 rfl A l c ((a : Int) + 8) ((a : Int) + 8 + n) (by omega) (by omega) (by omega) hc
      obtain ⟨A3, c3, hs3, hc3, hC3⟩ := sl_drop (P := Tryd.prog) u8 23 5 .i64 Tryd.underlying23 info_u8 rfl A l c ((a : Int) + 8 + n) (by omega) (by omega) hc
      have C3 := Aside0.mk (hC3 w2 (Kd.C_below HC0.out B2.out))
      have C4 := Aside0.mk (hC4 w2 (Kd.C_below HC0.out B2.out))
      rw [HD3.out] at hs3 C3 hc3
      rw [HD4.out] at hs4 C4 hc4
      clear hC3 hC4
      obtain ⟨x0, x1, x2, x3, t2, ht2⟩ := four_ (t.drop n) (by rw [List.length_drop]; omega)
      have H2 := HE.out
      rw [ht2] at H2 C3 hs3 hc3
      simp only [] at H2
      replace HE := Aside0.mk H2
      have HLT := Aside0.mk (show (t.take n).length = n by rw [List.length_take]; omega)
      clear H2 ht2 HD3 HD4
      generalize t.take n = body at *
      generalize hn3 : (x0 :: x1 :: x2 :: x3 :: t2).length = n3 at *
      clear hn3
      go_wp2_with (at_builtin; go_loud (refine u8_append (.tmp 45) (.tmp 54) 23 5 (.slice (some ⟨w2.heap.size, 0, none⟩) 0 0) [] body _ _ _ w2.heap.size rfl rfl Tryd.underlying23 info_u8 rfl rfl (R_empty u8 5 w2) (Kd.C_below C4.out (below_alloc (Below.refl _ _) _)) ?c1 ?c2 ?_))
      case c1 => simp
      case c2 => have := HLT.out; simp; omega
      intro v1 w5 hr5 hb5 hg5 ha5
      have B5 := Aside0.mk (B2.out.trans (((below_alloc (Below.refl w2.heap.size w2) (.cells #[] 5)).trans hb5).mono B2.out.size))
      have R5 := Aside0.mk (Kd.R_lower hr5 B2.out.size)
      have hC5 := Kd.C_below C3.out ((below_alloc (Below.refl w2.heap.size w2) (.cells #[] 5)).trans hb5)
      obtain ⟨A5, c5, rfl, _, hC6⟩ := u8_R_len hr5
      have C5 := Aside0.mk hC5
      have C6 := Aside0.mk hC6
      clear hr5 hb5 hg5 ha5 hC5 hC6 C3 C4
      go_wp2_with fail
      refine (ref_get A3 n3 c3 x0 x1 x2 x3 t2 _ C5.out).mono ?_
      rintro e w6 ⟨rfl, k6, rfl⟩
      have B6 := Aside0.mk (B5.out.trans ((Drawn0.below (Drawn0.step (Drawn0.refl w5) k6)).mono B5.out.size))
      have R6 := Aside0.mk (Kd.R_below R5.out (Drawn0.below (Drawn0.step (Drawn0.refl w5) k6)))
      have C7 := Aside0.mk (Kd.C_below C6.out (Drawn0.below (Drawn0.step (Drawn0.refl w5) k6)))
      clear C5 R5 C6
      generalize w5.drewN k6 = w6 at *
      go_wp2_with fail
      refine (ref_Crc A5 c5 body _ C7.out).mono ?_
      rintro e w' ⟨rfl, rfl⟩
      have hz : (a : Int) + 12 + n ≤ l.length := by omega
      generalize un4 x0 x1 x2 x3 = mm at *
      generalize hcr : crc body = cr at *
      clear hcr
      by_cases hcc : (mm : Int) = cr
      · have hb2 : ((mm : Int) != cr) = false := by simp [hcc]
        have H2 := HE.out
        rw [if_neg (by omega)] at H2
        replace HE := Aside0.mk H2
        clear hcc H2
        go_wp2
        go_ret3
        rw [HE.out]
        refine ⟨_, ?_, R6.out, B6.out⟩
        rw [show (a : Int) + n + 12 = a + 12 + n by omega]
        rfl
      · have hb2 : ((mm : Int) != cr) = true := by simpa using hcc
        have H2 := HE.out
        rw [if_pos hcc] at H2
        replace HE := Aside0.mk H2
        clear hcc H2
        go_wp2
        go_ret3
        rw [HE.out]
        exact told_nil _ _ _ B6.out _ _
    · have hb1 : ((m : Int) != 4294967295 - (n : Nat)) = true := by simpa using hne
      have H2 := HE.out
      rw [if_pos hne] at H2
      replace HE := Aside0.mk H2
      clear hne H2
      go_wp2
      go_ret3
      rw [HE.out]
      exact told_nil _ _ _ B2.out _ _
set_option maxHeartbeats 1600000 in
set_option maxRecDepth 100000 in
theorem ref_All (A : Option Addr) (c : Nat) (l : List UInt8) (w : World) (h : u8.C w A l.length l) (hc : l.length ≤ c) (hl : l.length ≤ 1099511627776) :
    Calls Tryd.prog 31 #[.slice A l.length c] w (ToldAll 23 w (allB l)) := by
  have HC := Aside0.mk h
  have HL := Aside0.mk hl
  have hm := u8_len h
  clear h hl
  go_enter Tryd.func31, Tryd.ntmps31
  go_wp2
  go_loopw [5, 6] (fun v5 v6 wr => ∃ (i : Nat) (k : Nat) (acc : List (List UInt8)), i ≤ l.length ∧ v6 = .int .i64 i ∧ Aside0 (l.length < i + k) ∧ Aside0 (acc.length ≤ i) ∧ Aside0 (acc ++ (allF k l i).1 = (allB l).1) ∧ Aside0 ((allF k l i).2 = (allB l).2) ∧ Aside0 (bb.R 23 wr w.heap.size (fun _ => True) v5 acc) ∧ Aside0 (Below w.heap.size w wr)) (fun _ i _ => l.length - (intOf i).toNat)
  case atStart => exact ⟨0, l.length + 1, [], by omega, rfl, ⟨by omega⟩, ⟨by simp⟩, ⟨rfl⟩, ⟨rfl⟩, ⟨Kd.R_nil _ _ _ _ _⟩, ⟨Below.refl _ _⟩⟩
  case round =>
    obtain ⟨i, k, acc, hi, rfl, HK, HA, H1, H2, HR, HB⟩ := hrel
    cases k with
    | zero => exact absurd HK.out (by omega)
    | succ k =>
    by_cases hlt : i < l.length
    · have hlt' : (i : Int) < l.length := by omega
      have G1 := H1.out
      have G2 := H2.out
      simp only [allF, if_pos hlt'] at G1 G2
      replace H1 := Aside0.mk G1
      replace H2 := Aside0.mk G2
      clear G1 G2
      have OK := Aside0.mk (openB_ok l (i : Int))
      have CR := Aside0.mk (Kd.C_below HC.out HB.out)
      have hc' := ref_Open_in A c l i wr CR.out hc (by omega) HL.out
      generalize openB l (i : Int) = r at *
      obtain ⟨body, end_, why⟩ := r
      try dsimp only at *
      have CA := Aside0.mk hc'
      clear hc'
      go_wp2_with fail
      refine CA.out.mono ?_
      rintro e w1 ⟨v1, rfl, hr1, hb1⟩
      obtain ⟨A1, c1, rfl, hl1, hC1⟩ := u8_R_len hr1
      clear hC1 hl1
      have R1 := Aside0.mk hr1
      have B1 := Aside0.mk hb1
      clear hr1 hb1 CA
      have B2 := Aside0.mk (HB.out.trans (B1.out.mono HB.out.size))
      try dsimp only at *
      by_cases hw : why = 0
      · subst hw
        have o1 := OK.out rfl
        try dsimp only at o1
        obtain ⟨o1, o2, o3⟩ := o1
        obtain ⟨j, rfl⟩ := Int.eq_ofNat_of_zero_le (show 0 ≤ end_ by omega)
        have G1 := H1.out
        have G2 := H2.out
        simp only [ne_eq, not_true_eq_false, if_false] at G1 G2
        replace H1 := Aside0.mk G1
        replace H2 := Aside0.mk G2
        have hj : i + 12 ≤ j := by omega
        have hj2 : j ≤ l.length := by omega
        clear G1 G2 OK o1 o2 o3
        go_wp2_with (at_builtin; go_loud (refine bb_append (.tmp 26) (.tmp 28) 57 u5 _ acc body w.heap.size rfl rfl Tryd.underlying57 info_bb rfl rfl HR.out R1.out B1.out HB.out.size ?c1 ?_))
        case c1 => have := HA.out; have := HL.out; omega
        intro v2 w2 hr2 hb2 hg2 ha2
        have R2 := Aside0.mk hr2
        have B3 := Aside0.mk (B2.out.trans hb2)
        clear hr2 hb2 hg2 ha2
        go_wp2
        go_roundw
        case rel => exact ⟨j, k, acc ++ [body], hj2, by first | rfl | go_num, ⟨by have := HK.out; omega⟩, ⟨by have := HA.out; simp; omega⟩, ⟨by rw [List.append_assoc]; exact H1.out⟩, H2, R2, B3⟩
        case measure => simp [intOf]; omega
      · have G1 := H1.out
        have G2 := H2.out
        rw [if_pos hw] at G1 G2
        replace H1 := Aside0.mk G1
        replace H2 := Aside0.mk G2
        have hwb : ((why : Int) != 0) = true := by simpa using hw
        clear G1 G2 OK hw
        go_wp2
        go_ret3
        refine ⟨u5, ?_, ?_, B2.out⟩
        · rw [← H2.out]; rfl
        · rw [← H1.out]
          simpa using Kd.R_below HR.out B1.out
    · obtain rfl : i = l.length := by omega
      have G1 := H1.out
      have G2 := H2.out
      simp only [allF, if_neg (Int.lt_irrefl _)] at G1 G2
      replace H1 := Aside0.mk G1
      replace H2 := Aside0.mk G2
      clear G1 G2
      go_wp2
      go_ret3
      refine ⟨u5, ?_, ?_, HB.out⟩
      · rw [← H2.out]; rfl
      · rw [← H1.out]
        simpa using HR.out

end Go.Proofs.YthacnbbijmgjfaaDoor.Lib0

/- WalNumbers: the walk. -/
import Derived.Test.YthacnbbijmgjfaaDoorAl
import Derived.StillTailTactics
import Derived.IntWalk
set_option linter.unusedVariables false
set_option linter.unusedSimpArgs false
namespace Go.Proofs.YthacnbbijmgjfaaDoor.Lib0
open Go.RowKit Go.Proofs.YthacnbbijmgjfaaDoorW.PrintWords Go.ChangeMaps

theorem zeros_string (n : Nat) (hn : n ≤ 1099511627776) : ∃ (ob : Obj) (s : ByteArray), s.size = n ∧ (∀ W : World, (Instr.makeSlice 23 (.int .i64 (n : Int)) (.int .i64 (n : Int))).run Tryd.prog W = .ok (.slice (some ⟨W.heap.size, 0, none⟩) n n) (W.alloc ob)) ∧
    (∀ W : World, (convert 23 9 (.slice (some ⟨W.heap.size, 0, none⟩) n n)).run Tryd.prog (W.alloc ob) = .ok (.string s) (W.alloc ob)) := by
  refine ⟨.cells ((List.replicate n (0 : UInt8)).map encB).toArray 5, str (List.replicate n 0), ?_, fun W => ?_, fun W => ?_⟩
  · rw [← byt_length, byt_str, List.length_replicate]
  · have h := print_make_int (P := Tryd.prog) 23 5 (.int .u8 0) 1 Tryd.underlying23 info_u8 rfl (by omega) (n : Int) (by omega) (by omega) W
    rw [made_bytes, Int.toNat_natCast] at h
    exact h
  · have h := u8_C_lit W (List.replicate n (0 : UInt8)) 5 (by rw [List.length_replicate]; omega)
    have h2 := u8_string (P := Tryd.prog) (c := n) Tryd.underlying23 Tryd.underlying5 Tryd.underlying9 h
    rwa [List.length_replicate] at h2
theorem on_Open_bad {w : World} {base d s : Nat} {b : List UInt8} {q : Int} (h : On w base d b s q) :
    Calls Tryd.prog 19 #[dptr d, .string ⟨#[]⟩] w fun e w' => e = .returned (.tuple #[.pointer none, .slice none 0 0, .int .i64 20]) ∧ On w' base d b s q ∧ Kept base w w' := by
  obtain ⟨L, D, h, ho, hq⟩ := h
  refine (open_bad h (s := ⟨#[]⟩) (by decide)).mono ?_
  rintro e w' ⟨rfl, hs⟩
  exact ⟨rfl, ⟨L, D, hs.at_, ho, hq⟩, Kept.of_step h hs⟩
theorem scan_123 : (allB [1, 2, 3]).1 = [] ∧ (allB [1, 2, 3]).2.1 = 0 := by decide
theorem scan_nil : (allB []).1 = [] ∧ (allB []).2.1 = 0 := by decide
theorem xor_ne (b x : UInt8) (hx : x ≠ 0) : b ^^^ x ≠ b := by
  intro he
  apply hx
  have h2 : b.toBitVec ^^^ x.toBitVec = b.toBitVec := by
    have := congrArg UInt8.toBitVec he
    simpa using this
  have h3 : x.toBitVec = 0#8 := by
    have := congrArg (fun z => b.toBitVec ^^^ z) h2
    simp only [← BitVec.xor_assoc, BitVec.xor_self, BitVec.zero_xor] at this
    exact this
  exact UInt8.toBitVec_inj.1 (by rw [h3]; rfl)
theorem turn_first (x y : List UInt8) (hx : x.length ≤ 1048576) (hy : y.length ≤ 1048576) (h3 : 3 < (recs [x, y]).length) : ∃ t, (recs [x, y]).set 3 ((recs [x, y])[3] ^^^ (1 : UInt8)) = recs [] ++ t ∧ Stops t := by
  have hne : ((recs [x, y])[3] ^^^ (1 : UInt8)) ≠ (recs [x, y])[3] := by
    exact xor_ne _ 1 (by decide)
  obtain ⟨n, t, h1, h2, _, h4, h5⟩ := recs_turn [x, y] (by intro z hz; simp at hz; rcases hz with rfl | rfl <;> assumption) 3 h3 _ hne
  have hn : n = 0 := by
    rcases n with _ | n
    · rfl
    · have := recs_len ([x, y].take (n + 1))
      rw [List.length_take] at this
      simp only [List.length_cons, List.length_nil] at this h1
      omega
  subst hn
  exact ⟨t, h4, h5⟩
set_option maxHeartbeats 16000000 in
set_option maxRecDepth 100000 in
theorem walk_WalNumbers (w : World) : Calls Tryd.prog 9 #[] w fun e w' => e = .returned (.bool true) ∧ Below w.heap.size w w' := by
  obtain ⟨ob1, z1, hz1, hmk1, hcv1⟩ := zeros_string 65537 (by omega)
  obtain ⟨ob2, z2, hz2, hmk2, hcv2⟩ := zeros_string 65536 (by omega)
  rw [show ((65537 : Nat) : Int) = 65537 from rfl] at hmk1
  rw [show ((65536 : Nat) : Int) = 65536 from rfl] at hmk2
  have Z1 := Aside0.mk hz1
  have Z2 := Aside0.mk hz2
  clear hz1 hz2
  go_enter Tryd.func9, Tryd.ntmps9
  go_wp2_with fail
  refine (open_nil w _).mono ?_
  rintro e w' ⟨rfl, rfl⟩
  go_wp2_with fail
  refine (on_New w).mono ?_
  rintro e w1 ⟨d, rfl, ho, hb⟩
  have B1 := Aside0.mk hb
  have HOB := Aside0.mk (on_Open_bad ho)
  clear ho hb
  unfold dptr at *
  go_wp2_with fail
  refine HOB.out.mono ?_
  rintro e w2 ⟨rfl, ho, hk⟩
  have B2 := Aside0.mk (B1.out.trans hk.below)
  have HOP := Aside0.mk (on_Open_recs [] (by simp) [] (.inl rfl) ho (by simp [recs]))
  clear ho hk HOB B1
  unfold dptr at *
  go_wp2_with fail
  refine HOP.out.mono ?_
  rintro e w3 ⟨lg, v3, s3, rfl, hr3, ho3, hl3, hk3⟩
  have O3 := Aside0.mk ho3
  have L3 := Aside0.mk hl3
  have B3 := Aside0.mk (B2.out.trans hk3.below)
  obtain ⟨A3, c3, rfl, _, _⟩ := Kd.R_reads hr3
  have HSY := Aside0.mk (on_Sync ho3 hl3)
  clear ho3 hl3 hk3 hr3 HOP B2
  unfold lptr at *
  go_wp2_with fail
  refine HSY.out.mono ?_
  rintro e w4 ⟨rfl, ho4, hk4⟩
  have O4 := Aside0.mk ho4
  have L4 := Aside0.mk (L3.out.kept hk4)
  have B4 := Aside0.mk (B3.out.trans hk4.below)
  have HSZ := Aside0.mk (on_Size ho4 L4.out)
  clear ho4 hk4 HSY O3 L3 B3
  unfold lptr at HSZ
  go_wp2_with fail
  refine HSZ.out.mono ?_
  rintro e w5 ⟨rfl, hb5⟩
  have O5 := Aside0.mk (O4.out.below hb5)
  have L5 := Aside0.mk (L4.out.made hb5)
  have B5 := Aside0.mk (B4.out.trans (hb5.mono B4.out.size))
  have HLO := Aside0.mk (fun W => log_Append_long (w := W) (lg := lg) z1 (by rw [Z1.out]; omega))
  clear hb5 HSZ O4 L4 B4
  unfold lptr at HLO
  go_wp2_with fail
  refine (HLO.out _).mono ?_
  rintro e w' ⟨rfl, rfl⟩
  have hb6 := below_alloc (Below.refl w5.heap.size w5) ob1
  have O6 := Aside0.mk (O5.out.below hb6)
  have L6 := Aside0.mk (L5.out.made hb6)
  have B6 := Aside0.mk (B5.out.trans (hb6.mono B5.out.size))
  clear hb6 O5 L5 B5 HLO hmk1 hcv1
  generalize w5.alloc ob1 = w6 at *
  have hb7 := below_alloc (Below.refl w6.heap.size w6) ob2
  have HAP := Aside0.mk (on_Append (O6.out.below hb7) (L6.out.made hb7) z2 (by rw [Z2.out]; omega) (by simp [recs]))
  have L7 := Aside0.mk (L6.out.made hb7)
  have B7 := Aside0.mk (B6.out.trans (hb7.mono B6.out.size))
  clear hb7 O6 L6 B6
  rw [show recs [] ++ sealB (byt z2) = recs [byt z2] by simp [recs]] at HAP
  unfold lptr at HAP
  go_wp2_with fail
  refine HAP.out.mono ?_
  rintro e w8 ⟨rfl, ho8, hk8⟩
  have L8 := Aside0.mk (L7.out.kept hk8)
  have B8 := Aside0.mk (B7.out.trans hk8.below)
  have HLB := Aside0.mk (show (recs [byt z2]).length = 65548 by simp [recs, sealB_len', byt_length, Z2.out])
  have HQU := Aside0.mk (on_Quota ho8 10 (by omega))
  clear ho8 hk8 HAP L7 B7 hmk2 hcv2
  unfold dptr at HQU
  go_wp2_with fail
  refine HQU.out.mono ?_
  rintro e w9 ⟨rfl, ho9, hk9⟩
  have L9 := Aside0.mk (L8.out.kept hk9)
  have B9 := Aside0.mk (B8.out.trans hk9.below)
  have HAQ := Aside0.mk (on_AppendQ ho9 L9.out ⟨#[116, 111, 111, 32, 109, 117, 99, 104]⟩ (by decide) (by rw [HLB.out]; omega))
  rw [show roomy 10 ((⟨#[116, 111, 111, 32, 109, 117, 99, 104]⟩ : ByteArray).size + 12) = false by decide] at HAQ
  simp only [Bool.false_eq_true, if_false] at HAQ
  clear ho9 hk9 HQU L8 B8
  unfold lptr at HAQ
  go_wp2_with fail
  refine HAQ.out.mono ?_
  rintro e w10 ⟨rfl, ⟨q10, ho10⟩, hk10⟩
  have O10 := Aside0.mk ho10
  have L10 := Aside0.mk (L9.out.kept hk10)
  have B10 := Aside0.mk (B9.out.trans hk10.below)
  have HSZ := Aside0.mk (on_Size ho10 L10.out)
  rw [HLB.out] at HSZ
  clear ho10 hk10 HAQ L9 B9
  unfold lptr at HSZ
  go_wp2_with fail
  refine HSZ.out.mono ?_
  rintro e w11 ⟨rfl, hb11⟩
  have L11 := Aside0.mk (L10.out.made hb11)
  have B11 := Aside0.mk (B10.out.trans (hb11.mono B10.out.size))
  have HQU := Aside0.mk (on_Quota (O10.out.below hb11) (-1) (by omega))
  clear hb11 HSZ O10 L10 B10
  unfold dptr at HQU
  go_wp2_with fail
  refine HQU.out.mono ?_
  rintro e w12 ⟨rfl, ho12, hk12⟩
  have L12 := Aside0.mk (L11.out.kept hk12)
  have B12 := Aside0.mk (B11.out.trans hk12.below)
  obtain ⟨fine, hfine⟩ : ∃ f : ByteArray, f = ⟨#[102, 105, 110, 101]⟩ := ⟨_, rfl⟩
  have HFN := Aside0.mk (show fine.size = 4 by rw [hfine]; rfl)
  have HAP := Aside0.mk (on_Append ho12 L12.out fine (by rw [HFN.out]; omega) (by rw [HLB.out]; omega))
  rw [show recs [byt z2] ++ sealB (byt fine) = recs [byt z2, byt fine] by simp [recs]] at HAP
  have HLB2 := Aside0.mk (show (recs [byt z2, byt fine]).length = 65564 by simp [recs, sealB_len', byt_length, Z2.out, HFN.out])
  clear ho12 hk12 HQU L11 B11
  unfold lptr at HAP
  rw [hfine] at HAP
  go_wp2_with fail
  refine HAP.out.mono ?_
  rw [← hfine]
  rintro e w13 ⟨rfl, ho13, hk13⟩
  have O13 := Aside0.mk ho13
  have B13 := Aside0.mk (B12.out.trans hk13.below)
  have hb14 := below_alloc (Below.refl w13.heap.size w13) (.cells #[.int .u8 1, .int .u8 2, .int .u8 3] 5)
  have O14 := Aside0.mk (O13.out.below hb14)
  have B14 := Aside0.mk (B13.out.trans (hb14.mono B13.out.size))
  have HSC := Aside0.mk (wal_Scan (some ⟨w13.heap.size, 0, none⟩) 3 [1, 2, 3] (w13.alloc (.cells #[.int .u8 1, .int .u8 2, .int .u8 3] 5)) (u8_C_lit w13 [1, 2, 3] 5 (by simp)) (by simp) (by simp))
  rw [scan_123.1, scan_123.2] at HSC
  clear ho13 hk13 HAP L12 B12 O13 B13 hb14
  go_wp2_with fail
  refine HSC.out.mono ?_
  rintro e w15 ⟨v15, rfl, hr15, hb15⟩
  obtain ⟨A15, c15, rfl, _, _⟩ := Kd.R_reads hr15
  have O15 := Aside0.mk (O14.out.below hb15)
  have B15 := Aside0.mk (B14.out.trans (hb15.mono B14.out.size))
  have HSC2 := Aside0.mk (wal_Scan none 0 [] w15 ⟨rfl, by simp, fun h => absurd h (by simp)⟩ (by simp) (by simp))
  rw [scan_nil.1, scan_nil.2] at HSC2
  clear hr15 hb15 HSC O14 B14
  go_wp2_with fail
  refine HSC2.out.mono ?_
  rintro e w16 ⟨v16, rfl, hr16, hb16⟩
  obtain ⟨A16, c16, rfl, _, _⟩ := Kd.R_reads hr16
  have B16 := Aside0.mk (B15.out.trans (hb16.mono B15.out.size))
  have HTN := Aside0.mk (on_Turn (O15.out.below hb16) 3 (by rw [HLB2.out]; omega) 1)
  obtain ⟨t, ht1, ht2⟩ := turn_first (byt z2) (byt fine) (by rw [byt_length, Z2.out]; omega) (by rw [byt_length, HFN.out]; omega) (by rw [HLB2.out]; omega)
  rw [ht1] at HTN
  have HTL := Aside0.mk (show (recs [] ++ t).length ≤ 8000000 by rw [← ht1, List.length_set, HLB2.out]; omega)
  have HTS := Aside0.mk ht2
  clear ht1 ht2 hr16 hb16 HSC2 O15 B15
  unfold dptr at HTN
  go_wp2_with fail
  refine HTN.out.mono ?_
  rintro e w17 ⟨rfl, ho17, hk17⟩
  have B17 := Aside0.mk (B16.out.trans hk17.below)
  have HOP := Aside0.mk (on_Open_recs [] (by simp) t HTS.out ho17 HTL.out)
  clear ho17 hk17 HTN B16
  unfold dptr at HOP
  go_wp2_with fail
  refine HOP.out.mono ?_
  rintro e w18 ⟨lg18, v18, s18, rfl, hr18, ho18, hl18, hk18⟩
  have B18 := Aside0.mk (B17.out.trans hk18.below)
  obtain ⟨A18, c18, rfl, _, _⟩ := Kd.R_reads hr18
  have HSZ := Aside0.mk (on_Size ho18 hl18)
  clear ho18 hl18 hk18 hr18 HOP B17
  unfold lptr at *
  go_wp2_with fail
  refine HSZ.out.mono ?_
  rintro e w19 ⟨rfl, hb19⟩
  have B19 := Aside0.mk (B18.out.trans (hb19.mono B18.out.size))
  have HKN := Aside0.mk (law_known w19)
  clear hb19 HSZ B18
  go_wp2_with fail
  refine HKN.out.mono ?_
  rintro e w20 ⟨rfl, hb20⟩
  have B20 := Aside0.mk (B19.out.trans (hb20.mono B19.out.size))
  clear hb20 HKN B19
  go_wp2
  go_ret
  exact ⟨rfl, B20.out⟩
end Go.Proofs.YthacnbbijmgjfaaDoor.Lib0

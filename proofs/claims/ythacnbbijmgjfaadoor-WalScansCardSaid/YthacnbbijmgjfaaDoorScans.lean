/- WalScans: the walk. -/
import Derived.Test.YthacnbbijmgjfaaDoorKnown
import Derived.IntWalk
set_option linter.unusedVariables false
set_option linter.unusedSimpArgs false
namespace Go.Proofs.YthacnbbijmgjfaaDoor.Lib0
open Go.RowKit Go.Proofs.YthacnbbijmgjfaaDoorW.PrintWords Go.ChangeMaps

theorem sealedL_len (l : List ByteArray) : (sealedL l).length ≤ 2240 := by
  have := flat_len (l.take 20)
  rw [List.length_take] at this
  unfold sealedL
  omega
theorem u8_C_of {e : Nat} {w : World} {base n c : Nat} {A : Option Addr} {l : List UInt8} (h : u8.R e w base (fun _ => True) (.slice A n c) l) : u8.C w A l.length l := by
  obtain ⟨A', c', hv, _, hC⟩ := u8_R_len h
  cases hv
  exact hC
/-- From the cut on. -/
def ScansEnd (w : World) (e : Ending) (w' : World) : Prop := e = .returned (.bool true) ∧ Below w.heap.size w w'
set_option maxHeartbeats 3200000 in
set_option maxRecDepth 100000 in
theorem walk_WalScans (A B : Option Addr) (ca cb : Nat) (l : List ByteArray) (b : List UInt8) (k : Int) (turn : UInt8) (cut : Bool) (w : World) (hl : Kd.string.C w A l.length l) (hb : u8.C w B b.length b) (hcb : b.length ≤ cb) (hk : -9223372036854775808 ≤ k ∧ k ≤ 9223372036854775807) :
    Calls Tryd.prog 3 #[.slice A l.length ca, .slice B b.length cb, .int .i64 k, .int .u8 turn.toNat, .bool cut] w (ScansEnd w) := by
  have HS := Aside0.mk (law_sealed A ca l w hl)
  have HSL := Aside0.mk (sealedL_len l)
  have HB := Aside0.mk hb
  have HK := Aside0.mk hk
  have hb63 := u8_len hb
  clear hl hb hk
  go_enter Tryd.func3, Tryd.ntmps3
  go_wp2_with fail
  refine HS.out.mono ?_
  rintro e w1 ⟨v, rfl, hr, hb1⟩
  generalize sealedL l = z at *
  obtain ⟨X, cx, rfl, hcx, _⟩ := u8_R_len hr
  have R1 := Aside0.mk hr
  have B1 := Aside0.mk hb1
  clear hr hb1 HS
  obtain ⟨nb, bb, HCB0, HLB, h5⟩ : ∃ (nb : Nat) (bb : List UInt8), Aside0 (u8.C w B nb bb) ∧ Aside0 (bb.length ≤ 500 ∧ nb ≤ 500) ∧ ((500 < (b.length : Int) ∧ nb = 500) ∨ (¬ 500 < (b.length : Int) ∧ nb = b.length)) := by
    rcases Nat.lt_or_ge 500 b.length with h5 | h5
    · exact ⟨500, b.take 500, ⟨by have := Kd.C_take (m := 500) HB.out (by omega); rwa [List.length_take, Nat.min_eq_left (by omega)] at this⟩, ⟨by rw [List.length_take]; omega, by omega⟩, .inl ⟨by omega, rfl⟩⟩
    · exact ⟨b.length, b, HB, ⟨h5, h5⟩, .inr ⟨by omega, rfl⟩⟩
  by_cases hz : 0 < z.length
  · have hz1 : IntKind.i64.wrap ((z.length : Int) - 1) = z.length - 1 := IntWalk.i64_in _ (by have := HSL.out; omega)
    obtain ⟨g, cx', hv, hg, hv2, cur, hh, hcur⟩ := u8_row_open R1.out hz
    simp only [Value.slice.injEq] at hv
    obtain ⟨rfl, hv3, rfl⟩ := hv
    clear hv2 hv3
    have HW := Aside0.mk (book_Within k ((z.length : Int) - 1) w1 HK.out (by omega) (by have := HSL.out; omega))
    rw [Int.sub_add_cancel] at HW
    obtain ⟨m, hm⟩ := Int.eq_ofNat_of_zero_le (Int.emod_nonneg k (show (z.length : Int) ≠ 0 by omega))
    have hml := Int.emod_lt_of_pos k (show (0 : Int) < z.length by omega)
    rw [hm] at HW hml
    clear hm
    have hm2 : m < z.length := by omega
    have hx0 : w1.cell? ⟨g, m, none⟩ = some (.int .u8 (z[m]).toNat) := cell_of_heap hh (hcur m hm2)
    have hx1 : w1.frozen? ⟨g, m, none⟩ = false := frozen_of_heap hh
    have HR2 := Aside0.mk (u8_R_set R1.out m hm2 (z[m] ^^^ turn))
    have hxor := xor_u8 z[m] turn
    have HZZ := Aside0.mk (show (z.set m (z[m] ^^^ turn)).length = z.length by simp)
    have p0 : (0 : Int) ≤ ((z[m] ^^^ turn).toNat : Int) := by omega
    have p1 : ((z[m] ^^^ turn).toNat : Int) < 256 := by have := (z[m] ^^^ turn).toNat_lt; omega
    generalize z.set m (z[m] ^^^ turn) = z2 at *
    unfold encB at HR2
    generalize z[m] ^^^ turn = tt at *
    generalize z[m] = zm at *
    have HB2 := Aside0.mk (B1.out.trans ((Keep.of_set w1 ⟨g, m, none⟩ (.int .u8 tt.toNat)).below (fun k hk => by rw [hk]; exact hg) B1.out.size))
    clear hh hcur hg
    cases cut
    · have HLZ := Aside0.mk (show z2.length ≤ 2240 by have := HSL.out; have := HZZ.out; omega)
      rcases h5 with ⟨h5, rfl⟩ | ⟨h5, rfl⟩
      all_goals
        have HCB := Aside0.mk (Kd.C_below HCB0.out HB2.out)
        go_wp2_with (first | (go_at_call 11; refine HW.out.mono ?_; rintro e w' ⟨rfl, rfl⟩) | (at_builtin; refine u8_append (.tmp 46) (.tmp 47) 23 5 _ z2 bb _ _ _ w.heap.size rfl rfl Tryd.underlying23 info_u8 rfl rfl HR2.out HCB.out HB2.out.size ?c1 ?_))
        case c1 => have := HLZ.out; have := HLB.out; omega
        intro v5 w5 hr5 hb5 hg5 ha5
        obtain ⟨x, hx⟩ : ∃ x, x = z2 ++ bb := ⟨_, rfl⟩
        have HXL := Aside0.mk (show x.length ≤ 2740 by have := HLZ.out; have := HLB.out; rw [hx, List.length_append]; omega)
        rw [← hx] at hr5
        have R5 := Aside0.mk hr5
        have B5 := Aside0.mk (HB2.out.trans hb5)
        clear hr5 hb5 hg5 ha5 hx HR2 HB2 HCB HW hx0 hx1 hxor
        obtain ⟨X5, c5, rfl, hc5, _⟩ := u8_R_len R5.out
        have HSCf := Aside0.mk (fun (X6 : Option Addr) (c6 : Nat) (w6 : World) (h : u8.C w6 X6 x.length x) (hc : x.length ≤ c6) => And.intro (wal_Scan X6 c6 x w6 h hc (by have := HXL.out; omega)) (law_scanned X6 c6 x w6 h hc (by have := HXL.out; omega)))
        generalize (allB x).1.map str = r at HSCf
        generalize (allB x).2.1 = en at HSCf
        have HRO := Aside0.mk (book_Roomy X5 c5 x 165 w5 (u8_C_of R5.out) (by have := HXL.out; omega) hc5)
        clear HCB0 HLB
        go_wp2_with fail
        refine HRO.out.mono ?_
        rintro e w6 ⟨v6, rfl, hr6, hb6⟩
        obtain ⟨X6, c6, rfl, hc6, hC6⟩ := u8_R_len hr6
        have hlx : (x ++ List.replicate 80 (165 : UInt8)).length = x.length + 80 := by rw [List.length_append, List.length_replicate]
        rw [hlx] at hc6 hC6 ⊢
        have htk := sl_take (P := Tryd.prog) u8 23 5 .i64 Tryd.underlying23 info_u8 rfl X6 (x ++ List.replicate 80 (165 : UInt8)) c6 x.length (by omega) (by rw [hlx]; omega) (by rw [hlx]; omega)
        rw [Int.toNat_natCast, List.take_left, hlx] at htk
        obtain ⟨hs6, hc7, hC7⟩ := htk
        have HI := Aside0.mk hC6
        have HX6 := Aside0.mk (Kd.C_below (u8_C_of R5.out) hb6)
        have B6 := Aside0.mk (B5.out.trans (hb6.mono B5.out.size))
        have HSC := Aside0.mk (HSCf.out X6 c6 w6 (hC7 w6 hC6) hc7).1
        clear hr6 hb6 hC6 hC7 hlx HRO R5 B5
        go_wp2_with fail
        refine HSC.out.mono ?_
        rintro e w7 ⟨v7, rfl, hr7, hb7⟩
        obtain ⟨X7, c7, rfl, _, hC7⟩ := Kd.R_reads hr7
        have HX7 := Aside0.mk (Kd.C_below HX6.out hb7)
        have HI7 := Aside0.mk (Kd.C_below HI.out hb7)
        have HT7 := Aside0.mk hC7
        have B7 := Aside0.mk (B6.out.trans (hb7.mono B6.out.size))
        have HSD := Aside0.mk (HSCf.out X5 c5 w7 HX7.out hc5).2
        clear hr7 hb7 hC7 HSC HX6 HI B6
        go_wp2_with fail
        refine HSD.out.mono ?_
        rintro e w8 ⟨v8, rfl, hr8, hb8⟩
        obtain ⟨X8, c8, rfl, _, hC8⟩ := Kd.R_reads hr8
        have HX8 := Aside0.mk (Kd.C_below HX7.out hb8)
        have HI8 := Aside0.mk (Kd.C_below HI7.out hb8)
        have B8 := Aside0.mk (B7.out.trans (hb8.mono B7.out.size))
        have HTX := Aside0.mk (keep_Texts X7 X8 c7 c8 _ _ w8 (Kd.C_below HT7.out hb8) hC8)
        rw [decide_eq_true rfl] at HTX
        clear hr8 hb8 hC8 HSD HX7 HI7 HT7 B7
        go_wp2_with fail
        refine HTX.out.mono ?_
        rintro e w9 ⟨rfl, hb9⟩
        have B9 := Aside0.mk (B8.out.trans (hb9.mono B8.out.size))
        have HIT := Aside0.mk (book_Intact X6 X5 c6 c5 x 165 w9 (Kd.C_below HI8.out hb9) (Kd.C_below HX8.out hb9) hc6 (by have := HXL.out; omega))
        have heq : ((en : Int) == en) = true := by simp
        clear hb9 HTX HX8 HI8 B8
        go_wp2_with fail
        refine HIT.out.mono ?_
        rintro e w10 ⟨rfl, hb10⟩
        have B10 := Aside0.mk (B9.out.trans (hb10.mono B9.out.size))
        have HKN := Aside0.mk (law_known w10)
        clear hb10 HIT B9
        go_wp2_with fail
        refine HKN.out.mono ?_
        rintro e w11 ⟨rfl, hb11⟩
        have B11 := Aside0.mk (B10.out.trans (hb11.mono B10.out.size))
        clear hb11 HKN B10
        go_wp2
        go_ret
        exact ⟨rfl, B11.out⟩
    · have HLZ := Aside0.mk (show (z2.take m).length ≤ 2240 by have := HSL.out; have := HZZ.out; rw [List.length_take]; omega)
      have HR3 := Aside0.mk (Kd.R_take (m := m) HR2.out (by have := HZZ.out; omega))
      generalize z2.take m = z3 at *
      rcases h5 with ⟨h5, rfl⟩ | ⟨h5, rfl⟩
      all_goals
        have HCB := Aside0.mk (Kd.C_below HCB0.out HB2.out)
        go_wp2_with (first | (go_at_call 11; refine HW.out.mono ?_; rintro e w' ⟨rfl, rfl⟩) | (at_builtin; refine u8_append (.tmp 46) (.tmp 47) 23 5 _ z3 bb _ _ _ w.heap.size rfl rfl Tryd.underlying23 info_u8 rfl rfl HR3.out HCB.out HB2.out.size ?c1 ?_))
        case c1 => have := HLZ.out; have := HLB.out; omega
        intro v5 w5 hr5 hb5 hg5 ha5
        obtain ⟨x, hx⟩ : ∃ x, x = z3 ++ bb := ⟨_, rfl⟩
        have HXL := Aside0.mk (show x.length ≤ 2740 by have := HLZ.out; have := HLB.out; rw [hx, List.length_append]; omega)
        rw [← hx] at hr5
        have R5 := Aside0.mk hr5
        have B5 := Aside0.mk (HB2.out.trans hb5)
        clear hr5 hb5 hg5 ha5 hx HR2 HR3 HB2 HCB HW hx0 hx1 hxor
        obtain ⟨X5, c5, rfl, hc5, _⟩ := u8_R_len R5.out
        have HSCf := Aside0.mk (fun (X6 : Option Addr) (c6 : Nat) (w6 : World) (h : u8.C w6 X6 x.length x) (hc : x.length ≤ c6) => And.intro (wal_Scan X6 c6 x w6 h hc (by have := HXL.out; omega)) (law_scanned X6 c6 x w6 h hc (by have := HXL.out; omega)))
        generalize (allB x).1.map str = r at HSCf
        generalize (allB x).2.1 = en at HSCf
        have HRO := Aside0.mk (book_Roomy X5 c5 x 165 w5 (u8_C_of R5.out) (by have := HXL.out; omega) hc5)
        clear HCB0 HLB
        go_wp2_with fail
        refine HRO.out.mono ?_
        rintro e w6 ⟨v6, rfl, hr6, hb6⟩
        obtain ⟨X6, c6, rfl, hc6, hC6⟩ := u8_R_len hr6
        have hlx : (x ++ List.replicate 80 (165 : UInt8)).length = x.length + 80 := by rw [List.length_append, List.length_replicate]
        rw [hlx] at hc6 hC6 ⊢
        have htk := sl_take (P := Tryd.prog) u8 23 5 .i64 Tryd.underlying23 info_u8 rfl X6 (x ++ List.replicate 80 (165 : UInt8)) c6 x.length (by omega) (by rw [hlx]; omega) (by rw [hlx]; omega)
        rw [Int.toNat_natCast, List.take_left, hlx] at htk
        obtain ⟨hs6, hc7, hC7⟩ := htk
        have HI := Aside0.mk hC6
        have HX6 := Aside0.mk (Kd.C_below (u8_C_of R5.out) hb6)
        have B6 := Aside0.mk (B5.out.trans (hb6.mono B5.out.size))
        have HSC := Aside0.mk (HSCf.out X6 c6 w6 (hC7 w6 hC6) hc7).1
        clear hr6 hb6 hC6 hC7 hlx HRO R5 B5
        go_wp2_with fail
        refine HSC.out.mono ?_
        rintro e w7 ⟨v7, rfl, hr7, hb7⟩
        obtain ⟨X7, c7, rfl, _, hC7⟩ := Kd.R_reads hr7
        have HX7 := Aside0.mk (Kd.C_below HX6.out hb7)
        have HI7 := Aside0.mk (Kd.C_below HI.out hb7)
        have HT7 := Aside0.mk hC7
        have B7 := Aside0.mk (B6.out.trans (hb7.mono B6.out.size))
        have HSD := Aside0.mk (HSCf.out X5 c5 w7 HX7.out hc5).2
        clear hr7 hb7 hC7 HSC HX6 HI B6
        go_wp2_with fail
        refine HSD.out.mono ?_
        rintro e w8 ⟨v8, rfl, hr8, hb8⟩
        obtain ⟨X8, c8, rfl, _, hC8⟩ := Kd.R_reads hr8
        have HX8 := Aside0.mk (Kd.C_below HX7.out hb8)
        have HI8 := Aside0.mk (Kd.C_below HI7.out hb8)
        have B8 := Aside0.mk (B7.out.trans (hb8.mono B7.out.size))
        have HTX := Aside0.mk (keep_Texts X7 X8 c7 c8 _ _ w8 (Kd.C_below HT7.out hb8) hC8)
        rw [decide_eq_true rfl] at HTX
        clear hr8 hb8 hC8 HSD HX7 HI7 HT7 B7
        go_wp2_with fail
        refine HTX.out.mono ?_
        rintro e w9 ⟨rfl, hb9⟩
        have B9 := Aside0.mk (B8.out.trans (hb9.mono B8.out.size))
        have HIT := Aside0.mk (book_Intact X6 X5 c6 c5 x 165 w9 (Kd.C_below HI8.out hb9) (Kd.C_below HX8.out hb9) hc6 (by have := HXL.out; omega))
        have heq : ((en : Int) == en) = true := by simp
        clear hb9 HTX HX8 HI8 B8
        go_wp2_with fail
        refine HIT.out.mono ?_
        rintro e w10 ⟨rfl, hb10⟩
        have B10 := Aside0.mk (B9.out.trans (hb10.mono B9.out.size))
        have HKN := Aside0.mk (law_known w10)
        clear hb10 HIT B9
        go_wp2_with fail
        refine HKN.out.mono ?_
        rintro e w11 ⟨rfl, hb11⟩
        have B11 := Aside0.mk (B10.out.trans (hb11.mono B10.out.size))
        clear hb11 HKN B10
        go_wp2
        go_ret
        exact ⟨rfl, B11.out⟩
  · rcases h5 with ⟨h5, rfl⟩ | ⟨h5, rfl⟩
    all_goals
      have HCB := Aside0.mk (Kd.C_below HCB0.out B1.out)
      go_wp2_with (at_builtin; refine u8_append (.tmp 46) (.tmp 47) 23 5 _ z bb _ _ _ w.heap.size rfl rfl Tryd.underlying23 info_u8 rfl rfl R1.out HCB.out B1.out.size ?c1 ?_)
      case c1 => have := HSL.out; have := HLB.out; omega
      intro v5 w5 hr5 hb5 hg5 ha5
      obtain ⟨x, hx⟩ : ∃ x, x = z ++ bb := ⟨_, rfl⟩
      have HXL := Aside0.mk (show x.length ≤ 2740 by have := HSL.out; have := HLB.out; rw [hx, List.length_append]; omega)
      rw [← hx] at hr5
      have R5 := Aside0.mk hr5
      have B5 := Aside0.mk (B1.out.trans hb5)
      clear hr5 hb5 hg5 ha5 hx HCB
      obtain ⟨X5, c5, rfl, hc5, _⟩ := u8_R_len R5.out
      have HSCf := Aside0.mk (fun (X6 : Option Addr) (c6 : Nat) (w6 : World) (h : u8.C w6 X6 x.length x) (hc : x.length ≤ c6) => And.intro (wal_Scan X6 c6 x w6 h hc (by have := HXL.out; omega)) (law_scanned X6 c6 x w6 h hc (by have := HXL.out; omega)))
      generalize (allB x).1.map str = r at HSCf
      generalize (allB x).2.1 = en at HSCf
      have HRO := Aside0.mk (book_Roomy X5 c5 x 165 w5 (u8_C_of R5.out) (by have := HXL.out; omega) hc5)
      clear HCB0 HLB
      go_wp2_with fail
      refine HRO.out.mono ?_
      rintro e w6 ⟨v6, rfl, hr6, hb6⟩
      obtain ⟨X6, c6, rfl, hc6, hC6⟩ := u8_R_len hr6
      have hlx : (x ++ List.replicate 80 (165 : UInt8)).length = x.length + 80 := by rw [List.length_append, List.length_replicate]
      rw [hlx] at hc6 hC6 ⊢
      have htk := sl_take (P := Tryd.prog) u8 23 5 .i64 Tryd.underlying23 info_u8 rfl X6 (x ++ List.replicate 80 (165 : UInt8)) c6 x.length (by omega) (by rw [hlx]; omega) (by rw [hlx]; omega)
      rw [Int.toNat_natCast, List.take_left, hlx] at htk
      obtain ⟨hs6, hc7, hC7⟩ := htk
      have HI := Aside0.mk hC6
      have HX6 := Aside0.mk (Kd.C_below (u8_C_of R5.out) hb6)
      have B6 := Aside0.mk (B5.out.trans (hb6.mono B5.out.size))
      have HSC := Aside0.mk (HSCf.out X6 c6 w6 (hC7 w6 hC6) hc7).1
      clear hr6 hb6 hC6 hC7 hlx HRO R5 B5
      go_wp2_with fail
      refine HSC.out.mono ?_
      rintro e w7 ⟨v7, rfl, hr7, hb7⟩
      obtain ⟨X7, c7, rfl, _, hC7⟩ := Kd.R_reads hr7
      have HX7 := Aside0.mk (Kd.C_below HX6.out hb7)
      have HI7 := Aside0.mk (Kd.C_below HI.out hb7)
      have HT7 := Aside0.mk hC7
      have B7 := Aside0.mk (B6.out.trans (hb7.mono B6.out.size))
      have HSD := Aside0.mk (HSCf.out X5 c5 w7 HX7.out hc5).2
      clear hr7 hb7 hC7 HSC HX6 HI B6
      go_wp2_with fail
      refine HSD.out.mono ?_
      rintro e w8 ⟨v8, rfl, hr8, hb8⟩
      obtain ⟨X8, c8, rfl, _, hC8⟩ := Kd.R_reads hr8
      have HX8 := Aside0.mk (Kd.C_below HX7.out hb8)
      have HI8 := Aside0.mk (Kd.C_below HI7.out hb8)
      have B8 := Aside0.mk (B7.out.trans (hb8.mono B7.out.size))
      have HTX := Aside0.mk (keep_Texts X7 X8 c7 c8 _ _ w8 (Kd.C_below HT7.out hb8) hC8)
      rw [decide_eq_true rfl] at HTX
      clear hr8 hb8 hC8 HSD HX7 HI7 HT7 B7
      go_wp2_with fail
      refine HTX.out.mono ?_
      rintro e w9 ⟨rfl, hb9⟩
      have B9 := Aside0.mk (B8.out.trans (hb9.mono B8.out.size))
      have HIT := Aside0.mk (book_Intact X6 X5 c6 c5 x 165 w9 (Kd.C_below HI8.out hb9) (Kd.C_below HX8.out hb9) hc6 (by have := HXL.out; omega))
      have heq : ((en : Int) == en) = true := by simp
      clear hb9 HTX HX8 HI8 B8
      go_wp2_with fail
      refine HIT.out.mono ?_
      rintro e w10 ⟨rfl, hb10⟩
      have B10 := Aside0.mk (B9.out.trans (hb10.mono B9.out.size))
      have HKN := Aside0.mk (law_known w10)
      clear hb10 HIT B9
      go_wp2_with fail
      refine HKN.out.mono ?_
      rintro e w11 ⟨rfl, hb11⟩
      have B11 := Aside0.mk (B10.out.trans (hb11.mono B10.out.size))
      clear hb11 HKN B10
      go_wp2
      go_ret
      exact ⟨rfl, B11.out⟩
end Go.Proofs.YthacnbbijmgjfaaDoor.Lib0

import Derived.Test.YtcmffaejcnbheaaGreatQ43
set_option linter.unusedVariables false
set_option linter.unusedSimpArgs false
namespace Go.Proofs.YtcmffaejcnbheaaGreat.Lib0
open Go.RowKit Go.Proofs.YtcmffaejcnbheaaGreatW.PrintWords Go.ChangeMaps
theorem u8_C_of {e : Nat} {w : World} {base n c : Nat} {A : Option Addr} {l : List UInt8} (h : u8.R e w base (fun _ => True) (.slice A n c) l) : u8.C w A l.length l := by
 obtain ⟨A', c', hv, _, hC⟩ := u8_R_len h
 cases hv
 exact hC
def TrueEnd (w : World) (e : Ending) (w' : World) : Prop := e = .returned (.bool true) ∧ Below w.heap.size w w'
theorem cell_block {w : World} {g o : Nat} {v : Value} (h : w.cell? ⟨g, o, none⟩ = some v) : g < w.heap.size := by
 rcases Nat.lt_or_ge g w.heap.size with h1 | h1
 ·exact h1
 ·simp [World.cell?, Array.getElem?_eq_none h1] at h
def TwoY (w : World) (g : Nat) : Prop := ∀ j, j < 2 → ∃ (Y : Option Addr) (cy : Nat) (yl : List UInt8), w.cell? ⟨g, j, none⟩ = some (.slice Y yl.length cy) ∧ u8.C w Y yl.length yl ∧ yl.length ≤ cy
theorem TwoY.below {w w' : World} {g : Nat} (h : TwoY w g) (hb : Below w.heap.size w w') : TwoY w' g := fun j hj => by
 obtain ⟨Y, cy, yl, h1, h2, h3⟩ := h j hj
 exact ⟨Y, cy, yl, (World.cell?_of_block (hb.block g (cell_block h1))).trans h1, Kd.C_below h2 hb, h3⟩
set_option maxHeartbeats 3200000 in
set_option maxRecDepth 100000 in
theorem walk_GroupReads (A B : Option Addr) (ca cb : Nat) (H : List RowH) (L : List (List CellM)) (b : List UInt8) (k : Int) (turn : UInt8) (cut : Bool) (w : World) (hH : kr.C w A H.length H) (hL : RowsOn w H L) (hl : H.length ≤ 9223372036854775807) (hc : ∀ c ∈ L, c.length ≤ 9223372036854775807) (hb : u8.C w B b.length b) (hcb : b.length ≤ cb) (hk : -9223372036854775808 ≤ k ∧ k ≤ 9223372036854775807) :
  Calls Tryz.prog 4 #[.slice A H.length ca, .slice B b.length cb, .int .i64 k, .int .u8 turn.toNat, .bool cut] w (TrueEnd w) := by
 have HRI := Aside0.mk (show Calls Tryz.prog 7 #[.slice A H.length ca, .int .i64 16] w (RisS w (risingM (rowsM H L) (min H.length 16))) from keep_Rising A ca H L 16 w hH hL hl (by decide) hc)
 have HB := Aside0.mk hb
 have HK := Aside0.mk hk
 have hb63 := u8_len hb
 clear hH hL hc hb hk
 go_enter Tryz.func4, Tryz.ntmps4
 go_wp2_with fail
 (with_reducible refine HRI.out.mono ?_)
 rintro e w1 ⟨H1, L1, A1, c1, rfl, hr1, hrr1, hm1, hb1⟩
 generalize rowsM H L = M0 at *
 obtain ⟨n, hn⟩ : ∃ n, n = min H.length 16 := ⟨_, rfl⟩
 rw [← hn] at hm1
 have hn16 : n ≤ 16 := by omega
 have hH1 : H1.length = n := by
  have := congrArg List.length hm1
  rw [rowsM_len H1 L1 hrr1.1, risingM_len] at this
  exact this
 have HW1 := Aside0.mk (group_Write A1 c1 H1 L1 w1 (C_of hr1) hrr1.on (by rw [hm1]; exact fun r hr => (risingM_row M0 n hn16 r hr).2.2))
 rw [writeR_M hrr1.1, hm1] at HW1
 have B1 := Aside0.mk hb1
 clear hr1 hrr1 hm1 hb1 HRI hn
 by_cases hn0 : 0 < n
 ·rw [risingM_write M0 n hn0 hn16] at HW1
  have hx0 := bytesM_pos (risingM M0 n)
  have hxl := risingM_bytes M0 n hn16
  generalize bytesM (risingM M0 n) = z at *
  rw [hH1] at HW1 ⊢
  have d0 : decide ((n : Int) > 0) = true := decide_eq_true (by omega)
  go_wp2_with fail
  (with_reducible refine HW1.out.mono ?_)
  rintro e w2 ⟨v2, rfl, hr2, hb2⟩
  have hz0 : ¬ ((z.length : Int) = 0) := by omega
  have dz : ((z.length : Int) == 0) = false := by simpa using hz0
  have hz1 : wrap64 ((z.length : Int) - 1) = z.length - 1 := by unfold wrap64; omega
  obtain ⟨g, cx', rfl, hg, hv2, cur, hh, hcur⟩ := u8_row_open hr2 hx0
  have HW := Aside0.mk (book_Within k ((z.length : Int) - 1) w2 HK.out (by omega) (by omega))
  rw [Int.sub_add_cancel] at HW
  obtain ⟨m, hm⟩ := Int.eq_ofNat_of_zero_le (Int.emod_nonneg k (show (z.length : Int) ≠ 0 by omega))
  have hml := Int.emod_lt_of_pos k (show (0 : Int) < z.length by omega)
  rw [hm] at HW hml
  clear hm
  have hm2 : m < z.length := by omega
  have hx0 : w2.cell? ⟨g, m, none⟩ = some (.int .u8 (z[m]).toNat) := cell_of_heap hh (hcur m hm2)
  have hx1 : w2.frozen? ⟨g, m, none⟩ = false := frozen_of_heap hh
  have HR2 := Aside0.mk (u8_R_set hr2 m hm2 (z[m] ^^^ turn))
  have hxor := xor_u8 z[m] turn
  have HZZ := Aside0.mk (show (z.set m (z[m] ^^^ turn)).length = z.length by simp)
  have p0 : (0 : Int) ≤ ((z[m] ^^^ turn).toNat : Int) := by omega
  have p1 : ((z[m] ^^^ turn).toNat : Int) < 256 := by have := (z[m] ^^^ turn).toNat_lt; omega
  generalize z.set m (z[m] ^^^ turn) = z2 at *
  unfold encB at HR2
  generalize z[m] ^^^ turn = tt at *
  generalize z[m] = zm at *
  have B2 := Aside0.mk (B1.out.trans (hb2.mono B1.out.size))
  have HB2 := Aside0.mk (B2.out.setCell (p := ⟨g, m, none⟩) (Nat.le_trans B1.out.size hg) (.int .u8 tt.toNat))
  clear hh hcur hr2 hb2 hv2 HW1
  go_wp2_with fail
  (with_reducible refine HW.out.mono ?_)
  rintro e w3 ⟨rfl, rfl⟩
  cases cut
  ·have hzl := HZZ.out
   obtain ⟨W, hW⟩ : ∃ W, W = (w2.setCell ⟨g, m, none⟩ (.int .u8 tt.toNat)).alloc (.cells #[.slice B b.length cb, .slice (some ⟨g, 0, none⟩) z.length cx'] 24) := ⟨_, rfl⟩
   have hnw := heap_alloc_new (w2.setCell ⟨g, m, none⟩ (.int .u8 tt.toNat)) (.cells #[.slice B b.length cb, .slice (some ⟨g, 0, none⟩) z.length cx'] 24)
   have hbw := below_alloc (Below.refl (w2.setCell ⟨g, m, none⟩ (.int .u8 tt.toNat)).heap.size (w2.setCell ⟨g, m, none⟩ (.int .u8 tt.toNat))) (.cells #[.slice B b.length cb, .slice (some ⟨g, 0, none⟩) z.length cx'] 24)
   have hsz : (w2.setCell ⟨g, m, none⟩ (.int .u8 tt.toNat)).heap.size = w2.heap.size := by simp [World.setCell]
   rw [← hW] at hnw hbw
   rw [hsz] at hnw
   have HTY := Aside0.mk (show TwoY W w2.heap.size from by
    intro j hj
    rcases j with _ | _ | j
    ·exact ⟨B, cb, b, cell_of_heap hnw rfl, Kd.C_below HB.out (HB2.out.trans (hbw.mono HB2.out.size)), hcb⟩
    ·exact ⟨some ⟨g, 0, none⟩, cx', z2, by rw [HZZ.out]; exact cell_of_heap hnw rfl, Kd.C_below (u8_C_of HR2.out) hbw, by have := u8_R_len HR2.out; obtain ⟨_, _, e9, h9, _⟩ := this; injection e9 with _ _ e9; omega⟩
    ·omega)
   have BW := Aside0.mk (HB2.out.trans (hbw.mono HB2.out.size))
   go_wp2_with fail
   rw [← hW]
   obtain ⟨gl, hgl⟩ : ∃ gl, gl = w2.heap.size := ⟨_, rfl⟩
   rw [← hgl] at HTY ⊢
   clear hnw hbw hgl hsz hW hzl hx0 hx1 hxor HW p0 p1 HR2 HB2 B2
   go_loopw [56] (fun v56 wr => ∃ (j : Nat), j ≤ 2 ∧ v56 = .int .i64 j ∧ Aside0 (TwoY wr gl) ∧ Aside0 (Below w.heap.size w wr)) (fun i _ => 2 - (intOf i).toNat)
   case atStart => exact ⟨0, by omega, rfl, HTY, BW⟩
   case round =>
    obtain ⟨j, hj, rfl, HT, HB6⟩ := hrel
    by_cases hj2 : j < 2
    ·have hj2i : (j : Int) < 2 := by omega
     obtain ⟨Y, cy, y, hy1, hy2, hy3⟩ := HT.out j hj2
     have HY := Aside0.mk hy2
     clear hy2
     by_cases h5 : 5000 < y.length
     ·have h5i : (y.length : Int) > 5000 := by omega
      have h5d : decide ((y.length : Int) > 5000) = true := decide_eq_true h5i
      have HKN := Aside0.mk (law16_known wr)
      go_wp2_with fail
      (with_reducible refine HKN.out.mono ?_)
      rintro e w8 ⟨rfl, hb8⟩
      have B8 := Aside0.mk (HB6.out.trans (hb8.mono HB6.out.size))
      clear hb8 HKN
      go_wp2
      go_ret
      exact ⟨rfl, B8.out⟩
     ·have h5i : ¬ (y.length : Int) > 5000 := by omega
      have h5d : decide ((y.length : Int) > 5000) = false := decide_eq_false h5i
      have HRO := Aside0.mk (show Calls Tryz.prog 16 #[.slice Y y.length cy, .int .u8 165] wr (Row 5 wr (y ++ List.replicate 80 165)) from book_Roomy Y cy y 165 wr HY.out (by omega) hy3)
      go_wp2_with fail
      (with_reducible refine HRO.out.mono ?_)
      rintro e w8 ⟨v8, rfl, hr8, hb8⟩
      obtain ⟨X8, c8, rfl, hc8, hC8⟩ := u8_R_len hr8
      have hlx : (y ++ List.replicate 80 (165 : UInt8)).length = y.length + 80 := by rw [List.length_append, List.length_replicate]
      rw [hlx] at hc8 hC8 ⊢
      have htk := sl_take (P := Tryz.prog) u8 24 5 .i64 Tryz.underlying24 info_u8 rfl X8 (y ++ List.replicate 80 (165 : UInt8)) c8 y.length (by omega) (by rw [hlx]; omega) (by rw [hlx]; omega)
      rw [Int.toNat_natCast, List.take_left, hlx] at htk
      obtain ⟨hs8, hc9, hC9⟩ := htk
      have HRD := Aside0.mk (group_Read X8 c8 y w8 (hC9 w8 hC8) hc9 (by omega))
      have HI8 := Aside0.mk hC8
      have B8 := Aside0.mk hb8
      clear hr8 hb8 hC8 hC9 hlx HRO
      go_wp2_with fail
      (with_reducible refine HRD.out.mono ?_)
      intro e w9 hrd
      rcases hrd with ⟨hnone, rfl, hb9⟩ | ⟨ts, ss, ps, lo, hi, hs, rfl, hg9, hlo, hhi, hb9⟩
      ·have B9 := Aside0.mk (B8.out.trans (hb9.mono B8.out.size))
       have HIT := Aside0.mk (show Calls Tryz.prog 17 #[.slice X8 (y.length + 80) c8, .slice Y y.length cy, .int .u8 165] w9 (fun e w' => e = .returned (.bool true) ∧ Below w9.heap.size w9 w') from book_Intact X8 Y c8 cy y 165 w9 (Kd.C_below HI8.out hb9) (Kd.C_below HY.out B9.out) hc8 (by omega))
       clear hnone hb9 HRD HI8
       go_wp2_with fail
       (with_reducible refine HIT.out.mono ?_)
       rintro e w10 ⟨rfl, hb10⟩
       have B10 := Aside0.mk (B9.out.trans (hb10.mono B9.out.size))
       have T10 := Aside0.mk (HT.out.below B10.out)
       have BB := Aside0.mk (HB6.out.trans (B10.out.mono HB6.out.size))
       clear hb10 HIT HT HB6 B8 B9 B10
       go_wp2
       go_roundw
       case rel => exact ⟨j + 1, by omega, by go_num, T10, BB⟩
       case measure => simp [intOf]; omega
      ·have B9 := Aside0.mk (B8.out.trans (hb9.mono B8.out.size))
       have HF := Aside0.mk (readG_some hs)
       have HG := Aside0.mk hg9.g
       have HS8 := Aside0.mk hb9.size
       have HIT := Aside0.mk (show Calls Tryz.prog 17 #[.slice X8 (y.length + 80) c8, .slice Y y.length cy, .int .u8 165] w9 (fun e w' => e = .returned (.bool true) ∧ Below w9.heap.size w9 w') from book_Intact X8 Y c8 cy y 165 w9 (Kd.C_below HI8.out hb9) (Kd.C_below HY.out B9.out) hc8 (by omega))
       clear hs hg9 hlo hhi hb9 HRD HI8
       go_wp2_with fail
       (with_reducible refine HIT.out.mono ?_)
       rintro e w10 ⟨rfl, hb10⟩
       have B10 := Aside0.mk (B9.out.trans (hb10.mono B9.out.size))
       have HG10 := Aside0.mk (HG.out.below hb10)
       have HS10 := Aside0.mk (Nat.le_trans HS8.out hb10.size)
       have HRW := Aside0.mk (group_Rows (.inl HG10.out) HF.out.fit HS10.out)
       clear hb10 HIT HG HS8
       go_wp2_with fail
       (with_reducible refine HRW.out.mono ?_)
       rintro e w11 ⟨H', L', A9, c9, rfl, hr9, ho9, hk9, hg11, hf9⟩
       have B11 := Aside0.mk (B10.out.trans ((FrG.below HG10.out.K hf9 (Nat.le_refl _) HS10.out).mono B8.out.size))
       have HWR := Aside0.mk (group_Write A9 c9 H' L' w11 (C_of hr9) ho9 (by rw [hk9]; exact builtM_I64 ts ss _ (fun q hq => (openR_cells (HF.out.op q hq)).2.1)))
       rw [writeR_M ho9.1, hk9, HF.out.wr] at HWR
       have HY11 := Aside0.mk (Kd.C_below HY.out B11.out)
       clear hr9 ho9 hk9 hg11 hf9 HRW HG10 HS10 HF
       go_wp2_with fail
       (with_reducible refine HWR.out.mono ?_)
       rintro e w12 ⟨v12, rfl, hr12, hb12⟩
       obtain ⟨X12, c12, rfl, hc12, hC12⟩ := u8_R_len hr12
       have B12 := Aside0.mk (B11.out.trans (hb12.mono B11.out.size))
       have hcv := u8_string (P := Tryz.prog) (c := c12) Tryz.underlying24 Tryz.underlying5 Tryz.underlying9 hC12
       have hcv2 := u8_string (P := Tryz.prog) (c := cy) Tryz.underlying24 Tryz.underlying5 Tryz.underlying9 (Kd.C_below HY.out B12.out)
       have hbb : (!(str y).toList == (str y).toList) = false := by simp
       have T12 := Aside0.mk (HT.out.below B12.out)
       have BB := Aside0.mk (HB6.out.trans (B12.out.mono HB6.out.size))
       clear hr12 hb12 HWR HT HB6 B8 B9 B10 B11 B12 hC12 HY11 hc12
       go_wp2
       go_roundw
       case rel => exact ⟨j + 1, by omega, by go_num, T12, BB⟩
       case measure => simp [intOf]; omega
    ·have hj3 : j = 2 := by omega
     subst hj3
     have HKN := Aside0.mk (law16_known wr)
     go_wp2_with fail
     (with_reducible refine HKN.out.mono ?_)
     rintro e w8 ⟨rfl, hb8⟩
     have B8 := Aside0.mk (HB6.out.trans (hb8.mono HB6.out.size))
     clear hb8 HKN
     go_wp2
     go_ret
     exact ⟨rfl, B8.out⟩
  ·have hzl := HZZ.out
   have HL3 := Aside0.mk (show (z2.take m).length = m by rw [List.length_take]; omega)
   have hcx : z2.length ≤ cx' := by have := u8_R_len HR2.out; obtain ⟨_, _, e9, h9, _⟩ := this; injection e9 with _ _ e9; omega
   have htk := sl_take (P := Tryz.prog) u8 24 5 .i64 Tryz.underlying24 info_u8 rfl (some ⟨g, 0, none⟩) z2 cx' m (by omega) (by omega) hcx
   rw [Int.toNat_natCast, HL3.out, HZZ.out] at htk
   obtain ⟨hs3, hc3, hC3⟩ := htk
   have hC4 := u8_C_of HR2.out
   rw [HZZ.out] at hC4
   have HC3 := Aside0.mk (hC3 _ hC4)
   clear hC3 hC4
   obtain ⟨W, hW⟩ : ∃ W, W = (w2.setCell ⟨g, m, none⟩ (.int .u8 tt.toNat)).alloc (.cells #[.slice B b.length cb, .slice (some ⟨g, 0, none⟩) m cx'] 24) := ⟨_, rfl⟩
   have hnw := heap_alloc_new (w2.setCell ⟨g, m, none⟩ (.int .u8 tt.toNat)) (.cells #[.slice B b.length cb, .slice (some ⟨g, 0, none⟩) m cx'] 24)
   have hbw := below_alloc (Below.refl (w2.setCell ⟨g, m, none⟩ (.int .u8 tt.toNat)).heap.size (w2.setCell ⟨g, m, none⟩ (.int .u8 tt.toNat))) (.cells #[.slice B b.length cb, .slice (some ⟨g, 0, none⟩) m cx'] 24)
   have hsz : (w2.setCell ⟨g, m, none⟩ (.int .u8 tt.toNat)).heap.size = w2.heap.size := by simp [World.setCell]
   rw [← hW] at hnw hbw
   rw [hsz] at hnw
   have HTY := Aside0.mk (show TwoY W w2.heap.size from by
    intro j hj
    rcases j with _ | _ | j
    ·exact ⟨B, cb, b, cell_of_heap hnw rfl, Kd.C_below HB.out (HB2.out.trans (hbw.mono HB2.out.size)), hcb⟩
    ·exact ⟨some ⟨g, 0, none⟩, cx', z2.take m, by rw [HL3.out]; exact cell_of_heap hnw rfl, by rw [HL3.out]; exact Kd.C_below HC3.out hbw, by rw [HL3.out]; exact hc3⟩
    ·omega)
   have BW := Aside0.mk (HB2.out.trans (hbw.mono HB2.out.size))
   go_wp2_with fail
   rw [← hW]
   obtain ⟨gl, hgl⟩ : ∃ gl, gl = w2.heap.size := ⟨_, rfl⟩
   rw [← hgl] at HTY ⊢
   clear hnw hbw hgl hsz hW hzl hx0 hx1 hxor HW p0 p1 HR2 HB2 B2 HC3 HL3 hs3 hc3 hcx
   go_loopw [56] (fun v56 wr => ∃ (j : Nat), j ≤ 2 ∧ v56 = .int .i64 j ∧ Aside0 (TwoY wr gl) ∧ Aside0 (Below w.heap.size w wr)) (fun i _ => 2 - (intOf i).toNat)
   case atStart => exact ⟨0, by omega, rfl, HTY, BW⟩
   case round =>
    obtain ⟨j, hj, rfl, HT, HB6⟩ := hrel
    by_cases hj2 : j < 2
    ·have hj2i : (j : Int) < 2 := by omega
     obtain ⟨Y, cy, y, hy1, hy2, hy3⟩ := HT.out j hj2
     have HY := Aside0.mk hy2
     clear hy2
     by_cases h5 : 5000 < y.length
     ·have h5i : (y.length : Int) > 5000 := by omega
      have h5d : decide ((y.length : Int) > 5000) = true := decide_eq_true h5i
      have HKN := Aside0.mk (law16_known wr)
      go_wp2_with fail
      (with_reducible refine HKN.out.mono ?_)
      rintro e w8 ⟨rfl, hb8⟩
      have B8 := Aside0.mk (HB6.out.trans (hb8.mono HB6.out.size))
      clear hb8 HKN
      go_wp2
      go_ret
      exact ⟨rfl, B8.out⟩
     ·have h5i : ¬ (y.length : Int) > 5000 := by omega
      have h5d : decide ((y.length : Int) > 5000) = false := decide_eq_false h5i
      have HRO := Aside0.mk (show Calls Tryz.prog 16 #[.slice Y y.length cy, .int .u8 165] wr (Row 5 wr (y ++ List.replicate 80 165)) from book_Roomy Y cy y 165 wr HY.out (by omega) hy3)
      go_wp2_with fail
      (with_reducible refine HRO.out.mono ?_)
      rintro e w8 ⟨v8, rfl, hr8, hb8⟩
      obtain ⟨X8, c8, rfl, hc8, hC8⟩ := u8_R_len hr8
      have hlx : (y ++ List.replicate 80 (165 : UInt8)).length = y.length + 80 := by rw [List.length_append, List.length_replicate]
      rw [hlx] at hc8 hC8 ⊢
      have htk := sl_take (P := Tryz.prog) u8 24 5 .i64 Tryz.underlying24 info_u8 rfl X8 (y ++ List.replicate 80 (165 : UInt8)) c8 y.length (by omega) (by rw [hlx]; omega) (by rw [hlx]; omega)
      rw [Int.toNat_natCast, List.take_left, hlx] at htk
      obtain ⟨hs8, hc9, hC9⟩ := htk
      have HRD := Aside0.mk (group_Read X8 c8 y w8 (hC9 w8 hC8) hc9 (by omega))
      have HI8 := Aside0.mk hC8
      have B8 := Aside0.mk hb8
      clear hr8 hb8 hC8 hC9 hlx HRO
      go_wp2_with fail
      (with_reducible refine HRD.out.mono ?_)
      intro e w9 hrd
      rcases hrd with ⟨hnone, rfl, hb9⟩ | ⟨ts, ss, ps, lo, hi, hs, rfl, hg9, hlo, hhi, hb9⟩
      ·have B9 := Aside0.mk (B8.out.trans (hb9.mono B8.out.size))
       have HIT := Aside0.mk (show Calls Tryz.prog 17 #[.slice X8 (y.length + 80) c8, .slice Y y.length cy, .int .u8 165] w9 (fun e w' => e = .returned (.bool true) ∧ Below w9.heap.size w9 w') from book_Intact X8 Y c8 cy y 165 w9 (Kd.C_below HI8.out hb9) (Kd.C_below HY.out B9.out) hc8 (by omega))
       clear hnone hb9 HRD HI8
       go_wp2_with fail
       (with_reducible refine HIT.out.mono ?_)
       rintro e w10 ⟨rfl, hb10⟩
       have B10 := Aside0.mk (B9.out.trans (hb10.mono B9.out.size))
       have T10 := Aside0.mk (HT.out.below B10.out)
       have BB := Aside0.mk (HB6.out.trans (B10.out.mono HB6.out.size))
       clear hb10 HIT HT HB6 B8 B9 B10
       go_wp2
       go_roundw
       case rel => exact ⟨j + 1, by omega, by go_num, T10, BB⟩
       case measure => simp [intOf]; omega
      ·have B9 := Aside0.mk (B8.out.trans (hb9.mono B8.out.size))
       have HF := Aside0.mk (readG_some hs)
       have HG := Aside0.mk hg9.g
       have HS8 := Aside0.mk hb9.size
       have HIT := Aside0.mk (show Calls Tryz.prog 17 #[.slice X8 (y.length + 80) c8, .slice Y y.length cy, .int .u8 165] w9 (fun e w' => e = .returned (.bool true) ∧ Below w9.heap.size w9 w') from book_Intact X8 Y c8 cy y 165 w9 (Kd.C_below HI8.out hb9) (Kd.C_below HY.out B9.out) hc8 (by omega))
       clear hs hg9 hlo hhi hb9 HRD HI8
       go_wp2_with fail
       (with_reducible refine HIT.out.mono ?_)
       rintro e w10 ⟨rfl, hb10⟩
       have B10 := Aside0.mk (B9.out.trans (hb10.mono B9.out.size))
       have HG10 := Aside0.mk (HG.out.below hb10)
       have HS10 := Aside0.mk (Nat.le_trans HS8.out hb10.size)
       have HRW := Aside0.mk (group_Rows (.inl HG10.out) HF.out.fit HS10.out)
       clear hb10 HIT HG HS8
       go_wp2_with fail
       (with_reducible refine HRW.out.mono ?_)
       rintro e w11 ⟨H', L', A9, c9, rfl, hr9, ho9, hk9, hg11, hf9⟩
       have B11 := Aside0.mk (B10.out.trans ((FrG.below HG10.out.K hf9 (Nat.le_refl _) HS10.out).mono B8.out.size))
       have HWR := Aside0.mk (group_Write A9 c9 H' L' w11 (C_of hr9) ho9 (by rw [hk9]; exact builtM_I64 ts ss _ (fun q hq => (openR_cells (HF.out.op q hq)).2.1)))
       rw [writeR_M ho9.1, hk9, HF.out.wr] at HWR
       have HY11 := Aside0.mk (Kd.C_below HY.out B11.out)
       clear hr9 ho9 hk9 hg11 hf9 HRW HG10 HS10 HF
       go_wp2_with fail
       (with_reducible refine HWR.out.mono ?_)
       rintro e w12 ⟨v12, rfl, hr12, hb12⟩
       obtain ⟨X12, c12, rfl, hc12, hC12⟩ := u8_R_len hr12
       have B12 := Aside0.mk (B11.out.trans (hb12.mono B11.out.size))
       have hcv := u8_string (P := Tryz.prog) (c := c12) Tryz.underlying24 Tryz.underlying5 Tryz.underlying9 hC12
       have hcv2 := u8_string (P := Tryz.prog) (c := cy) Tryz.underlying24 Tryz.underlying5 Tryz.underlying9 (Kd.C_below HY.out B12.out)
       have hbb : (!(str y).toList == (str y).toList) = false := by simp
       have T12 := Aside0.mk (HT.out.below B12.out)
       have BB := Aside0.mk (HB6.out.trans (B12.out.mono HB6.out.size))
       clear hr12 hb12 HWR HT HB6 B8 B9 B10 B11 B12 hC12 HY11 hc12
       go_wp2
       go_roundw
       case rel => exact ⟨j + 1, by omega, by go_num, T12, BB⟩
       case measure => simp [intOf]; omega
    ·have hj3 : j = 2 := by omega
     subst hj3
     have HKN := Aside0.mk (law16_known wr)
     go_wp2_with fail
     (with_reducible refine HKN.out.mono ?_)
     rintro e w8 ⟨rfl, hb8⟩
     have B8 := Aside0.mk (HB6.out.trans (hb8.mono HB6.out.size))
     clear hb8 HKN
     go_wp2
     go_ret
     exact ⟨rfl, B8.out⟩
 ·have d0 : decide ((n : Int) > 0) = false := decide_eq_false (by omega)
  rw [hH1]
  clear HW1 HK
  obtain ⟨W, hW⟩ : ∃ W, W = (w1).alloc (.cells #[.slice B b.length cb, .slice none 0 0] 24) := ⟨_, rfl⟩
  have hnw := heap_alloc_new (w1) (.cells #[.slice B b.length cb, .slice none 0 0] 24)
  have hbw := below_alloc (Below.refl (w1).heap.size (w1)) (.cells #[.slice B b.length cb, .slice none 0 0] 24)
  have hsz : (w1).heap.size = w1.heap.size := rfl
  rw [← hW] at hnw hbw
  rw [hsz] at hnw
  have HTY := Aside0.mk (show TwoY W w1.heap.size from by
   intro j hj
   rcases j with _ | _ | j
   ·exact ⟨B, cb, b, cell_of_heap hnw rfl, Kd.C_below HB.out (B1.out.trans (hbw.mono B1.out.size)), hcb⟩
   ·exact ⟨none, 0, [], cell_of_heap hnw rfl, u8_nil _, Nat.le_refl _⟩
   ·omega)
  have BW := Aside0.mk (B1.out.trans (hbw.mono B1.out.size))
  go_wp2_with fail
  rw [← hW]
  obtain ⟨gl, hgl⟩ : ∃ gl, gl = w1.heap.size := ⟨_, rfl⟩
  rw [← hgl] at HTY ⊢
  clear hnw hbw hgl hsz hW B1
  go_loopw [56] (fun v56 wr => ∃ (j : Nat), j ≤ 2 ∧ v56 = .int .i64 j ∧ Aside0 (TwoY wr gl) ∧ Aside0 (Below w.heap.size w wr)) (fun i _ => 2 - (intOf i).toNat)
  case atStart => exact ⟨0, by omega, rfl, HTY, BW⟩
  case round =>
   obtain ⟨j, hj, rfl, HT, HB6⟩ := hrel
   by_cases hj2 : j < 2
   ·have hj2i : (j : Int) < 2 := by omega
    obtain ⟨Y, cy, y, hy1, hy2, hy3⟩ := HT.out j hj2
    have HY := Aside0.mk hy2
    clear hy2
    by_cases h5 : 5000 < y.length
    ·have h5i : (y.length : Int) > 5000 := by omega
     have h5d : decide ((y.length : Int) > 5000) = true := decide_eq_true h5i
     have HKN := Aside0.mk (law16_known wr)
     go_wp2_with fail
     (with_reducible refine HKN.out.mono ?_)
     rintro e w8 ⟨rfl, hb8⟩
     have B8 := Aside0.mk (HB6.out.trans (hb8.mono HB6.out.size))
     clear hb8 HKN
     go_wp2
     go_ret
     exact ⟨rfl, B8.out⟩
    ·have h5i : ¬ (y.length : Int) > 5000 := by omega
     have h5d : decide ((y.length : Int) > 5000) = false := decide_eq_false h5i
     have HRO := Aside0.mk (show Calls Tryz.prog 16 #[.slice Y y.length cy, .int .u8 165] wr (Row 5 wr (y ++ List.replicate 80 165)) from book_Roomy Y cy y 165 wr HY.out (by omega) hy3)
     go_wp2_with fail
     (with_reducible refine HRO.out.mono ?_)
     rintro e w8 ⟨v8, rfl, hr8, hb8⟩
     obtain ⟨X8, c8, rfl, hc8, hC8⟩ := u8_R_len hr8
     have hlx : (y ++ List.replicate 80 (165 : UInt8)).length = y.length + 80 := by rw [List.length_append, List.length_replicate]
     rw [hlx] at hc8 hC8 ⊢
     have htk := sl_take (P := Tryz.prog) u8 24 5 .i64 Tryz.underlying24 info_u8 rfl X8 (y ++ List.replicate 80 (165 : UInt8)) c8 y.length (by omega) (by rw [hlx]; omega) (by rw [hlx]; omega)
     rw [Int.toNat_natCast, List.take_left, hlx] at htk
     obtain ⟨hs8, hc9, hC9⟩ := htk
     have HRD := Aside0.mk (group_Read X8 c8 y w8 (hC9 w8 hC8) hc9 (by omega))
     have HI8 := Aside0.mk hC8
     have B8 := Aside0.mk hb8
     clear hr8 hb8 hC8 hC9 hlx HRO
     go_wp2_with fail
     (with_reducible refine HRD.out.mono ?_)
     intro e w9 hrd
     rcases hrd with ⟨hnone, rfl, hb9⟩ | ⟨ts, ss, ps, lo, hi, hs, rfl, hg9, hlo, hhi, hb9⟩
     ·have B9 := Aside0.mk (B8.out.trans (hb9.mono B8.out.size))
      have HIT := Aside0.mk (show Calls Tryz.prog 17 #[.slice X8 (y.length + 80) c8, .slice Y y.length cy, .int .u8 165] w9 (fun e w' => e = .returned (.bool true) ∧ Below w9.heap.size w9 w') from book_Intact X8 Y c8 cy y 165 w9 (Kd.C_below HI8.out hb9) (Kd.C_below HY.out B9.out) hc8 (by omega))
      clear hnone hb9 HRD HI8
      go_wp2_with fail
      (with_reducible refine HIT.out.mono ?_)
      rintro e w10 ⟨rfl, hb10⟩
      have B10 := Aside0.mk (B9.out.trans (hb10.mono B9.out.size))
      have T10 := Aside0.mk (HT.out.below B10.out)
      have BB := Aside0.mk (HB6.out.trans (B10.out.mono HB6.out.size))
      clear hb10 HIT HT HB6 B8 B9 B10
      go_wp2
      go_roundw
      case rel => exact ⟨j + 1, by omega, by go_num, T10, BB⟩
      case measure => simp [intOf]; omega
     ·have B9 := Aside0.mk (B8.out.trans (hb9.mono B8.out.size))
      have HF := Aside0.mk (readG_some hs)
      have HG := Aside0.mk hg9.g
      have HS8 := Aside0.mk hb9.size
      have HIT := Aside0.mk (show Calls Tryz.prog 17 #[.slice X8 (y.length + 80) c8, .slice Y y.length cy, .int .u8 165] w9 (fun e w' => e = .returned (.bool true) ∧ Below w9.heap.size w9 w') from book_Intact X8 Y c8 cy y 165 w9 (Kd.C_below HI8.out hb9) (Kd.C_below HY.out B9.out) hc8 (by omega))
      clear hs hg9 hlo hhi hb9 HRD HI8
      go_wp2_with fail
      (with_reducible refine HIT.out.mono ?_)
      rintro e w10 ⟨rfl, hb10⟩
      have B10 := Aside0.mk (B9.out.trans (hb10.mono B9.out.size))
      have HG10 := Aside0.mk (HG.out.below hb10)
      have HS10 := Aside0.mk (Nat.le_trans HS8.out hb10.size)
      have HRW := Aside0.mk (group_Rows (.inl HG10.out) HF.out.fit HS10.out)
      clear hb10 HIT HG HS8
      go_wp2_with fail
      (with_reducible refine HRW.out.mono ?_)
      rintro e w11 ⟨H', L', A9, c9, rfl, hr9, ho9, hk9, hg11, hf9⟩
      have B11 := Aside0.mk (B10.out.trans ((FrG.below HG10.out.K hf9 (Nat.le_refl _) HS10.out).mono B8.out.size))
      have HWR := Aside0.mk (group_Write A9 c9 H' L' w11 (C_of hr9) ho9 (by rw [hk9]; exact builtM_I64 ts ss _ (fun q hq => (openR_cells (HF.out.op q hq)).2.1)))
      rw [writeR_M ho9.1, hk9, HF.out.wr] at HWR
      have HY11 := Aside0.mk (Kd.C_below HY.out B11.out)
      clear hr9 ho9 hk9 hg11 hf9 HRW HG10 HS10 HF
      go_wp2_with fail
      (with_reducible refine HWR.out.mono ?_)
      rintro e w12 ⟨v12, rfl, hr12, hb12⟩
      obtain ⟨X12, c12, rfl, hc12, hC12⟩ := u8_R_len hr12
      have B12 := Aside0.mk (B11.out.trans (hb12.mono B11.out.size))
      have hcv := u8_string (P := Tryz.prog) (c := c12) Tryz.underlying24 Tryz.underlying5 Tryz.underlying9 hC12
      have hcv2 := u8_string (P := Tryz.prog) (c := cy) Tryz.underlying24 Tryz.underlying5 Tryz.underlying9 (Kd.C_below HY.out B12.out)
      have hbb : (!(str y).toList == (str y).toList) = false := by simp
      have T12 := Aside0.mk (HT.out.below B12.out)
      have BB := Aside0.mk (HB6.out.trans (B12.out.mono HB6.out.size))
      clear hr12 hb12 HWR HT HB6 B8 B9 B10 B11 B12 hC12 HY11 hc12
      go_wp2
      go_roundw
      case rel => exact ⟨j + 1, by omega, by go_num, T12, BB⟩
      case measure => simp [intOf]; omega
   ·have hj3 : j = 2 := by omega
    subst hj3
    have HKN := Aside0.mk (law16_known wr)
    go_wp2_with fail
    (with_reducible refine HKN.out.mono ?_)
    rintro e w8 ⟨rfl, hb8⟩
    have B8 := Aside0.mk (HB6.out.trans (hb8.mono HB6.out.size))
    clear hb8 HKN
    go_wp2
    go_ret
    exact ⟨rfl, B8.out⟩
end Go.Proofs.YtcmffaejcnbheaaGreat.Lib0

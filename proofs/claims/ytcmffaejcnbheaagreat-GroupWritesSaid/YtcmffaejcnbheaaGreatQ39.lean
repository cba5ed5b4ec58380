import Derived.Test.YtcmffaejcnbheaaGreatQ38
import Derived.Test.YtcmffaejcnbheaaGreatQ28
set_option linter.unusedVariables false
set_option linter.unusedSimpArgs false
namespace Go.Proofs.YtcmffaejcnbheaaGreat.Lib0
open Go.RowKit Go.Proofs.YtcmffaejcnbheaaGreatW.PrintWords Go.ChangeMaps
def absI (x : Int) : Int := if x < 0 then -x else x
def stepI (t : Int) : Int := (absI (t.tmod 100)).tmod 4
def riseT (M : List RowM) : Nat → Int
 | 0 => 0
 | i + 1 => riseT M i + stepI ((M[i]?).elim 0 (·.t))
def riseRow (M : List RowM) (i : Nat) : RowM := ⟨riseT M (i + 1), i, tameCs ((M[i]?).elim [] (·.cs)) 4⟩
def risingM (M : List RowM) (n : Nat) : List RowM := (List.range n).map (riseRow M)
theorem tmod100 (t : Int) : -99 ≤ t.tmod 100 ∧ t.tmod 100 ≤ 99 := by
 rcases Int.lt_or_le t 0 with h | h
 ·have e : t.tmod 100 = -((-t).tmod 100) := by rw [Int.neg_tmod, Int.neg_neg]
  have h1 := Int.tmod_nonneg (a := -t) 100 (by omega)
  have h2 := Int.tmod_lt_of_pos (-t) (b := 100) (by omega)
  omega
 ·have h1 := Int.tmod_nonneg (a := t) 100 h
  have h2 := Int.tmod_lt_of_pos t (b := 100) (by omega)
  omega
theorem absI_range (t : Int) : 0 ≤ absI (t.tmod 100) ∧ absI (t.tmod 100) ≤ 99 := by
 have := tmod100 t
 unfold absI
 split <;> omega
theorem stepI_range (t : Int) : 0 ≤ stepI t ∧ stepI t ≤ 3 := by
 have h := absI_range t
 have h1 := Int.tmod_nonneg (a := absI (t.tmod 100)) 4 h.1
 have h2 := Int.tmod_lt_of_pos (absI (t.tmod 100)) (b := 4) (by omega)
 unfold stepI
 omega
theorem riseT_range (M : List RowM) : ∀ i, 0 ≤ riseT M i ∧ riseT M i ≤ 3 * i
 | 0 => by simp [riseT]
 | i + 1 => by
  have h := riseT_range M i
  have h2 := stepI_range ((M[i]?).elim 0 (·.t))
  rw [riseT]
  omega
theorem risingM_next (M : List RowM) (n k : Nat) (h : k < n) : (risingM M n).take (k + 1) = (risingM M n).take k ++ [riseRow M k] := by
 have hl : k < (risingM M n).length := by simp [risingM, h]
 rw [take_next _ k hl]
 congr 2
 simp [risingM]
set_option maxHeartbeats 3200000 in
set_option maxRecDepth 100000 in
theorem keep_Rising (B : Option Addr) (d : Nat) (H : List RowH) (L : List (List CellM)) (most : Nat) (w : World) (hH : kr.C w B H.length H) (hL : RowsOn w H L) (hl : H.length ≤ 9223372036854775807) (hm : most ≤ 1000) (hc : ∀ c ∈ L, c.length ≤ 9223372036854775807) :
  Calls Tryz.prog 7 #[.slice B H.length d, .int .i64 most] w (RisS w (risingM (rowsM H L) (min H.length most))) := by
 have HH := Aside0.mk hH
 have HL := Aside0.mk hL
 have HC := Aside0.mk hc
 have hli : (H.length : Int) ≤ 9223372036854775807 := by omega
 have hmi : (most : Int) ≤ 1000 := by omega
 have HB0 := Aside0.mk (Below.refl w.heap.size w)
 obtain ⟨n, hn⟩ : ∃ n, n = min H.length most := ⟨_, rfl⟩
 rw [← hn]
 have HN := Aside0.mk hn
 clear hH hL hc hn
 go_enter Tryz.func7, Tryz.ntmps7
 go_wp2_with fail
 go_loopw [5, 6, 7] (fun v5 v6 v7 wr => ∃ (k : Nat) (H' : List RowH) (L' : List (List CellM)), k ≤ n ∧ v6 = .int .i64 (riseT (rowsM H L) k) ∧ v7 = .int .i64 k ∧ Aside0 (H'.length = k) ∧ Aside0 (rowsM H' L' = (risingM (rowsM H L) n).take k) ∧ Aside0 (kr.R 76 wr w.heap.size (fun _ => True) v5 H') ∧ Aside0 (RowsR wr w.heap.size H' L') ∧ Aside0 (Below w.heap.size w wr)) (fun _ _ i _ => n - (intOf i).toNat)
 case atStart => exact ⟨0, [], [], by omega, rfl, rfl, ⟨rfl⟩, ⟨by simp [rowsM]⟩, ⟨Kd.R_nil _ _ _ _ _⟩, ⟨⟨rfl, fun i h1 => by simp at h1⟩⟩, HB0⟩
 case round =>
  clear HB0
  obtain ⟨k, H', L', hk, rfl, rfl, HHL, HM, HR, HRR, HB⟩ := hrel
  obtain ⟨A3, c3, hv3⟩ := Kd.R_slice HR.out
  subst hv3
  by_cases hkn : k < n
  ·have hk1 : k < H.length := by have := HN.out; omega
   have hk2 : k < most := by have := HN.out; omega
   have hk1i : (k : Int) < H.length := by omega
   have hk2i : (k : Int) < most := by omega
   have hkl : k < L.length := by rw [← HL.out.1]; exact hk1
   have d1 : decide ((k : Int) < H.length) = true := decide_eq_true hk1i
   have d2 : decide ((k : Int) < most) = true := decide_eq_true hk2i
   obtain ⟨b, o, rfl, hx⟩ := kr_open (Kd.C_below HH.out HB.out) (by omega)
   obtain ⟨x0, x1, x2⟩ := hx k hk1
   obtain ⟨q1, q2, q3⟩ := (HL.out.below HB.out).2 k hk1 hkl
   have hcc := HC.out _ (List.getElem_mem hkl)
   have HMN := Aside0.mk (risingM_next (rowsM H L) n k hkn)
   have hmk : (rowsM H L)[k]? = some ⟨H[k].t, H[k].s, L[k]⟩ := by
    rw [List.getElem?_eq_getElem (rowsM_lt H L k hk1 hkl), rowsM_get H L k hk1 hkl]
   have hrow : riseRow (rowsM H L) k = ⟨riseT (rowsM H L) k + stepI H[k].t, k, tameCs L[k] 4⟩ := by
    unfold riseRow
    rw [riseT, hmk]; rfl
   have hT1 : riseT (rowsM H L) (k + 1) = riseT (rowsM H L) k + stepI H[k].t := by rw [riseT, hmk]; rfl
   have hTr := riseT_range (rowsM H L) k
   rw [hrow] at HMN
   have HT1 := Aside0.mk hT1
   generalize hT : riseT (rowsM H L) k = T at *
   generalize H[k] = x at *
   generalize L[k] = cx at *
   obtain ⟨xt, xs, xA, xn, xc⟩ := x
   dsimp only at *
   subst q1
   have HTM := Aside0.mk (keep_Tame xt xs k xA xc cx wr q3 hcc)
   have hab := absI_range xt
   have hst := stepI_range xt
   have htm := tmod100 xt
   clear hx q2 q3 hcc hmk hrow hT1 hT
   go_wp2_with fail
   (with_reducible refine HTM.out.mono ?_)
   rintro e w5 ⟨A5, c5, rfl, hc5, hr5, hb5⟩
   unfold tameM at hc5 hr5 ⊢
   dsimp only at hc5 hr5 ⊢
   have HB5 := Aside0.mk hb5
   have HB5b := Aside0.mk (hb5.mono HB.out.size)
   have HR5 := Aside0.mk hr5
   have HC5 := Aside0.mk hc5
   have HB5s := Aside0.mk (show w.heap.size ≤ w5.heap.size from Nat.le_trans HB.out.size hb5.size)
   clear hb5 hr5 hc5
   by_cases hneg : xt.tmod 100 < 0
   ·have e0 : decide (xt.tmod 100 < 0) = true := decide_eq_true hneg
    have e1 : absI (xt.tmod 100) = -(xt.tmod 100) := by unfold absI; rw [if_pos hneg]
    have e3 : (-(xt.tmod 100)).tmod 4 = stepI xt := by unfold stepI; rw [e1]
    have e4 : wrap64 (T + stepI xt) = T + stepI xt := by unfold wrap64; omega
    have hx0 : Value.slice (some ⟨w5.heap.size + 1, 0, none⟩) 1 1 = .slice (some ⟨(w5.alloc (.cells #[.int .i64 (T + stepI xt), .int .i64 k, .slice A5 (tameCs cx 4).length c5] 76)).heap.size, 0, none⟩) 1 1 := by simp
    have HX0 := Aside0.mk hx0
    have HBW := Aside0.mk (below_alloc (Below.refl w5.heap.size w5) (.cells #[.int .i64 (T + stepI xt), .int .i64 k, .slice A5 (tameCs cx 4).length c5] 76))
    have HRW := Aside0.mk (Kd.R_below HR.out (HB5.out.trans (HBW.out.mono HB5.out.size)))
    have HRRW := Aside0.mk (RowsR.below HRR.out (HB5.out.trans (HBW.out.mono HB5.out.size)))
    have HR5W := Aside0.mk (Kd.R_lower (Kd.R_below HR5.out HBW.out) HB.out.size)
    have HSW := Aside0.mk (Nat.le_trans HB5s.out HBW.out.size)
    have HLW := Aside0.mk (show H'.length ≤ 1099511627776 by have := HHL.out; omega)
    clear hx0
    go_wp2_with (at_builtin; go_loud (refine kr_append (W := w5.alloc (.cells #[.int .i64 (T + stepI xt), .int .i64 k, .slice A5 (tameCs cx 4).length c5] 76)) (.tmp 39) (.tmp 41) 22 76 (.slice A3 H'.length c3) H' ⟨T + stepI xt, k, A5, (tameCs cx 4).length, c5⟩ w.heap.size rfl rfl Tryz.underlying22 info_row rfl HX0.out HRW.out HSW.out HLW.out ?_))
    intro v1 w7 hr7 hb7 hg7 hat7
    have HRR7 := Aside0.mk ((HRRW.out.grown HRW.out (by decide) hg7).snoc ⟨T + stepI xt, k, A5, (tameCs cx 4).length, c5⟩ (tameCs cx 4) rfl HC5.out (R_grown_ne rfl HR5W.out HRW.out (by decide) hg7))
    have HB7 := Aside0.mk ((HB5b.out.trans (HBW.out.mono HB5s.out)).trans hb7)
    have HM7 := Aside0.mk (show rowsM (H' ++ [(⟨T + stepI xt, k, A5, (tameCs cx 4).length, c5⟩ : RowH)]) (L' ++ [tameCs cx 4]) = (risingM (rowsM H L) n).take (k + 1) by
     rw [rowsM_snoc _ _ _ _ HRR.out.1, HM.out, HMN.out])
    have HH7 := Aside0.mk (show (H' ++ [(⟨T + stepI xt, k, A5, (tameCs cx 4).length, c5⟩ : RowH)]).length = k + 1 by rw [List.length_append, HHL.out]; rfl)
    have HR7 := Aside0.mk hr7
    have HT7 := Aside0.mk HT1.out.symm
    generalize H' ++ [(⟨T + stepI xt, k, A5, (tameCs cx 4).length, c5⟩ : RowH)] = H2 at *
    clear hr7 hb7 hg7 hat7 HRRW HRW HR5W HR5 HX0 HM HR HRR HMN HHL
    go_wp2
    go_roundw
    case rel => exact ⟨k + 1, H2, L' ++ [tameCs cx 4], by omega, by rw [← HT7.out], by go_num, HH7, HM7, HR7, HRR7, ⟨HB.out.trans HB7.out⟩⟩
    case measure => simp [intOf]; omega
   ·have e0 : decide (xt.tmod 100 < 0) = false := decide_eq_false hneg
    have e1 : absI (xt.tmod 100) = xt.tmod 100 := by unfold absI; rw [if_neg hneg]
    have e3 : (xt.tmod 100).tmod 4 = stepI xt := by unfold stepI; rw [e1]
    have e4 : wrap64 (T + stepI xt) = T + stepI xt := by unfold wrap64; omega
    have hx0 : Value.slice (some ⟨w5.heap.size + 1, 0, none⟩) 1 1 = .slice (some ⟨(w5.alloc (.cells #[.int .i64 (T + stepI xt), .int .i64 k, .slice A5 (tameCs cx 4).length c5] 76)).heap.size, 0, none⟩) 1 1 := by simp
    have HX0 := Aside0.mk hx0
    have HBW := Aside0.mk (below_alloc (Below.refl w5.heap.size w5) (.cells #[.int .i64 (T + stepI xt), .int .i64 k, .slice A5 (tameCs cx 4).length c5] 76))
    have HRW := Aside0.mk (Kd.R_below HR.out (HB5.out.trans (HBW.out.mono HB5.out.size)))
    have HRRW := Aside0.mk (RowsR.below HRR.out (HB5.out.trans (HBW.out.mono HB5.out.size)))
    have HR5W := Aside0.mk (Kd.R_lower (Kd.R_below HR5.out HBW.out) HB.out.size)
    have HSW := Aside0.mk (Nat.le_trans HB5s.out HBW.out.size)
    have HLW := Aside0.mk (show H'.length ≤ 1099511627776 by have := HHL.out; omega)
    clear hx0
    go_wp2_with (at_builtin; go_loud (refine kr_append (W := w5.alloc (.cells #[.int .i64 (T + stepI xt), .int .i64 k, .slice A5 (tameCs cx 4).length c5] 76)) (.tmp 39) (.tmp 41) 22 76 (.slice A3 H'.length c3) H' ⟨T + stepI xt, k, A5, (tameCs cx 4).length, c5⟩ w.heap.size rfl rfl Tryz.underlying22 info_row rfl HX0.out HRW.out HSW.out HLW.out ?_))
    intro v1 w7 hr7 hb7 hg7 hat7
    have HRR7 := Aside0.mk ((HRRW.out.grown HRW.out (by decide) hg7).snoc ⟨T + stepI xt, k, A5, (tameCs cx 4).length, c5⟩ (tameCs cx 4) rfl HC5.out (R_grown_ne rfl HR5W.out HRW.out (by decide) hg7))
    have HB7 := Aside0.mk ((HB5b.out.trans (HBW.out.mono HB5s.out)).trans hb7)
    have HM7 := Aside0.mk (show rowsM (H' ++ [(⟨T + stepI xt, k, A5, (tameCs cx 4).length, c5⟩ : RowH)]) (L' ++ [tameCs cx 4]) = (risingM (rowsM H L) n).take (k + 1) by
     rw [rowsM_snoc _ _ _ _ HRR.out.1, HM.out, HMN.out])
    have HH7 := Aside0.mk (show (H' ++ [(⟨T + stepI xt, k, A5, (tameCs cx 4).length, c5⟩ : RowH)]).length = k + 1 by rw [List.length_append, HHL.out]; rfl)
    have HR7 := Aside0.mk hr7
    have HT7 := Aside0.mk HT1.out.symm
    generalize H' ++ [(⟨T + stepI xt, k, A5, (tameCs cx 4).length, c5⟩ : RowH)] = H2 at *
    clear hr7 hb7 hg7 hat7 HRRW HRW HR5W HR5 HX0 HM HR HRR HMN HHL
    go_wp2
    go_roundw
    case rel => exact ⟨k + 1, H2, L' ++ [tameCs cx 4], by omega, by rw [← HT7.out], by go_num, HH7, HM7, HR7, HRR7, ⟨HB.out.trans HB7.out⟩⟩
    case measure => simp [intOf]; omega
  ·have hkn2 : k = n := by omega
   subst hkn2
   rw [List.take_of_length_le (by simp [risingM])] at HM
   have HG : Aside0 (¬ k < H.length ∨ ¬ k < most) := ⟨by have := HN.out; omega⟩
   by_cases h1 : k < H.length
   ·have h2 : ¬ k < most := by have := HG.out; omega
    have d1 : decide ((k : Int) < H.length) = true := decide_eq_true (by omega)
    have d2 : decide ((k : Int) < most) = false := decide_eq_false (by omega)
    go_wp2
    go_ret
    exact ⟨H', L', A3, c3, rfl, HR.out, HRR.out, HM.out, HB.out⟩
   ·have d1 : decide ((k : Int) < H.length) = false := decide_eq_false (by omega)
    go_wp2
    go_ret
    exact ⟨H', L', A3, c3, rfl, HR.out, HRR.out, HM.out, HB.out⟩
end Go.Proofs.YtcmffaejcnbheaaGreat.Lib0
namespace Go.Proofs.YtcmffaejcnbheaaGreat.Lib0
open Go.RowKit Go.Proofs.YtcmffaejcnbheaaGreatW.PrintWords Go.ChangeMaps
set_option maxHeartbeats 1600000 in
set_option maxRecDepth 100000 in
theorem book_Same (A B : Option Addr) (ca cb : Nat) (xs ys : List UInt8) (w : World) (ha : u8.C w A xs.length xs) (hb : u8.C w B ys.length ys) :
  Calls Tryz.prog 45 #[.slice A xs.length ca, .slice B ys.length cb] w fun e w' => e = .returned (.bool (decide (xs = ys))) ∧ Below w.heap.size w w' := by
 have HA := Aside0.mk ha
 have HB := Aside0.mk hb
 have hla : xs.length ≤ 9223372036854775807 := by have := ha.2.1; omega
 clear ha hb
 by_cases hlen : xs.length = ys.length
 ·have hb1 : ((xs.length : Int) != (ys.length : Int)) = false := by simp [hlen]
  go_enter Tryz.func45, Tryz.ntmps45
  go_wp2_with fail
  go_loopw [5] (fun v5 wr => ∃ (k : Nat), k ≤ ys.length ∧ v5 = .int .i64 k ∧ Aside0 (xs.take k = ys.take k) ∧ Aside0 (Below w.heap.size w wr)) (fun i _ => ys.length - (intOf i).toNat)
  case atStart => exact ⟨0, by omega, rfl, ⟨rfl⟩, ⟨Below.refl _ _⟩⟩
  case round =>
   obtain ⟨k, hk, rfl, HT, HW⟩ := hrel
   by_cases hlt : k < ys.length
   ·obtain ⟨b1, o1, rfl, hx⟩ := u8_open (Kd.C_below HA.out HW.out) (by omega)
    obtain ⟨b2, o2, rfl, hy⟩ := u8_open (Kd.C_below HB.out HW.out) (by omega)
    have hx1 := hx k (by omega)
    have hy1 := hy k hlt
    have hlt1 : k < xs.length := by omega
    have hlt2 : (k : Int) < ys.length := by omega
    have hlt3 : (k : Int) < xs.length := by omega
    have HTS := Aside0.mk (show xs[k] = ys[k] → xs.take (k + 1) = ys.take (k + 1) from fun h => by
     rw [List.take_succ_eq_append_getElem hlt1, List.take_succ_eq_append_getElem hlt, HT.out, h])
    have HNE := Aside0.mk (show xs[k] ≠ ys[k] → xs ≠ ys from fun h e => h (by simp [e]))
    clear hx hy
    generalize xs[k] = x at *
    generalize ys[k] = y at *
    by_cases hxy : x = y
    ·have hd := HTS.out hxy
     have HT' := Aside0.mk hd
     have hbb : ((x.toNat : Int) != (y.toNat : Int)) = false := by rw [hxy]; simp
     clear hxy hd
     go_wp2
     go_quiet (fail)
     have HW' := Aside0.mk (HW.out.trans ((Drawn0.below (Drawn0.step (Drawn0.refl wr) nq)).mono HW.out.size))
     generalize wr.drewN nq = w2 at *
     go_wp2
     go_roundw
     case rel => exact ⟨k + 1, by omega, by go_num, HT', HW'⟩
     case measure => simp [intOf]; omega
    ·have hne := HNE.out hxy
     have HE := Aside0.mk (show decide (xs = ys) = false by simp [hne])
     have hbb : ((x.toNat : Int) != (y.toNat : Int)) = true := bne_iff_ne.2 (fun h => hxy (UInt8.toNat_inj.1 (by omega)))
     clear hne hxy
     go_wp2
     go_quiet (fail)
     have HW' := Aside0.mk (HW.out.trans ((Drawn0.below (Drawn0.step (Drawn0.refl wr) nq)).mono HW.out.size))
     generalize wr.drewN nq = w2 at *
     go_wp2
     go_ret
     exact ⟨by rw [HE.out]; rfl, HW'.out⟩
   ·obtain rfl : k = ys.length := by omega
    have he : xs = ys := by have := HT.out; rwa [← hlen, List.take_length, hlen, List.take_length] at this
    have HE := Aside0.mk (show decide (xs = ys) = true by simp [he])
    clear he
    go_wp2
    go_ret
    exact ⟨by rw [HE.out]; rfl, HW.out⟩
 ·have hne : xs ≠ ys := fun h => hlen (by rw [h])
  have hb1 : ((xs.length : Int) != (ys.length : Int)) = true := bne_iff_ne.2 (by omega)
  go_enter Tryz.func45, Tryz.ntmps45
  go_wp2
  go_ret
  exact ⟨by simp [hne], Below.refl _ _⟩
set_option maxHeartbeats 1600000 in
set_option maxRecDepth 100000 in
theorem book_Roomy (A : Option Addr) (c : Nat) (l : List UInt8) (m : UInt8) (w : World) (h : u8.C w A l.length l) (hl : l.length ≤ 1073741824) (hc : l.length ≤ c) :
  Calls Tryz.prog 16 #[.slice A l.length c, .int .u8 m.toNat] w (Row 5 w (l ++ List.replicate 80 m)) := by
 have HC := Aside0.mk h
 have hmk := print_make_int (P := Tryz.prog) 24 5 (.int .u8 0) 1 Tryz.underlying24 info_u8 rfl (by omega) ((l.length : Int) + 80) (by omega) (by omega)
 rw [made_bytes, show ((l.length : Int) + 80).toNat = l.length + 80 by omega] at hmk
 have HR0 := Aside0.mk (R_lit w (List.replicate (l.length + 80) (0 : UInt8)) 5 (by simp; omega))
 rw [List.length_replicate] at HR0
 obtain ⟨k80, h80⟩ : ∃ k, k = List.replicate 80 m := ⟨_, rfl⟩
 rw [← h80]
 have H80 := Aside0.mk h80
 clear h h80
 generalize (List.map encB (List.replicate (l.length + 80) (0 : UInt8))).toArray = cs at *
 go_enter Tryz.func16, Tryz.ntmps16
 have hi1 : (Tryz.prog.info? 5).map (·.size) = some 1 := by kernel_rfl
 go_wp2_with ((refine Kd.R_copy (enc := fun b : UInt8 => Value.int .u8 (b.toNat : Int)) (h1 := fun _ => rfl) (w0 := w) 0 w.heap.size rfl (.tmp 11) (.tmp 12) 24 24 5 rfl Tryz.underlying24 hi1 (.slice (some ⟨w.heap.size, 0, none⟩) (l.length + 80) (l.length + 80)) (List.replicate (l.length + 80) (0 : UInt8)) l _ _ _ (fun _ => True) rfl rfl HR0.out (Kd.C_below HC.out (below_alloc (Below.refl _ _) _)) (below_alloc (Below.refl _ _) _) ?i2 ?_))
 case i2 => simp
 intro w1 hr1 hb1 hg1
 have hr2 : u8.R 5 w1 w.heap.size (fun _ => True) (.slice (some ⟨w.heap.size, 0, none⟩) (l.length + 80) (l.length + 80)) (l ++ List.replicate 0 m ++ List.replicate 80 0) := by
  have hr3 : u8.R 5 w1 w.heap.size (fun _ => True) (.slice (some ⟨w.heap.size, 0, none⟩) (l.length + 80) (l.length + 80)) _ := hr1
  simpa using hr3
 have R1 := Aside0.mk hr2
 have B1 := Aside0.mk hb1
 clear hr1 hb1 hg1 hmk HR0 hr2
 obtain ⟨g, hg⟩ : ∃ g, g = w.heap.size := ⟨_, rfl⟩
 rw [← hg] at R1 ⊢
 have HG := Aside0.mk hg
 clear hg
 go_wp2_with fail
 go_loopw [6] (fun v6 wr => ∃ (k : Nat), k ≤ 80 ∧ v6 = .int .i64 ((l.length : Int) + k) ∧ Aside0 (u8.R 5 wr g (fun _ => True) (.slice (some ⟨g, 0, none⟩) (l.length + 80) (l.length + 80)) (l ++ List.replicate k m ++ List.replicate (80 - k) 0)) ∧ Aside0 (Below g w wr)) (fun i _ => l.length + 80 - (intOf i).toNat)
 case atStart => exact ⟨0, by omega, by simp, R1, by rw [HG.out]; exact B1⟩
 case round =>
  obtain ⟨k, hk, rfl, HR, HB⟩ := hrel
  by_cases hlt : k < 80
  ·have hln : (l ++ List.replicate k m ++ List.replicate (80 - k) 0).length = l.length + 80 := by simp; omega
   obtain ⟨g', c', hv, hv3, hv4, cur, hh, hcur⟩ := u8_row_open HR.out (by omega)
   clear hv3 hv4
   simp only [Value.slice.injEq, Option.some.injEq, Addr.mk.injEq, and_true] at hv
   obtain ⟨rfl, hv1, hv2⟩ := hv
   clear hv1 hv2
   have hcc := hcur (l.length + k) (by omega)
   have hx0 : wr.cell? ⟨g, l.length + k, none⟩ = some (encB ((l ++ List.replicate k m ++ List.replicate (80 - k) 0)[l.length + k]'(by omega))) := cell_of_heap hh hcc
   have hx1 : wr.frozen? ⟨g, l.length + k, none⟩ = false := frozen_of_heap hh
   have HR2 := Aside0.mk (u8_R_set HR.out (l.length + k) (by omega) m)
   have HZ := Aside0.mk (show (l ++ List.replicate k m ++ List.replicate (80 - k) 0).set (l.length + k) m = l ++ List.replicate (k + 1) m ++ List.replicate (80 - (k + 1)) 0 by
    rw [show 80 - k = (80 - (k + 1)) + 1 by omega, List.replicate_succ, List.append_assoc, List.set_append_right (l.length + k) m (by omega), Nat.add_sub_cancel_left, List.set_append_right k m (by simp), List.length_replicate, Nat.sub_self, List.set_cons_zero, List.replicate_succ', List.append_assoc, List.append_assoc]
    rfl)
   have hkk : ((l.length : Int) + k).toNat = l.length + k := by omega
   generalize encB ((l ++ List.replicate k m ++ List.replicate (80 - k) 0)[l.length + k]'(by omega)) = u at *
   clear hcur hcc hln hh
   have h1 : (l.length : Int) + k < l.length + 80 := by omega
   go_wp2
   go_roundw
   case rel => exact ⟨k + 1, by omega, by go_num, ⟨by rw [← HZ.out]; exact HR2.out⟩, ⟨HB.out.setCell (p := ⟨g, l.length + k, none⟩) (Nat.le_refl _) _⟩⟩
   case measure => simp [intOf]; omega
  ·obtain rfl : k = 80 := by omega
   have HR2 := HR.out
   rw [← H80.out, Nat.sub_self, List.replicate_zero, List.append_nil] at HR2
   replace HR := Aside0.mk HR2
   clear HR2
   go_wp2
   go_ret
   refine ⟨.slice (some ⟨g, 0, none⟩) (l.length + 80) (l.length + 80), rfl, ?_, ?_⟩
   ·have := HR.out; rw [← HG.out]; exact this
   ·have := HB.out; rw [← HG.out]; exact this
theorem cell_below {B : Nat} {w w1 : World} (h : Below B w w1) {a : Addr} (ha : a.block < B) : w1.cell? a = w.cell? a := by
 unfold World.cell?
 rw [h.block a.block ha]
set_option maxHeartbeats 1600000 in
set_option maxRecDepth 100000 in
theorem book_Intact (A B : Option Addr) (ca cb : Nat) (xs : List UInt8) (m : UInt8) (w : World) (ha : u8.C w A (xs.length + 80) (xs ++ List.replicate 80 m)) (hb : u8.C w B xs.length xs) (hc : xs.length + 80 ≤ ca) (hl : xs.length ≤ 1099511627776) :
  Calls Tryz.prog 17 #[.slice A (xs.length + 80) ca, .slice B xs.length cb, .int .u8 m.toNat] w fun e w' => e = .returned (.bool true) ∧ Below w.heap.size w w' := by
 have HA := Aside0.mk ha
 have HB := Aside0.mk hb
 have htk := sl_take (P := Tryz.prog) u8 24 5 .i64 Tryz.underlying24 info_u8 rfl A (xs ++ List.replicate 80 m) ca xs.length (by omega) (by simp; omega) (by simp; omega)
 rw [Int.toNat_natCast, List.take_left, List.length_append, List.length_replicate] at htk
 obtain ⟨hs, hc2, hC⟩ := htk
 have HS := Aside0.mk (book_Same A B ca cb xs xs w (hC w ha) hb)
 have hd : decide (xs = xs) = true := by simp
 rw [hd] at HS
 have hbb : ((xs.length : Int) + 80 != (xs.length : Int) + 80) = false := by simp
 have hbc : ((m.toNat : Int) != (m.toNat : Int)) = false := by simp
 obtain ⟨b, o, hA, hcell⟩ := u8_open ha (by simp)
 have HCE := Aside0.mk (show ∀ k, xs.length ≤ k → k < xs.length + 80 → w.cell? ⟨b, o + k, none⟩ = some (.int .u8 m.toNat) from fun k h1 h2 => by
  have := hcell k (by simp; omega)
  rw [List.getElem_append_right h1, List.getElem_replicate] at this
  exact this)
 clear ha hb hC hc2 hd hcell
 have HBL := Aside0.mk (show b < w.heap.size from by
  have := HCE.out xs.length (Nat.le_refl _) (by omega)
  rcases Nat.lt_or_ge b w.heap.size with h | h
  ·exact h
  ·simp [World.cell?, Array.getElem?_eq_none h] at this)
 subst hA
 go_enter Tryz.func17, Tryz.ntmps17
 go_wp2_with fail
 refine HS.out.mono ?_
 rintro e w1 ⟨rfl, hb1⟩
 have B1 := Aside0.mk hb1
 clear hb1
 go_wp2_with fail
 go_loopw [7] (fun v7 wr => ∃ (k : Nat), xs.length ≤ k ∧ k ≤ xs.length + 80 ∧ v7 = .int .i64 k ∧ wr = w1) (fun i _ => xs.length + 80 - (intOf i).toNat)
 case atStart => exact ⟨xs.length, Nat.le_refl _, by omega, rfl, rfl⟩
 case round =>
  obtain ⟨k, hk, hk2, rfl, rfl⟩ := hrel
  by_cases hlt : k < xs.length + 80
  ·have hx : wr.cell? ⟨b, o + k, none⟩ = some (.int .u8 m.toNat) := (cell_below B1.out HBL.out).trans (HCE.out k hk hlt)
   have h1 : (k : Int) < xs.length + 80 := by omega
   go_wp2
   go_roundw
   case rel => exact ⟨k + 1, by omega, by omega, by go_num, trivial⟩
   case measure => simp [intOf]; omega
  ·obtain rfl : k = xs.length + 80 := by omega
   go_wp2
   go_ret
   exact ⟨rfl, B1.out⟩
end Go.Proofs.YtcmffaejcnbheaaGreat.Lib0
namespace Go.Proofs.YtcmffaejcnbheaaGreat.Lib0
open Go.RowKit Go.Proofs.YtcmffaejcnbheaaGreatW.PrintWords Go.ChangeMaps
def lessM (a b : RowM) : Bool := decide (cmpR a.t a.s b.t b.s < 0)
def risesM : List RowM → Bool
 | a :: b :: t => lessM a b && risesM (b :: t)
 | _ => true
def checkM (M : List RowM) : Int := if M.any (fun r => !r.ok) then 1 else if risesM M then (if (growsR [] M).2.1 = 0 then 0 else 22) else 12
def bytesM (M : List RowM) : List UInt8 := deltaB (M.map (·.t)) ++ deltaB (M.map (·.s)) ++ putV (growsR [] M).1.length ++ partsB M (growsR [] M).1
def writeM (M : List RowM) : List UInt8 × Int := if M.length = 0 ∨ 16 < M.length then ([], 4) else if checkM M = 0 then (bytesM M, 0) else ([], checkM M)
theorem rowsM_t : ∀ (H : List RowH) (L : List (List CellM)), H.length = L.length → (rowsM H L).map (·.t) = H.map (·.t)
 | [], [], _ => rfl
 | h :: H, c :: L, e => by
  show _ :: (rowsM H L).map (·.t) = _ :: H.map (·.t)
  rw [rowsM_t H L (by simpa using e)]
theorem rowsM_s : ∀ (H : List RowH) (L : List (List CellM)), H.length = L.length → (rowsM H L).map (·.s) = H.map (·.s)
 | [], [], _ => rfl
 | h :: H, c :: L, e => by
  show _ :: (rowsM H L).map (·.s) = _ :: H.map (·.s)
  rw [rowsM_s H L (by simpa using e)]
theorem rowsM_rises : ∀ (H : List RowH) (L : List (List CellM)), H.length = L.length → risesM (rowsM H L) = risesH H
 | [], [], _ => rfl
 | [h], [c], _ => rfl
 | h :: h2 :: H, c :: c2 :: L, e => by
  show (lessM ⟨h.t, h.s, c⟩ ⟨h2.t, h2.s, c2⟩ && risesM (rowsM (h2 :: H) (c2 :: L))) = (lessH h h2 && risesH (h2 :: H))
  rw [rowsM_rises (h2 :: H) (c2 :: L) (by simpa using e)]
  rfl
theorem writeR_M {H : List RowH} {L : List (List CellM)} (h : H.length = L.length) : writeR H L = writeM (rowsM H L) := by
 have e1 : checkR H L = checkM (rowsM H L) := by unfold checkR checkM; rw [rowsM_rises H L h]
 have e2 : bytesG H L = bytesM (rowsM H L) := by unfold bytesG bytesM; rw [rowsM_t H L h, rowsM_s H L h]
 unfold writeR writeM
 rw [e1, e2, rowsM_len H L h]
end Go.Proofs.YtcmffaejcnbheaaGreat.Lib0

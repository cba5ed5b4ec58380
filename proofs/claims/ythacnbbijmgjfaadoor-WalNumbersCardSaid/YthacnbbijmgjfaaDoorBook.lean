/- Helpers of the statements: books, texts. -/
import Derived.Test.YthacnbbijmgjfaaDoorOpen
import Derived.Test.YthacnbbijmgjfaaDoorRefOpen
set_option linter.unusedVariables false
set_option linter.unusedSimpArgs false
namespace Go.Proofs.YthacnbbijmgjfaaDoor.Lib0
open Go.RowKit Go.Proofs.YthacnbbijmgjfaaDoorW.PrintWords Go.ChangeMaps

theorem toList_inj {x y : ByteArray} (h : x.toList = y.toList) : x = y := by
  rw [ByteArray.toList_eq, ByteArray.toList_eq] at h
  have := congrArg str h
  exact (str_byt x).symm.trans (this.trans (str_byt y))
set_option maxHeartbeats 1600000 in
set_option maxRecDepth 100000 in
theorem keep_Texts (A B : Option Addr) (ca cb : Nat) (xs ys : List ByteArray) (w : World) (ha : Kd.string.C w A xs.length xs) (hb : Kd.string.C w B ys.length ys) :
    Calls Tryd.prog 15 #[.slice A xs.length ca, .slice B ys.length cb] w fun e w' => e = .returned (.bool (decide (xs = ys))) ∧ Below w.heap.size w w' := by
  have HA := Aside0.mk ha
  have HB := Aside0.mk hb
  have hla : xs.length ≤ 9223372036854775807 := by have := ha.2.1; omega
  clear ha hb
  by_cases hlen : xs.length = ys.length
  · have hb1 : ((xs.length : Int) != (ys.length : Int)) = false := by simp [hlen]
    go_enter Tryd.func15, Tryd.ntmps15
    go_wp2_with fail
    go_loopw [5] (fun v5 wr => ∃ (k : Nat), k ≤ ys.length ∧ v5 = .int .i64 k ∧ Aside0 (xs.take k = ys.take k) ∧ Aside0 (Below w.heap.size w wr)) (fun i _ => ys.length - (intOf i).toNat)
    case atStart => exact ⟨0, by omega, rfl, ⟨rfl⟩, ⟨Below.refl _ _⟩⟩
    case round =>
      obtain ⟨k, hk, rfl, HT, HW⟩ := hrel
      by_cases hlt : k < ys.length
      · obtain ⟨b1, o1, rfl, hx⟩ := str_open (Kd.C_below HA.out HW.out) (by omega)
        obtain ⟨b2, o2, rfl, hy⟩ := str_open (Kd.C_below HB.out HW.out) (by omega)
        have hx1 := hx k (by omega)
        have hy1 := hy k hlt
        have hlt1 : k < xs.length := by omega
        have hlt2 : (k : Int) < ys.length := by omega
        have hlt3 : (k : Int) < xs.length := by omega
        have HTS := Aside0.mk (show xs[k] = ys[k] → xs.take (k + 1) = ys.take (k + 1) from fun h => by
          rw [List.take_succ_eq_append_getElem hlt1, List.take_succ_eq_append_getElem hlt, HT.out, h])
        have HNE := Aside0.mk (show xs[k] ≠ ys[k] → xs ≠ ys from fun h e => h (by simp [e]))
        clear hx hy
        generalize xs[k] = x at *
        generalize ys[k] = y at *
        by_cases hxy : x = y
        · have hd := HTS.out hxy
          have HT' := Aside0.mk hd
          have hbb : (!x.toList == y.toList) = false := by rw [hxy]; simp
          clear hxy hd
          go_wp2
          go_quiet (fail)
          have HW' := Aside0.mk (HW.out.trans ((Drawn0.below (Drawn0.step (Drawn0.refl wr) nq)).mono HW.out.size))
          generalize wr.drewN nq = w2 at *
          go_wp2
          go_roundw
          case rel => exact ⟨k + 1, by omega, by go_num, HT', HW'⟩
          case measure => simp [intOf]; omega
        · have hne := HNE.out hxy
          have HE := Aside0.mk (show decide (xs = ys) = false by simp [hne])
          have hbb : (!x.toList == y.toList) = true := by simpa using fun h => hxy (toList_inj h)
          clear hne hxy
          go_wp2
          go_quiet (fail)
          have HW' := Aside0.mk (HW.out.trans ((Drawn0.below (Drawn0.step (Drawn0.refl wr) nq)).mono HW.out.size))
          generalize wr.drewN nq = w2 at *
          go_wp2
          go_ret
          exact ⟨by rw [HE.out]; rfl, HW'.out⟩
      · obtain rfl : k = ys.length := by omega
        have he : xs = ys := by have := HT.out; rwa [← hlen, List.take_length, hlen, List.take_length] at this
        have HE := Aside0.mk (show decide (xs = ys) = true by simp [he])
        clear he
        go_wp2
        go_ret
        exact ⟨by rw [HE.out]; rfl, HW.out⟩
  · have hne : xs ≠ ys := fun h => hlen (by rw [h])
    have hb1 : ((xs.length : Int) != (ys.length : Int)) = true := bne_iff_ne.2 (by omega)
    go_enter Tryd.func15, Tryd.ntmps15
    go_wp2
    go_ret
    exact ⟨by simp [hne], Below.refl _ _⟩
set_option maxHeartbeats 1600000 in
set_option maxRecDepth 100000 in
theorem book_Same (A B : Option Addr) (ca cb : Nat) (xs ys : List UInt8) (w : World) (ha : u8.C w A xs.length xs) (hb : u8.C w B ys.length ys) :
    Calls Tryd.prog 32 #[.slice A xs.length ca, .slice B ys.length cb] w fun e w' => e = .returned (.bool (decide (xs = ys))) ∧ Below w.heap.size w w' := by
  have HA := Aside0.mk ha
  have HB := Aside0.mk hb
  have hla : xs.length ≤ 9223372036854775807 := by have := ha.2.1; omega
  clear ha hb
  by_cases hlen : xs.length = ys.length
  · have hb1 : ((xs.length : Int) != (ys.length : Int)) = false := by simp [hlen]
    go_enter Tryd.func32, Tryd.ntmps32
    go_wp2_with fail
    go_loopw [5] (fun v5 wr => ∃ (k : Nat), k ≤ ys.length ∧ v5 = .int .i64 k ∧ Aside0 (xs.take k = ys.take k) ∧ Aside0 (Below w.heap.size w wr)) (fun i _ => ys.length - (intOf i).toNat)
    case atStart => exact ⟨0, by omega, rfl, ⟨rfl⟩, ⟨Below.refl _ _⟩⟩
    case round =>
      obtain ⟨k, hk, rfl, HT, HW⟩ := hrel
      by_cases hlt : k < ys.length
      · obtain ⟨b1, o1, rfl, hx⟩ := u8_open (Kd.C_below HA.out HW.out) (by omega)
        obtain ⟨b2, o2, rfl, hy⟩ := u8_open (Kd.C_below HB.out HW.out) (by omega)
        have hx1 := hx k (by omega)
        have hy1 := hy k hlt
        have hlt1 : k < xs.length := by omega
        have hlt2 : (k : Int) < ys.length := by omega
        have hlt3 : (k : Int) < xs.length := by omega
        have HTS := Aside0.mk (show xs[k] = ys[k] → xs.take (k + 1) = ys.take (k + 1) from fun h => by
          rw [List.take_succ_eq_append_getElem hlt1, List.take_succ_eq_append_getElem hlt, HT.out, h])
        have HNE := Aside0.mk (show xs[k] ≠ ys[k] → xs ≠ ys from fun h e => h (by simp [e]))
        clear hx hy
        generalize xs[k] = x at *
        generalize ys[k] = y at *
        by_cases hxy : x = y
        · have hd := HTS.out hxy
          have HT' := Aside0.mk hd
          have hbb : ((x.toNat : Int) != (y.toNat : Int)) = false := by rw [hxy]; simp
          clear hxy hd
          go_wp2
          go_quiet (fail)
          have HW' := Aside0.mk (HW.out.trans ((Drawn0.below (Drawn0.step (Drawn0.refl wr) nq)).mono HW.out.size))
          generalize wr.drewN nq = w2 at *
          go_wp2
          go_roundw
          case rel => exact ⟨k + 1, by omega, by go_num, HT', HW'⟩
          case measure => simp [intOf]; omega
        · have hne := HNE.out hxy
          have HE := Aside0.mk (show decide (xs = ys) = false by simp [hne])
          have hbb : ((x.toNat : Int) != (y.toNat : Int)) = true := bne_iff_ne.2 (fun h => hxy (UInt8.toNat_inj.1 (by omega)))
          clear hne hxy
          go_wp2
          go_quiet (fail)
          have HW' := Aside0.mk (HW.out.trans ((Drawn0.below (Drawn0.step (Drawn0.refl wr) nq)).mono HW.out.size))
          generalize wr.drewN nq = w2 at *
          go_wp2
          go_ret
          exact ⟨by rw [HE.out]; rfl, HW'.out⟩
      · obtain rfl : k = ys.length := by omega
        have he : xs = ys := by have := HT.out; rwa [← hlen, List.take_length, hlen, List.take_length] at this
        have HE := Aside0.mk (show decide (xs = ys) = true by simp [he])
        clear he
        go_wp2
        go_ret
        exact ⟨by rw [HE.out]; rfl, HW.out⟩
  · have hne : xs ≠ ys := fun h => hlen (by rw [h])
    have hb1 : ((xs.length : Int) != (ys.length : Int)) = true := bne_iff_ne.2 (by omega)
    go_enter Tryd.func32, Tryd.ntmps32
    go_wp2
    go_ret
    exact ⟨by simp [hne], Below.refl _ _⟩

theorem tmod_within (n m : Int) (hm : 0 < m) : -m < n.tmod m ∧ n.tmod m < m ∧ (n.tmod m < 0 → n.tmod m + m = n % m) ∧ (0 ≤ n.tmod m → n.tmod m = n % m) := by
  have h1 := Int.emod_nonneg n (show m ≠ 0 by omega)
  have h2 := Int.emod_lt_of_pos n hm
  rw [Int.tmod_eq_emod]
  split
  · omega
  · rename_i h
    have : n % m ≠ 0 := fun h0 => h (.inr (Int.dvd_of_emod_eq_zero h0))
    omega
set_option maxHeartbeats 1600000 in
set_option maxRecDepth 100000 in
theorem book_Within (n hi : Int) (w : World) (hn : -9223372036854775808 ≤ n ∧ n ≤ 9223372036854775807) (h0 : 0 ≤ hi) (h1 : hi ≤ 1099511627776) :
    Calls Tryd.prog 11 #[.int .i64 n, .int .i64 0, .int .i64 hi] w fun e w' => e = .returned (.int .i64 (n % (hi + 1))) ∧ w = w' := by
  obtain ⟨ha, hb, hc, hd⟩ := tmod_within n (hi + 1) (by omega)
  have HC := Aside0.mk hc
  have HD := Aside0.mk hd
  clear hc hd
  go_enter Tryd.func11, Tryd.ntmps11
  go_wp2
  all_goals
    go_ret
    refine ⟨?_, rfl⟩
    have h3 := HC.out
    have h4 := HD.out
    clear HC HD
  · rw [show n % (hi + 1) = n.tmod (hi + 1) + hi + 1 by omega]; rfl
  · rw [show n % (hi + 1) = n.tmod (hi + 1) by omega]; rfl
set_option maxHeartbeats 1600000 in
set_option maxRecDepth 100000 in
theorem law_few (s : ByteArray) (w : World) : Calls Tryd.prog 21 #[.string s] w fun e w' => e = .returned (.string (if 100 < s.size then s.extract 0 100 else s)) ∧ w = w' := by
  go_enter Tryd.func21, Tryd.ntmps21
  go_wp2
  all_goals (go_ret; exact ⟨rfl, rfl⟩)
theorem made_bytes (n : Nat) : madeCells #[.int .u8 0] n = ((List.replicate n (0 : UInt8)).map encB).toArray := by
  apply Array.ext
  · simp [madeCells]
  · intro i h1 h2
    simp [madeCells, encB, Nat.mod_one]
set_option maxHeartbeats 1600000 in
set_option maxRecDepth 100000 in
theorem book_Roomy (A : Option Addr) (c : Nat) (l : List UInt8) (m : UInt8) (w : World) (h : u8.C w A l.length l) (hl : l.length ≤ 1073741824) (hc : l.length ≤ c) :
    Calls Tryd.prog 12 #[.slice A l.length c, .int .u8 m.toNat] w (Row 5 w (l ++ List.replicate 80 m)) := by
  have HC := Aside0.mk h
  have hmk := print_make_int (P := Tryd.prog) 23 5 (.int .u8 0) 1 Tryd.underlying23 info_u8 rfl (by omega) ((l.length : Int) + 80) (by omega) (by omega)
  rw [made_bytes, show ((l.length : Int) + 80).toNat = l.length + 80 by omega] at hmk
  have HR0 := Aside0.mk (R_lit w (List.replicate (l.length + 80) (0 : UInt8)) 5 (by simp; omega))
  rw [List.length_replicate] at HR0
  obtain ⟨k80, h80⟩ : ∃ k, k = List.replicate 80 m := ⟨_, rfl⟩
  rw [← h80]
  have H80 := Aside0.mk h80
  clear h h80
  generalize (List.map encB (List.replicate (l.length + 80) (0 : UInt8))).toArray = cs at *
  go_enter Tryd.func12, Tryd.ntmps12
  have hi1 : (Tryd.prog.info? 5).map (·.size) = some 1 := by kernel_rfl
  go_wp2_with ((refine Kd.R_copy (enc := fun b : UInt8 => Value.int .u8 (b.toNat : Int)) (h1 := fun _ => rfl) (w0 := w) 0 w.heap.size rfl (.tmp 11) (.tmp 12) 23 23 5 rfl Tryd.underlying23 hi1 (.slice (some ⟨w.heap.size, 0, none⟩) (l.length + 80) (l.length + 80)) (List.replicate (l.length + 80) (0 : UInt8)) l _ _ _ (fun _ => True) rfl rfl HR0.out (Kd.C_below HC.out (below_alloc (Below.refl _ _) _)) (below_alloc (Below.refl _ _) _) ?i2 ?_))
  case i2 => simp
  intro w1 hr1 hb1 hg1
  have hr2 : u8.R 5 w1 w.heap.size (fun _ => True) (.slice (some ⟨w.heap.size, 0, none⟩) (l.length + 80) (l.length + 80)) (l ++ List.replicate 0 m ++ List.replicate 80 0) := by
    have hr3 : u8.R 5 w1 w.heap.size (fun _ => True) (.slice (some ⟨w.heap.size, 0, none⟩) (l.length + 80) (l.length + 80)) _ := hr1
    simpa using hr3
  have R1 := Aside0.mk hr2
  have B1 := Aside0.mk hb1
  clear hr1 hb1 hg1 hmk HR0 hr2
  obtain ⟨g, hg⟩ : ∃ g, g = w.heap.size := ⟨_, rfl⟩
  rw [← hg] at R1 ⊢
  have HG := Aside0.mk hg
  clear hg
  go_wp2_with fail
  go_loopw [6] (fun v6 wr => ∃ (k : Nat), k ≤ 80 ∧ v6 = .int .i64 ((l.length : Int) + k) ∧ Aside0 (u8.R 5 wr g (fun _ => True) (.slice (some ⟨g, 0, none⟩) (l.length + 80) (l.length + 80)) (l ++ List.replicate k m ++ List.replicate (80 - k) 0)) ∧ Aside0 (Below g w wr)) (fun i _ => l.length + 80 - (intOf i).toNat)
  case atStart => exact ⟨0, by omega, by simp, R1, by rw [HG.out]; exact B1⟩
  case round =>
    obtain ⟨k, hk, rfl, HR, HB⟩ := hrel
    by_cases hlt : k < 80
    · have hln : (l ++ List.replicate k m ++ List.replicate (80 - k) 0).length = l.length + 80 := by simp; omega
      obtain ⟨g', c', hv, hv3, hv4, cur, hh, hcur⟩ := u8_row_open HR.out (by omega)
      clear hv3 hv4
      simp only [Value.slice.injEq, Option.some.injEq, Addr.mk.injEq, and_true] at hv
      obtain ⟨rfl, hv1, hv2⟩ := hv
      clear hv1 hv2
      have hcc := hcur (l.length + k) (by omega)
      have hx0 : wr.cell? ⟨g, l.length + k, none⟩ = some (encB ((l ++ List.replicate k m ++ List.replicate (80 - k) 0)[l.length + k]'(by omega))) := cell_of_heap hh hcc
      have hx1 : wr.frozen? ⟨g, l.length + k, none⟩ = false := frozen_of_heap hh
      have HR2 := Aside0.mk (u8_R_set HR.out (l.length + k) (by omega) m)
      have HZ := Aside0.mk (show (l ++ List.replicate k m ++ List.replicate (80 - k) 0).set (l.length + k) m = l ++ List.replicate (k + 1) m ++ List.replicate (80 - (k + 1)) 0 by
        rw [show 80 - k = (80 - (k + 1)) + 1 by omega, List.replicate_succ, List.append_assoc, List.set_append_right (l.length + k) m (by omega), Nat.add_sub_cancel_left, List.set_append_right k m (by simp), List.length_replicate, Nat.sub_self, List.set_cons_zero, List.replicate_succ', List.append_assoc, List.append_assoc]
        rfl)
      have hkk : ((l.length : Int) + k).toNat = l.length + k := by omega
      generalize encB ((l ++ List.replicate k m ++ List.replicate (80 - k) 0)[l.length + k]'(by omega)) = u at *
      clear hcur hcc hln hh
      have h1 : (l.length : Int) + k < l.length + 80 := by omega
      go_wp2
      go_roundw
      case rel => exact ⟨k + 1, by omega, by go_num, ⟨by rw [← HZ.out]; exact HR2.out⟩, ⟨HB.out.trans ((Keep.of_set wr ⟨g, l.length + k, none⟩ _).below (fun k hk => by rw [hk]; exact Nat.le_refl _) (by have := HB.out.size; have := HG.out; omega))⟩⟩
      case measure => simp [intOf]; omega
    · obtain rfl : k = 80 := by omega
      have HR2 := HR.out
      rw [← H80.out, Nat.sub_self, List.replicate_zero, List.append_nil] at HR2
      replace HR := Aside0.mk HR2
      clear HR2
      go_wp2
      go_ret
      refine ⟨.slice (some ⟨g, 0, none⟩) (l.length + 80) (l.length + 80), rfl, ?_, ?_⟩
      · have := HR.out; rw [← HG.out]; exact this
      · have := HB.out; rw [← HG.out]; exact this
end Go.Proofs.YthacnbbijmgjfaaDoor.Lib0

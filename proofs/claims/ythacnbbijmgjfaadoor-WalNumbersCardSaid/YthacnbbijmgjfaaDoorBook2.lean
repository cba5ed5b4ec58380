/- Helpers of the statements: Intact; the statements' own. -/
import Derived.Test.YthacnbbijmgjfaaDoorBook
set_option linter.unusedVariables false
set_option linter.unusedSimpArgs false
namespace Go.Proofs.YthacnbbijmgjfaaDoor.Lib0
open Go.RowKit Go.Proofs.YthacnbbijmgjfaaDoorW.PrintWords Go.ChangeMaps

theorem cell_below {B : Nat} {w w1 : World} (h : Below B w w1) {a : Addr} (ha : a.block < B) : w1.cell? a = w.cell? a := by
  unfold World.cell?
  rw [h.block a.block ha]
set_option maxHeartbeats 1600000 in
set_option maxRecDepth 100000 in
theorem book_Intact (A B : Option Addr) (ca cb : Nat) (xs : List UInt8) (m : UInt8) (w : World) (ha : u8.C w A (xs.length + 80) (xs ++ List.replicate 80 m)) (hb : u8.C w B xs.length xs) (hc : xs.length + 80 ≤ ca) (hl : xs.length ≤ 1099511627776) :
    Calls Tryd.prog 16 #[.slice A (xs.length + 80) ca, .slice B xs.length cb, .int .u8 m.toNat] w fun e w' => e = .returned (.bool true) ∧ Below w.heap.size w w' := by
  have HA := Aside0.mk ha
  have HB := Aside0.mk hb
  have htk := sl_take (P := Tryd.prog) u8 23 5 .i64 Tryd.underlying23 info_u8 rfl A (xs ++ List.replicate 80 m) ca xs.length (by omega) (by simp; omega) (by simp; omega)
  rw [Int.toNat_natCast, List.take_left, List.length_append, List.length_replicate] at htk
  obtain ⟨hs, hc2, hC⟩ := htk
  have HS := Aside0.mk (book_Same A B ca cb xs xs w (hC w ha) hb)
  have hd : decide (xs = xs) = true := by simp
  rw [hd] at HS
  have hbb : ((xs.length : Int) + 80 != (xs.length : Int) + 80) = false := by simp
  have hbc : ((m.toNat : Int) != (m.toNat : Int)) = false := by simp
  obtain ⟨b, o, hA, hcell⟩ := u8_open ha (by simp)
  have HCE := Aside0.mk (show ∀ k, xs.length ≤ k → k < xs.length + 80 → w.cell? ⟨b, o + k, none⟩ = some (.int .u8 m.toNat) from fun k h1 h2 => by
    have := hcell k (by simp; omega)
    rw [List.getElem_append_right h1, List.getElem_replicate] at this
    exact this)
  clear ha hb hC hc2 hd hcell
  have HBL := Aside0.mk (show b < w.heap.size from by
    have := HCE.out xs.length (Nat.le_refl _) (by omega)
    rcases Nat.lt_or_ge b w.heap.size with h | h
    · exact h
    · simp [World.cell?, Array.getElem?_eq_none h] at this)
  subst hA
  go_enter Tryd.func16, Tryd.ntmps16
  go_wp2_with fail
  refine HS.out.mono ?_
  rintro e w1 ⟨rfl, hb1⟩
  have B1 := Aside0.mk hb1
  clear hb1
  go_wp2_with fail
  go_loopw [7] (fun v7 wr => ∃ (k : Nat), xs.length ≤ k ∧ k ≤ xs.length + 80 ∧ v7 = .int .i64 k ∧ wr = w1) (fun i _ => xs.length + 80 - (intOf i).toNat)
  case atStart => exact ⟨xs.length, Nat.le_refl _, by omega, rfl, rfl⟩
  case round =>
    obtain ⟨k, hk, hk2, rfl, rfl⟩ := hrel
    by_cases hlt : k < xs.length + 80
    · have hx : wr.cell? ⟨b, o + k, none⟩ = some (.int .u8 m.toNat) := (cell_below B1.out HBL.out).trans (HCE.out k hk hlt)
      have h1 : (k : Int) < xs.length + 80 := by omega
      go_wp2
      go_roundw
      case rel => exact ⟨k + 1, by omega, by omega, by go_num, trivial⟩
      case measure => simp [intOf]; omega
    · obtain rfl : k = xs.length + 80 := by omega
      go_wp2
      go_ret
      exact ⟨rfl, B1.out⟩
end Go.Proofs.YthacnbbijmgjfaaDoor.Lib0

/- The log: what its functions do. -/
import Derived.Test.YthacnbbijmgjfaaDoorAll
import Derived.Test.YthacnbbijmgjfaaDoorDiskApp
import Derived.Lib.ConvBytes
set_option linter.unusedVariables false
set_option linter.unusedSimpArgs false
namespace Go.Proofs.YthacnbbijmgjfaaDoor.Lib0
open Go.RowKit Go.Proofs.YthacnbbijmgjfaaDoorW.PrintWords Go.ChangeMaps

set_option maxHeartbeats 1600000 in
set_option maxRecDepth 100000 in
theorem small_0 (w : World) : Calls Tryd.prog 59 #[.int .i64 0] w fun e w' => e = .returned (.string ⟨#[48]⟩) ∧ w = w' := by
  go_enter Tryd.func59, Tryd.ntmps59
  go_wp2
  go_ret
  exact ⟨rfl, rfl⟩
set_option maxHeartbeats 1600000 in
set_option maxRecDepth 100000 in
theorem formatInt_0 (w : World) : Calls Tryd.prog 58 #[.int .i64 0, .int .i64 10] w fun e w' => e = .returned (.string ⟨#[48]⟩) ∧ w = w' := by
  go_enter Tryd.func58, Tryd.ntmps58
  go_wp2_with (go_at_call 59; refine (small_0 _).mono ?_; rintro e w' ⟨rfl, rfl⟩)
  go_ret
  exact ⟨rfl, rfl⟩
set_option maxHeartbeats 1600000 in
set_option maxRecDepth 100000 in
theorem itoa_0' (w : World) : Calls Tryd.prog 56 #[.int .i64 0] w fun e w' => e = .returned (.string ⟨#[48]⟩) ∧ w = w' := by
  go_enter Tryd.func56, Tryd.ntmps56
  go_wp2_with (go_at_call 58; refine (formatInt_0 _).mono ?_; rintro e w' ⟨rfl, rfl⟩)
  go_ret
  exact ⟨rfl, rfl⟩
set_option maxHeartbeats 1600000 in
set_option maxRecDepth 100000 in
theorem itoa_0 (w : World) : Calls Tryd.prog 48 #[.int .i64 0] w fun e w' => e = .returned (.string ⟨#[48]⟩) ∧ w = w' := by
  go_enter Tryd.func48, Tryd.ntmps48
  go_wp2_with (go_at_call 56; refine (itoa_0' _).mono ?_; rintro e w' ⟨rfl, rfl⟩)
  go_ret
  exact ⟨rfl, rfl⟩

def cutName : Name := ⟨#[99, 117, 116, 46, 48]⟩
theorem cut_good : nameBad cutName = false := by decide
set_option maxHeartbeats 1600000 in
set_option maxRecDepth 100000 in
theorem wal_spare {w : World} {base d : Nat} {L : Lay} {D : ADisk} (h : DiskAt w base d L D) (hc : assoc D.dir cutName = none) :
    Calls Tryd.prog 33 #[dptr d] w fun e w' => e = .returned (.string cutName) ∧ Below w.heap.size w w' := by
  have HR := Aside0.mk (disk_Read h cutName)
  have hw : findWhy D cutName = 25 := by simp [findWhy, cut_good, hc]
  rw [hw] at HR
  clear hw hc
  unfold dptr at *
  unfold cutName at *
  go_enter Tryd.func33, Tryd.ntmps33
  go_wp2
  go_loopw [3] (fun v3 wr => v3 = .int .i64 0 ∧ wr = w) (fun _ _ => 1)
  case atStart => exact ⟨rfl, rfl⟩
  case round =>
    obtain ⟨rfl, rfl⟩ := hrel
    go_wp2_with (go_at_call 48; refine (itoa_0 _).mono ?_; rintro e w' ⟨rfl, rfl⟩)
    refine HR.out.mono ?_
    rintro e w1 ⟨v, rfl, hr, hb⟩
    obtain ⟨A, c, rfl, _, _⟩ := u8_R_len hr
    have HB := Aside0.mk hb
    clear hb hr
    go_wp2
    go_ret
    exact ⟨rfl, HB.out⟩
end Go.Proofs.YthacnbbijmgjfaaDoor.Lib0

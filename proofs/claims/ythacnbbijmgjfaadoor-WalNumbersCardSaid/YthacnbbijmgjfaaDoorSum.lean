/- sum.Crc and its twin of the references come to crc. -/
import Derived.Test.YthacnbbijmgjfaaDoorLib
set_option linter.unusedVariables false
set_option linter.unusedSimpArgs false
namespace Go.Proofs.YthacnbbijmgjfaaDoor.Lib0
open Go.RowKit Go.Proofs.YthacnbbijmgjfaaDoorW.PrintWords
attribute [local go_sem] u32_all

def crcBit (c : Int) : Int := if (Go.bits .and .u32 c 1) = 1 then Go.bits .xor .u32 (c / 2) 2197175160 else c / 2
def crcIter : Nat → Int → Int
  | 0, c => c
  | n + 1, c => crcIter n (crcBit c)
def crcFold : List UInt8 → Int → Int
  | [], c => c
  | b :: l, c => crcFold l (crcIter 8 (Go.bits .xor .u32 c (b.toNat : Int)))
def crc (l : List UInt8) : Int := Go.bits .xor .u32 4294967295 (crcFold l 4294967295)
theorem crcFold_snoc (l : List UInt8) (b : UInt8) (c : Int) : crcFold (l ++ [b]) c = crcIter 8 (Go.bits .xor .u32 (crcFold l c) (b.toNat : Int)) := by
  induction l generalizing c with
  | nil => rfl
  | cons x l ih => exact ih _
theorem crcIter_succ (n : Nat) (c : Int) : crcIter (n + 1) c = crcBit (crcIter n c) := by
  induction n generalizing c with
  | zero => rfl
  | succ n ih => exact ih _

set_option maxHeartbeats 800000 in
theorem sum_Crc (A : Option Addr) (c : Nat) (l : List UInt8) (w : World) (h : u8.C w A l.length l) :
    Calls Tryd.prog 50 #[.slice A l.length c] w fun e w' => e = .returned (.int .u32 (crc l)) ∧ w = w' := by
  have hn := u8_len h
  have HC := Aside0.mk h
  clear h
  go_enter Tryd.func50, Tryd.ntmps50
  go_wp2
  go_loop [3, 9] (fun v3 v9 => ∃ k : Nat, k ≤ l.length ∧ v9 = .int .i64 k ∧ v3 = .int .u32 (crcFold (l.take k) 4294967295)) (fun _ i => l.length - (intOf i).toNat)
  case atStart => exact ⟨0, by omega, rfl, rfl⟩
  case round =>
    obtain ⟨k, hk, rfl, rfl⟩ := hrel
    by_cases hlt : k < l.length
    · obtain ⟨ad, hA, hx⟩ := u8_at HC.out k hlt
      subst hA
      have HT := Aside0.mk (show crcFold (l.take (k+1)) 4294967295 = crcIter 8 (Go.bits .xor .u32 (crcFold (l.take k) 4294967295) (l[k].toNat : Int)) by
        rw [List.take_succ_eq_append_getElem hlt, crcFold_snoc])
      have hb : (l[k].toNat : Int) < 256 := by have := l[k].toNat_lt; omega
      have hb0 : 0 ≤ (l[k].toNat : Int) := by omega
      generalize (l[k].toNat : Int) = x at *
      generalize crcFold (l.take k) 4294967295 = c0 at *
      go_wp2
      go_loop [3, 17] (fun v3 v17 => ∃ j : Nat, j ≤ 8 ∧ v17 = .int .i64 j ∧ v3 = .int .u32 (crcIter j (Go.bits .xor .u32 c0 x))) (fun _ i => 8 - (intOf i).toNat)
      case atStart => exact ⟨0, by omega, rfl, by simp [crcIter]⟩
      case round =>
        obtain ⟨j, hj, rfl, rfl⟩ := hrel
        by_cases hlt2 : j < 8
        · have HS := Aside0.mk (crcIter_succ j (Go.bits .xor .u32 c0 x))
          generalize crcIter j (Go.bits .xor .u32 c0 x) = c1 at *
          by_cases hb1 : Go.bits .and .u32 c1 1 = 1
          · have hb2 : (Go.bits .and .u32 c1 1 == 1) = true := by simp [hb1]
            have HB := Aside0.mk hb1
            clear hb1
            go_wp2
            go_round
            case rel => exact ⟨j + 1, by omega, by go_num, by rw [HS.out, crcBit, if_pos HB.out]⟩
            case measure => simp [intOf]; omega
          · have hb2 : (Go.bits .and .u32 c1 1 == 1) = false := by simp [hb1]
            have HB := Aside0.mk hb1
            clear hb1
            go_wp2
            go_round
            case rel => exact ⟨j + 1, by omega, by go_num, by rw [HS.out, crcBit, if_neg HB.out]⟩
            case measure => simp [intOf]; omega
        · obtain rfl : j = 8 := by omega
          go_wp2
          go_round
          case rel => exact ⟨k + 1, by omega, by go_num, by rw [HT.out]⟩
          case measure => simp [intOf]; omega
    · obtain rfl : k = l.length := by omega
      go_wp2
      go_ret
      exact ⟨by simp [crc], rfl⟩
theorem bits_xor_comm (k : IntKind) (a b : Int) : Go.bits .xor k a b = Go.bits .xor k b a := by simp [Go.bits, BitVec.xor_comm]
set_option maxHeartbeats 800000 in
theorem ref_Crc (A : Option Addr) (c : Nat) (l : List UInt8) (w : World) (h : u8.C w A l.length l) :
    Calls Tryd.prog 45 #[.slice A l.length c] w fun e w' => e = .returned (.int .u32 (crc l)) ∧ w = w' := by
  have hn := u8_len h
  have HC := Aside0.mk h
  clear h
  go_enter Tryd.func45, Tryd.ntmps45
  go_wp2
  go_loop [3, 4] (fun v3 v9 => ∃ k : Nat, k ≤ l.length ∧ v9 = .int .i64 k ∧ v3 = .int .u32 (crcFold (l.take k) 4294967295)) (fun _ i => l.length - (intOf i).toNat)
  case atStart => exact ⟨0, by omega, rfl, rfl⟩
  case round =>
    obtain ⟨k, hk, rfl, rfl⟩ := hrel
    by_cases hlt : k < l.length
    · obtain ⟨ad, hA, hx⟩ := u8_at HC.out k hlt
      subst hA
      have HT := Aside0.mk (show crcFold (l.take (k+1)) 4294967295 = crcIter 8 (Go.bits .xor .u32 (crcFold (l.take k) 4294967295) (l[k].toNat : Int)) by
        rw [List.take_succ_eq_append_getElem hlt, crcFold_snoc])
      have hb : (l[k].toNat : Int) < 256 := by have := l[k].toNat_lt; omega
      have hb0 : 0 ≤ (l[k].toNat : Int) := by omega
      generalize (l[k].toNat : Int) = x at *
      generalize crcFold (l.take k) 4294967295 = c0 at *
      go_wp2
      go_loop [3, 5] (fun v3 v17 => ∃ j : Nat, j ≤ 8 ∧ v17 = .int .i64 j ∧ v3 = .int .u32 (crcIter j (Go.bits .xor .u32 c0 x))) (fun _ i => 8 - (intOf i).toNat)
      case atStart => exact ⟨0, by omega, rfl, by simp [crcIter]⟩
      case round =>
        obtain ⟨j, hj, rfl, rfl⟩ := hrel
        by_cases hlt2 : j < 8
        · have HS := Aside0.mk (crcIter_succ j (Go.bits .xor .u32 c0 x))
          generalize crcIter j (Go.bits .xor .u32 c0 x) = c1 at *
          by_cases hb1 : Go.bits .and .u32 c1 1 = 1
          · have hb2 : (Go.bits .and .u32 c1 1 == 1) = true := by simp [hb1]
            have HB := Aside0.mk hb1
            clear hb1
            go_wp2
            go_round
            case rel => exact ⟨j + 1, by omega, by go_num, by rw [HS.out, crcBit, if_pos HB.out]⟩
            case measure => simp [intOf]; omega
          · have hb2 : (Go.bits .and .u32 c1 1 == 1) = false := by simp [hb1]
            have HB := Aside0.mk hb1
            clear hb1
            go_wp2
            go_round
            case rel => exact ⟨j + 1, by omega, by go_num, by rw [HS.out, crcBit, if_neg HB.out]⟩
            case measure => simp [intOf]; omega
        · obtain rfl : j = 8 := by omega
          go_wp2
          go_round
          case rel => exact ⟨k + 1, by omega, by go_num, by rw [HT.out]⟩
          case measure => simp [intOf]; omega
    · obtain rfl : k = l.length := by omega
      go_wp2
      go_ret
      exact ⟨by rw [crc, bits_xor_comm]; simp, rfl⟩
end Go.Proofs.YthacnbbijmgjfaaDoor.Lib0

/- Plain law: a record of which a byte is turned, or that is cut off, is none. -/
import Derived.Test.YthacnbbijmgjfaaDoorRecs
set_option linter.unusedVariables false
set_option linter.unusedSimpArgs false
namespace Go.Proofs.YthacnbbijmgjfaaDoor.Lib0
open Go.RowKit Go.Proofs.YthacnbbijmgjfaaDoorW.PrintWords

theorem sealedL_recs_aux (l : List (List UInt8)) : (l.map sealB).flatten = recs l := rfl
/-- A record that is cut off. -/
theorem stops_cut (x : List UInt8) (hx : x.length ≤ 1048576) (n : Nat) (hn : n < (sealB x).length) : Stops ((sealB x).take n) := by
  refine .inr fun a h => ?_
  obtain ⟨t, h1, h2, h3⟩ := openL_ok _ _ h
  generalize (openL ((sealB x).take n) a).1 = y at *
  have hl := congrArg List.length h1
  rw [List.length_take, List.length_append, sealB_len', sealB_len'] at hl
  rw [sealB_len'] at hn
  -- the first four bytes tell the length
  have h4 : ∀ z : List UInt8, (sealB z).take 4 = le4 z.length := fun z => by simp [sealB, le4]
  have h5 := congrArg (List.take 4) h1
  rw [List.take_take, Nat.min_eq_left (by omega), h4, List.take_append_of_le_length (by rw [sealB_len']; omega), h4] at h5
  have h6 : x.length = y.length := by
    have e1 := un4_le4 x.length (by omega)
    have e2 := un4_le4 y.length (by omega)
    simp only [le4, List.cons.injEq] at h5
    obtain ⟨g1, g2, g3, g4, _⟩ := h5
    rw [← e1, ← e2, g1, g2, g3, g4]
  omega
/-- One step of the sum, over bits. -/
def crcV (v : BitVec 32) : BitVec 32 := if v.getLsbD 0 then (v >>> 1) ^^^ 2197175160#32 else v >>> 1
theorem crcV_top (v : BitVec 32) : (crcV v).getLsbD 31 = v.getLsbD 0 := by
  unfold crcV
  split
  · rename_i h
    rw [BitVec.getLsbD_xor, BitVec.getLsbD_ushiftRight, BitVec.getLsbD_of_ge v (1 + 31) (by omega), h]
    decide
  · rename_i h
    rw [BitVec.getLsbD_ushiftRight, BitVec.getLsbD_of_ge v (1 + 31) (by omega)]
    exact (by simpa using h : v.getLsbD 0 = false).symm
theorem crcV_inj {a b : BitVec 32} (h : crcV a = crcV b) : a = b := by
  have h0 : a.getLsbD 0 = b.getLsbD 0 := by rw [← crcV_top a, ← crcV_top b, h]
  have h1 : a >>> 1 = b >>> 1 := by
    unfold crcV at h
    rw [h0] at h
    split at h
    · exact (BitVec.xor_left_inj _).1 h
    · exact h
  apply BitVec.eq_of_getLsbD_eq
  intro i hi
  rcases i with _ | i
  · exact h0
  · have := congrArg (fun v => v.getLsbD i) h1
    simp only [BitVec.getLsbD_ushiftRight] at this
    rwa [Nat.add_comm] at this
def crcVs : Nat → BitVec 32 → BitVec 32
  | 0, v => v
  | n + 1, v => crcVs n (crcV v)
theorem crcVs_inj : ∀ (n : Nat) {a b : BitVec 32}, crcVs n a = crcVs n b → a = b
  | 0, _, _, h => h
  | n + 1, _, _, h => crcV_inj (crcVs_inj n h)
def crcVf : List UInt8 → BitVec 32 → BitVec 32
  | [], v => v
  | b :: l, v => crcVf l (crcVs 8 (v ^^^ BitVec.ofNat 32 b.toNat))
theorem crcVf_inj : ∀ (l : List UInt8) {a b : BitVec 32}, crcVf l a = crcVf l b → a = b
  | [], _, _, h => h
  | x :: l, _, _, h => (BitVec.xor_left_inj _).1 (crcVs_inj 8 (crcVf_inj l h))
theorem crcVf_append (l m : List UInt8) (v : BitVec 32) : crcVf (l ++ m) v = crcVf m (crcVf l v) := by
  induction l generalizing v with
  | nil => rfl
  | cons x l ih => exact ih _
theorem crcVf_turn (p q : List UInt8) (x y : UInt8) (v : BitVec 32) (h : crcVf (p ++ x :: q) v = crcVf (p ++ y :: q) v) : x = y := by
  rw [crcVf_append, crcVf_append] at h
  have h1 := crcVs_inj 8 (crcVf_inj q h)
  have h2 := (BitVec.xor_right_inj _).1 h1
  have h3 := congrArg BitVec.toNat h2
  rw [BitVec.toNat_ofNat, BitVec.toNat_ofNat] at h3
  have := x.toNat_lt
  have := y.toNat_lt
  exact UInt8.toNat_inj.1 (by omega)
theorem bits_xor_v (a b : BitVec 32) : Go.bits .xor .u32 (a.toNat : Int) (b.toNat : Int) = ((a ^^^ b).toNat : Int) := by
  unfold Go.bits
  simp only [IntKind.wrap_u32]
  show (((BitVec.ofInt 32 (a.toNat : Int) ^^^ BitVec.ofInt 32 (b.toNat : Int)).toNat : Nat) : Int) % 4294967296 = _
  rw [BitVec.ofInt_natCast, BitVec.ofInt_natCast, BitVec.ofNat_toNat, BitVec.ofNat_toNat, BitVec.setWidth_eq, BitVec.setWidth_eq]
  have := (a ^^^ b).isLt
  omega
theorem bits_and_1 (a : BitVec 32) : Go.bits .and .u32 (a.toNat : Int) 1 = ((a &&& 1#32).toNat : Int) := by
  unfold Go.bits
  simp only [IntKind.wrap_u32]
  show (((BitVec.ofInt 32 (a.toNat : Int) &&& BitVec.ofInt 32 1).toNat : Nat) : Int) % 4294967296 = _
  rw [BitVec.ofInt_natCast, BitVec.ofNat_toNat, BitVec.setWidth_eq, show BitVec.ofInt 32 1 = 1#32 from rfl]
  have := (a &&& 1#32).isLt
  omega
theorem crcBit_v (a : BitVec 32) : crcBit (a.toNat : Int) = ((crcV a).toNat : Int) := by
  have h1 : (a &&& 1#32).toNat = a.toNat % 2 := by rw [BitVec.toNat_and]; exact Nat.and_one_is_mod _
  have h2 : a.getLsbD 0 = decide (a.toNat % 2 = 1) := by rw [BitVec.getLsbD]; simp [Nat.testBit_zero]
  have h3 : (a.toNat : Int) / (2 : Int) = ((a >>> 1).toNat : Int) := by rw [BitVec.toNat_ushiftRight, Nat.shiftRight_eq_div_pow]; omega
  unfold crcBit crcV
  rw [bits_and_1, h1, h2, h3]
  by_cases h : a.toNat % 2 = 1
  · rw [if_pos (by omega), if_pos (by simpa using h)]
    exact bits_xor_v (a >>> 1) 2197175160#32
  · rw [if_neg (by omega), if_neg (by simpa using h)]
theorem crcIter_v : ∀ (n : Nat) (a : BitVec 32), crcIter n (a.toNat : Int) = ((crcVs n a).toNat : Int)
  | 0, _ => rfl
  | n + 1, a => by
    show crcIter n (crcBit _) = _
    rw [crcBit_v, crcIter_v n]
    rfl
theorem crcFold_v : ∀ (l : List UInt8) (a : BitVec 32), crcFold l (a.toNat : Int) = ((crcVf l a).toNat : Int)
  | [], _ => rfl
  | x :: l, a => by
    show crcFold l (crcIter 8 (Go.bits .xor .u32 _ _)) = _
    have hx := x.toNat_lt
    have : ((x.toNat : Nat) : Int) = ((BitVec.ofNat 32 x.toNat).toNat : Int) := by rw [BitVec.toNat_ofNat, Nat.mod_eq_of_lt (by omega)]
    rw [this, bits_xor_v, crcIter_v, crcFold_v l]
    rfl
theorem crc_v (l : List UInt8) : crc l = ((4294967295#32 ^^^ crcVf l 4294967295#32).toNat : Int) := by
  unfold crc
  have h := crcFold_v l 4294967295#32
  have e : ((4294967295#32).toNat : Int) = 4294967295 := rfl
  rw [e] at h
  rw [h, ← bits_xor_v, e]
/-- A byte of the content is turned: the sum is another. -/
theorem crc_turn (p q : List UInt8) (x y : UInt8) (h : crc (p ++ x :: q) = crc (p ++ y :: q)) : x = y := by
  rw [crc_v, crc_v] at h
  have h1 : (4294967295#32 ^^^ crcVf (p ++ x :: q) 4294967295#32) = (4294967295#32 ^^^ crcVf (p ++ y :: q) 4294967295#32) := BitVec.eq_of_toNat_eq (by omega)
  exact crcVf_turn p q x y _ ((BitVec.xor_right_inj _).1 h1)
theorem le4_inj {n m : Nat} (hn : n < 4294967296) (hm : m < 4294967296) (h : le4 n = le4 m) : n = m := by
  have e1 := un4_le4 n hn
  have e2 := un4_le4 m hm
  simp only [le4, List.cons.injEq] at h
  obtain ⟨g1, g2, g3, g4, _⟩ := h
  rw [← e1, ← e2, g1, g2, g3, g4]
theorem sealB_take4 (z : List UInt8) : (sealB z).take 4 = le4 z.length := by simp [sealB, le4]
theorem sealB_mid4 (z : List UInt8) : ((sealB z).drop 4).take 4 = le4 (4294967295 - z.length) := by simp [sealB, le4]
theorem sealB_body (z : List UInt8) : ((sealB z).drop 8).take z.length = z := by simp [sealB, le4]
theorem sealB_sum (z : List UInt8) : (sealB z).drop (8 + z.length) = le4 (crc z).toNat := by
  rw [← List.drop_drop]; simp [sealB, le4]
/-- A record of which one byte is another. -/
theorem stops_turn (x : List UInt8) (hx : x.length ≤ 1048576) (i : Nat) (hi : i < (sealB x).length) (y : UInt8) (hy : y ≠ (sealB x)[i]) (t : List UInt8) : Stops ((sealB x).set i y ++ t) := by
  refine .inr fun a h => ?_
  obtain ⟨t', h1, _, h3⟩ := openL_ok _ _ h
  generalize (openL ((sealB x).set i y ++ t) a).1 = z at *
  have hsl : ((sealB x).set i y).length = x.length + 12 := by rw [List.length_set, sealB_len']
  have hlen : x.length = z.length := by
    by_cases h4 : i < 4
    · have h5 := congrArg (fun l => (l.drop 4).take 4) h1
      simp only [List.drop_append_of_le_length (show 4 ≤ ((sealB x).set i y).length by omega), List.drop_append_of_le_length (show 4 ≤ (sealB z).length by rw [sealB_len']; omega)] at h5
      rw [List.take_append_of_le_length (by rw [List.length_drop]; omega), List.take_append_of_le_length (by rw [List.length_drop, sealB_len']; omega), List.drop_set_of_lt h4, sealB_mid4, sealB_mid4] at h5
      have := le4_inj (by omega) (by omega) h5
      omega
    · have h5 := congrArg (List.take 4) h1
      rw [List.take_append_of_le_length (by omega), List.take_append_of_le_length (by rw [sealB_len']; omega), List.take_set_of_le (by omega), sealB_take4, sealB_take4] at h5
      exact le4_inj (by omega) (by omega) h5
  have hz : (sealB x).set i y = sealB z := by
    have := congrArg (List.take (x.length + 12)) h1
    rwa [List.take_left' hsl, List.take_left' (by rw [sealB_len', hlen])] at this
  by_cases hc : 8 ≤ i ∧ i < 8 + x.length
  · obtain ⟨j, rfl⟩ : ∃ j, i = 8 + j := ⟨i - 8, by omega⟩
    have hj : j < x.length := by omega
    have hb : x.set j y = z := by
      have := congrArg (fun l => (l.drop 8).take z.length) hz
      simp only [sealB_body] at this
      rw [List.drop_set, if_neg (by omega), Nat.add_sub_cancel_left, List.take_set, ← hlen, sealB_body] at this
      exact this
    have hs : crc x = crc z := by
      have := congrArg (List.drop (8 + z.length)) hz
      rw [sealB_sum, List.drop_set_of_lt (by omega), ← hlen, sealB_sum] at this
      have h1 := crc_range x
      have h2 := crc_range z
      have := le4_inj (by omega) (by omega) this
      omega
    have hx1 : x = x.take j ++ x[j] :: x.drop (j + 1) := by rw [← List.drop_eq_getElem_cons hj, List.take_append_drop]
    have hx2 : x.set j y = x.take j ++ y :: x.drop (j + 1) := List.set_eq_take_append_cons_drop .. |>.trans (by rw [if_pos hj])
    rw [← hb, hx2] at hs
    have hs2 : crc (x.take j ++ x[j] :: x.drop (j + 1)) = crc (x.take j ++ y :: x.drop (j + 1)) := (congrArg crc hx1.symm).trans hs
    have he := crc_turn (x.take j) (x.drop (j + 1)) x[j] y hs2
    apply hy
    have hg : (sealB x)[8 + j]? = x[j]? := by
      have := congrArg (fun l => l[j]?) (sealB_body x)
      simp only [List.getElem?_take_of_lt hj, List.getElem?_drop] at this
      exact this
    rw [List.getElem?_eq_getElem hi, List.getElem?_eq_getElem hj] at hg
    injection hg with hg
    rw [hg, he]
  · have hb : x = z := by
      have := congrArg (fun l => (l.drop 8).take z.length) hz
      simp only [sealB_body] at this
      rw [List.drop_set] at this
      split at this
      · rw [← hlen, sealB_body] at this; exact this
      · rw [List.take_set_of_le (by omega), ← hlen, sealB_body] at this; exact this
    apply hy
    have := congrArg (fun l => l[i]?) hz
    simp only [← hb, List.getElem?_set_self hi, List.getElem?_eq_getElem hi] at this
    injection this
/-- A record that is cut off, the last byte that is left another. -/
theorem stops_cut_turn (x : List UInt8) (hx : x.length ≤ 1048576) (n : Nat) (hn : n < (sealB x).length) (y : UInt8) : Stops (((sealB x).take n).set (n - 1) y) := by
  refine .inr fun a h => ?_
  obtain ⟨t, h1, h2, h3⟩ := openL_ok _ _ h
  generalize (openL (((sealB x).take n).set (n - 1) y) a).1 = z at *
  have hl := congrArg List.length h1
  rw [List.length_set, List.length_take, List.length_append, sealB_len', sealB_len'] at hl
  rw [sealB_len'] at hn
  have h5 := congrArg (List.take 4) h1
  rw [List.take_set_of_le (by omega), List.take_take, Nat.min_eq_left (by omega), sealB_take4, List.take_append_of_le_length (by rw [sealB_len']; omega), sealB_take4] at h5
  have := le4_inj (by omega) (by omega) h5
  omega
end Go.Proofs.YthacnbbijmgjfaaDoor.Lib0

/- Plain law: what is read of records. -/
import Derived.Test.YthacnbbijmgjfaaDoorAll
set_option linter.unusedVariables false
set_option linter.unusedSimpArgs false
namespace Go.Proofs.YthacnbbijmgjfaaDoor.Lib0
open Go.RowKit Go.Proofs.YthacnbbijmgjfaaDoorW.PrintWords

theorem un4_le4 (n : Nat) (h : n < 4294967296) : un4 (UInt8.ofNat n) (UInt8.ofNat (n / 256)) (UInt8.ofNat (n / 65536)) (UInt8.ofNat (n / 16777216)) = n := by
  unfold un4
  simp only [UInt8.toNat_ofNat']
  omega
theorem openL_seal (x t : List UInt8) (a : Int) (hx : x.length ≤ 1048576) : openL (sealB x ++ t) a = (x, a + x.length + 12, 0) := by
  have hc := crc_range x
  have h1 : sealB x ++ t = UInt8.ofNat x.length :: UInt8.ofNat (x.length / 256) :: UInt8.ofNat (x.length / 65536) :: UInt8.ofNat (x.length / 16777216) ::
      UInt8.ofNat (4294967295 - x.length) :: UInt8.ofNat ((4294967295 - x.length) / 256) :: UInt8.ofNat ((4294967295 - x.length) / 65536) :: UInt8.ofNat ((4294967295 - x.length) / 16777216) ::
      (x ++ (UInt8.ofNat (crc x).toNat :: UInt8.ofNat ((crc x).toNat / 256) :: UInt8.ofNat ((crc x).toNat / 65536) :: UInt8.ofNat ((crc x).toNat / 16777216) :: t)) := by
    simp [sealB, le4]
  rw [h1, openL_eight, un4_le4 _ (by omega), un4_le4 _ (by omega)]
  rw [if_neg (by omega), if_neg (by omega), if_neg (by simp)]
  rw [List.drop_left, List.take_left]
  simp only []
  rw [un4_le4 _ (by omega), if_neg (by omega)]
def recs (l : List (List UInt8)) : List UInt8 := (l.map sealB).flatten
theorem recs_nil : recs [] = [] := rfl
theorem recs_cons (x : List UInt8) (l : List (List UInt8)) : recs (x :: l) = sealB x ++ recs l := by simp [recs]
theorem recs_append (l m : List (List UInt8)) : recs (l ++ m) = recs l ++ recs m := by simp [recs]
theorem sealB_len' (l : List UInt8) : (sealB l).length = l.length + 12 := by simp [sealB, le4]
theorem recs_len (l : List (List UInt8)) : l.length * 12 ≤ (recs l).length := by
  induction l with
  | nil => simp
  | cons x l ih => rw [recs_cons, List.length_append, sealB_len', List.length_cons]; omega
/-- Here reading ends. -/
def Stops (t : List UInt8) : Prop := t = [] ∨ ∀ a, (openL t a).2.2 ≠ 0
theorem allF_recs (l : List (List UInt8)) (hl : ∀ x ∈ l, x.length ≤ 1048576) : ∀ (k : Nat) (pre t : List UInt8), l.length < k → Stops t →
    (allF k (pre ++ recs l ++ t) pre.length).1 = l ∧ (allF k (pre ++ recs l ++ t) pre.length).2.1 = (pre ++ recs l).length := by
  induction l with
  | nil =>
    intro k pre t hk ht
    obtain ⟨k, rfl⟩ : ∃ j, k = j + 1 := ⟨k - 1, by simp at hk; omega⟩
    rw [recs_nil, List.append_nil]
    unfold allF
    by_cases hlt : (pre.length : Int) < (pre ++ t).length
    · rw [if_pos hlt]
      have h2 : (openB (pre ++ t) pre.length).2.2 ≠ 0 := by
        rcases ht with rfl | ht
        · simp at hlt
        · unfold openB
          rw [if_neg (by simp; omega), Int.toNat_natCast, List.drop_left]
          exact ht _
      rw [if_pos h2]
      exact ⟨rfl, rfl⟩
    · rw [if_neg hlt]
      exact ⟨rfl, rfl⟩
  | cons x l ih =>
    intro k pre t hk ht
    obtain ⟨k, rfl⟩ : ∃ j, k = j + 1 := ⟨k - 1, by simp at hk; omega⟩
    have hx := hl x (by simp)
    have ho : openB (pre ++ recs (x :: l) ++ t) pre.length = (x, (pre.length : Int) + x.length + 12, 0) := by
      unfold openB
      rw [if_neg (by simp; omega), Int.toNat_natCast, List.append_assoc, List.drop_left, recs_cons, List.append_assoc, openL_seal _ _ _ hx]
    unfold allF
    rw [ho, if_pos (by rw [recs_cons]; simp [sealB_len']; omega), if_neg (by simp)]
    have := ih (fun y hy => hl y (by simp [hy])) k (pre ++ sealB x) t (by simpa using hk) ht
    have e1 : ((pre ++ sealB x).length : Int) = (pre.length : Int) + x.length + 12 := by simp [sealB_len']; omega
    have e2 : pre ++ sealB x ++ recs l ++ t = pre ++ recs (x :: l) ++ t := by rw [recs_cons]; simp
    have e3 : pre ++ sealB x ++ recs l = pre ++ recs (x :: l) := by rw [recs_cons]; simp
    rw [e1, e2, e3] at this
    exact ⟨by rw [this.1], this.2⟩
theorem allB_recs (l : List (List UInt8)) (hl : ∀ x ∈ l, x.length ≤ 1048576) (t : List UInt8) (ht : Stops t) : (allB (recs l ++ t)).1 = l ∧ (allB (recs l ++ t)).2.1 = (recs l).length := by
  have h := allF_recs l hl ((recs l ++ t).length + 1) [] t (by have := recs_len l; rw [List.length_append]; omega) ht
  simpa [allB] using h
theorem allB_whole (l : List (List UInt8)) (hl : ∀ x ∈ l, x.length ≤ 1048576) : (allB (recs l)).1 = l ∧ (allB (recs l)).2.1 = (recs l).length := by
  have := allB_recs l hl [] (.inl rfl)
  simpa using this
/-- What is read are records; they stand at the beginning; behind them none stands. -/
theorem allF_is : ∀ (k : Nat) (b : List UInt8) (n : Nat), n ≤ b.length → b.length < n + k → ∃ t, b.drop n = recs (allF k b n).1 ++ t ∧ (allF k b n).2.1 = n + (recs (allF k b n).1).length ∧ (∀ x ∈ (allF k b n).1, x.length ≤ 1048576) ∧ Stops t
  | 0, b, n, hn, hk => by omega
  | k + 1, b, n, hn, hk => by
    unfold allF
    by_cases hlt : (n : Int) < b.length
    · rw [if_pos hlt]
      have hob : openB b n = openL (b.drop n) n := by unfold openB; rw [if_neg (by omega), Int.toNat_natCast]
      by_cases he : (openB b n).2.2 ≠ 0
      · rw [if_pos he]
        refine ⟨b.drop n, by simp [recs], by simp [recs], by simp, .inr fun a => ?_⟩
        rw [hob] at he
        intro h
        apply he
        obtain ⟨t, h1, h2, h3⟩ := openL_ok _ _ h
        rw [h1, openL_seal _ _ _ h3]
      · rw [if_neg he]
        have he' : (openL (b.drop n) n).2.2 = 0 := by rw [← hob]; simpa using he
        obtain ⟨t1, h1, h2, h3⟩ := openL_ok _ _ he'
        rw [hob]
        generalize openL (b.drop n) n = r at *
        obtain ⟨x, e, y⟩ := r
        simp only at h1 h2 h3 ⊢
        have hlen := congrArg List.length h1
        rw [List.length_drop, List.length_append, sealB_len'] at hlen
        have h4 : e = ((n + x.length + 12 : Nat) : Int) := by omega
        rw [h4]
        obtain ⟨t, g1, g2, g3, g4⟩ := allF_is k b (n + x.length + 12) (by omega) (by omega)
        have h5 : b.drop (n + x.length + 12) = t1 := by
          rw [show n + x.length + 12 = n + (sealB x).length by rw [sealB_len']; omega, ← List.drop_drop, h1, List.drop_left]
        rw [h5] at g1
        refine ⟨t, ?_, ?_, ?_, g4⟩
        · rw [h1, g1, recs_cons, List.append_assoc]
        · rw [g2, recs_cons, List.length_append, sealB_len']; omega
        · intro z hz
          rcases List.mem_cons.1 hz with rfl | hz
          · exact h3
          · exact g3 z hz
    · rw [if_neg hlt]
      refine ⟨b.drop n, by simp [recs], by simp [recs], by simp, .inl ?_⟩
      rw [List.drop_eq_nil_of_le (by omega)]
theorem allB_is (b : List UInt8) : ∃ t, b = recs (allB b).1 ++ t ∧ (allB b).2.1 = (recs (allB b).1).length ∧ (∀ x ∈ (allB b).1, x.length ≤ 1048576) ∧ Stops t := by
  have := allF_is (b.length + 1) b 0 (by omega) (by omega)
  simpa [allB] using this
end Go.Proofs.YthacnbbijmgjfaaDoor.Lib0

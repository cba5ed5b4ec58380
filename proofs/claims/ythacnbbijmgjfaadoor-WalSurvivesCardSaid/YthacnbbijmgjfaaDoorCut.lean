/- What a crash leaves of records. -/
import Derived.Test.YthacnbbijmgjfaaDoorAl
set_option linter.unusedVariables false
set_option linter.unusedSimpArgs false
namespace Go.Proofs.YthacnbbijmgjfaaDoor.Lib0
open Go.RowKit Go.Proofs.YthacnbbijmgjfaaDoorW.PrintWords Go.ChangeMaps

def CutOf (x : List UInt8) (t : List UInt8) : Prop := ∃ j, 0 < j ∧ j < (sealB x).length ∧ t = (sealB x).take j
theorem recs_cut : ∀ (X : List (List UInt8)) (n : Nat), n ≤ (recs X).length → ∃ m t, m ≤ X.length ∧ (recs X).take n = recs (X.take m) ++ t ∧ (m < X.length → n < (recs (X.take (m + 1))).length) ∧ (t = [] ∨ ∃ x ∈ X, CutOf x t)
  | [], n, hn => by
    refine ⟨0, [], by simp, ?_, by simp, .inl rfl⟩
    simp [recs]
  | x :: X, n, hn => by
    have e := recs_cons x X
    by_cases hlt : n < (sealB x).length
    · refine ⟨0, (sealB x).take n, by simp, ?_, fun _ => ?_, ?_⟩
      · rw [e, List.take_append_of_le_length (by omega)]
        simp [recs_nil]
      · simp only [Nat.zero_add, List.take_succ_cons, List.take_zero]
        rw [recs_cons, recs_nil, List.append_nil]
        exact hlt
      · by_cases h0 : n = 0
        · left; subst h0; rfl
        · exact .inr ⟨x, by simp, n, by omega, hlt, rfl⟩
    · have hn' : n - (sealB x).length ≤ (recs X).length := by
        rw [e, List.length_append] at hn
        omega
      obtain ⟨m, t, h1, h2, h3, h4⟩ := recs_cut X _ hn'
      refine ⟨m + 1, t, by simp; exact h1, ?_, fun hm => ?_, ?_⟩
      · rw [e, List.take_append, List.take_of_length_le (by omega), h2, List.take_succ_cons, recs_cons, List.append_assoc]
      · have := h3 (by simpa using hm)
        rw [List.take_succ_cons, recs_cons, List.length_append]
        omega
      · rcases h4 with h4 | ⟨y, hy, h4⟩
        · exact .inl h4
        · exact .inr ⟨y, by simp [hy], h4⟩
theorem recsA_cut (al : List ByteArray) (n : Nat) (hn : n ≤ (recsA al).length) : ∃ m t, m ≤ al.length ∧ (recsA al).take n = recsA (al.take m) ++ t ∧ (m < al.length → n < (recsA (al.take (m + 1))).length) ∧ (t = [] ∨ ∃ x ∈ al.map byt, CutOf x t) := by
  obtain ⟨m, t, h1, h2, h3, h4⟩ := recs_cut (al.map byt) n hn
  rw [List.length_map] at h1 h3
  rw [← List.map_take] at h2 h3
  exact ⟨m, t, h1, h2, h3, h4⟩
theorem crash_al {al : List ByteArray} (h : Small al) (hal : al.length ≤ 40) {sn : Nat} (hsn : sn ≤ al.length) {q : Nat} {b' : List UInt8} {s' : Nat} (hc : crashF ⟨recsA al, (recsA (al.take sn)).length⟩ q = ⟨b', s'⟩) :
    ∃ m t, sn ≤ m ∧ m ≤ al.length ∧ b' = recsA (al.take m) ++ t ∧ Stops t ∧ t.length ≤ 6000 := by
  have hs := recsA_take_mono al hsn
  rw [List.take_length] at hs
  have hbl := recsA_len h
  unfold crashF at hc
  simp only at hc
  have hr := Nat.mod_lt q (show 0 < (recsA al).length - (recsA (al.take sn)).length + 1 by omega)
  generalize q % ((recsA al).length - (recsA (al.take sn)).length + 1) = r at *
  obtain ⟨m, t, h1, h2, h3, h4⟩ := recsA_cut al ((recsA (al.take sn)).length + r) (by omega)
  have hlen := congrArg List.length h2
  rw [List.length_take, List.length_append, Nat.min_eq_left (by omega)] at hlen
  have hm : sn ≤ m := by
    by_cases hms : m < sn
    · have h5 := h3 (by omega)
      have h6 := recsA_take_mono al (show m + 1 ≤ sn by omega)
      omega
    · omega
  have hcut : ∀ y, CutOf y t → y ∈ al.map byt → Stops t := by
    rintro y ⟨j, h5, h6, rfl⟩ hy
    exact stops_cut y (h.big y hy) j h6
  split at hc
  · rename_i hpos
    injection hc with hc _
    rw [h2] at hc
    rcases h4 with h4 | ⟨y, hy, j, h5, h6, h7⟩
    · subst h4
      rw [List.append_nil] at hc
      rw [List.length_nil, Nat.add_zero] at hlen
      have hm2 : sn < m := by
        by_cases hmm : m ≤ sn
        · have := recsA_take_mono al hmm
          omega
        · omega
      have hk : (recsA (al.take sn)).length + r - 1 < (recsA (al.take m)).length := by omega
      obtain ⟨n, t2, g1, g2, g3, g4, g5⟩ := recsA_turn (h.take m) ((recsA (al.take sn)).length + r - 1) hk 85 (by decide)
      have g6 := turn_last (al := al.take m) (k := (recsA (al.take sn)).length + r - 1) (by omega) g1 g3
      have hml : (al.take m).length = m := by rw [List.length_take]; omega
      rw [hml] at g1 g6
      have e : turnB (recsA (al.take m)) ((recsA (al.take sn)).length + r - 1) 85 = recsA (al.take n) ++ t2 := by
        have g4' := g4
        rw [List.take_take, Nat.min_eq_left (by omega)] at g4'
        rw [← g4']
        simp [turnB, List.getD, List.getElem?_eq_getElem hk]
      rw [e] at hc
      refine ⟨n, t2, by omega, by omega, hc.symm, g5, ?_⟩
      have := congrArg List.length e
      rw [List.length_append] at this
      simp only [turnB, List.length_set] at this
      omega
    · subst h7
      have hjl : ((sealB y).take j).length = j := by rw [List.length_take]; omega
      rw [hjl] at hlen
      have hidx : (recsA (al.take sn)).length + r - 1 = (recsA (al.take m)).length + (j - 1) := by omega
      refine ⟨m, ((sealB y).take j).set (j - 1) ((recsA (al.take m) ++ (sealB y).take j).getD ((recsA (al.take sn)).length + r - 1) 0 ^^^ 85), hm, h1, ?_, ?_, ?_⟩
      · rw [← hc]
        unfold turnB
        rw [List.set_append_right _ _ (by omega)]
        congr 2
        omega
      · exact stops_cut_turn y (h.big y hy) j h6 _
      · rw [List.length_set, hjl]
        omega
  · injection hc with hc _
    rw [h2] at hc
    refine ⟨m, t, hm, h1, hc.symm, ?_, by omega⟩
    rcases h4 with h4 | ⟨y, hy, h5⟩
    · exact .inl h4
    · exact hcut y h5 hy
section
variable {w w' w1 : World} {base d : Nat} {b : List UInt8} {s : Nat} {q : Int} {al : List ByteArray}
theorem On.safe (h : On w base d b s q) : s ≤ b.length := by
  obtain ⟨L, D, h, ho, hq⟩ := h
  rcases ho.ph with ⟨_, _, _, hb, hs⟩ | ⟨f, h1, hf, h2⟩
  · omega
  · have := (h.ok.big f (.inl (by rw [h1]; simp [ids]))).2
    rw [hf] at this
    exact this
theorem on_Crash_al (hal : Small al) (hn : al.length ≤ 40) {sn : Nat} (hsn : sn ≤ al.length) (h : On w base d (recsA al) (recsA (al.take sn)).length q) (pick : Int) (hp : -9223372036854775808 ≤ pick ∧ pick ≤ 9223372036854775807) :
    Calls Tryd.prog 23 #[dptr d, .int .i64 pick] w fun e w' => e = .returned (.tuple #[]) ∧ (∃ m t s', sn ≤ m ∧ m ≤ al.length ∧ Stops t ∧ t.length ≤ 6000 ∧ On w' base d (recsA (al.take m) ++ t) s' (-1)) ∧ Kept base w w' := by
  refine (on_Crash h pick hp).mono ?_
  rintro e w' ⟨rfl, ⟨b', s', h1, h2⟩, hk⟩
  refine ⟨rfl, ?_, hk⟩
  rcases h2 with ⟨rfl, rfl, h2⟩ | ⟨q2, h2⟩
  · have h0 : sn = 0 := by
      by_cases h3 : 0 < sn
      · have := recsA_pos (al := al.take sn) (by rw [List.length_take]; omega)
        omega
      · omega
    refine ⟨0, [], 0, by omega, by omega, .inl rfl, by simp, ?_⟩
    rw [List.take_zero]
    exact h1
  · obtain ⟨m, t, g1, g2, rfl, g4, g5⟩ := crash_al hal hn hsn h2
    exact ⟨m, t, s', g1, g2, g4, g5, h1⟩
end
end Go.Proofs.YthacnbbijmgjfaaDoor.Lib0

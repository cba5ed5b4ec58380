/- A log's records as texts. -/
import Derived.Test.YthacnbbijmgjfaaDoorOn
set_option linter.unusedVariables false
set_option linter.unusedSimpArgs false
namespace Go.Proofs.YthacnbbijmgjfaaDoor.Lib0
open Go.RowKit Go.Proofs.YthacnbbijmgjfaaDoorW.PrintWords Go.ChangeMaps

def recsA (al : List ByteArray) : List UInt8 := recs (al.map byt)
def Small (al : List ByteArray) : Prop := ∀ s ∈ al, s.size ≤ 100
theorem recsA_nil : recsA [] = [] := rfl
theorem recsA_snoc (al : List ByteArray) (m : ByteArray) : recsA al ++ sealB (byt m) = recsA (al ++ [m]) := by
  unfold recsA
  rw [List.map_append, recs_append]
  simp [recs]
theorem recsA_append (al bl : List ByteArray) : recsA (al ++ bl) = recsA al ++ recsA bl := by
  unfold recsA
  rw [List.map_append, recs_append]
theorem map_str_byt (al : List ByteArray) : (al.map byt).map str = al := by
  rw [List.map_map]
  conv => rhs; rw [← List.map_id al]
  exact List.map_congr_left (fun s _ => str_byt s)
theorem Small.big {al : List ByteArray} (h : Small al) : ∀ x ∈ al.map byt, x.length ≤ 1048576 := by
  intro x hx
  obtain ⟨s, hs, rfl⟩ := List.mem_map.1 hx
  rw [byt_length]
  have := h s hs
  omega
theorem Small.snoc {al : List ByteArray} (h : Small al) {m : ByteArray} (hm : m.size ≤ 100) : Small (al ++ [m]) := by
  intro s hs
  rcases List.mem_append.1 hs with hs | hs
  · exact h s hs
  · rw [List.mem_singleton.1 hs]; exact hm
theorem Small.take {al : List ByteArray} (h : Small al) (n : Nat) : Small (al.take n) := fun s hs => h s (List.mem_of_mem_take hs)
theorem small_few (l : List ByteArray) : Small (l.map fewS) := by
  intro s hs
  obtain ⟨t, _, rfl⟩ := List.mem_map.1 hs
  exact fewS_size t
theorem recsA_len : ∀ {al : List ByteArray}, Small al → (recsA al).length ≤ 112 * al.length
  | [], _ => by simp [recsA, recs]
  | s :: al, h => by
    have ih := recsA_len (al := al) (fun x hx => h x (by simp [hx]))
    have hs := h s (by simp)
    have e : recsA (s :: al) = sealB (byt s) ++ recsA al := by simp [recsA, recs]
    rw [e, List.length_append, sealB_len', byt_length, List.length_cons]
    omega
theorem recsA_le {al : List ByteArray} (h : Small al) {n : Nat} (hn : al.length ≤ n) (hn2 : n ≤ 40) : (recsA al).length ≤ 5000 := by
  have := recsA_len h
  omega
theorem recsA_pos {al : List ByteArray} (h : 0 < al.length) : 12 ≤ (recsA al).length := by
  have := recs_len (al.map byt)
  rw [List.length_map] at this
  unfold recsA
  omega
/-- A record of which a byte is turned ends reading. -/
theorem recs_turn : ∀ (X : List (List UInt8)), (∀ x ∈ X, x.length ≤ 1048576) → ∀ (k : Nat) (hk : k < (recs X).length) (y : UInt8), y ≠ (recs X)[k] → ∃ n t, n < X.length ∧ (recs (X.take n)).length ≤ k ∧ k < (recs (X.take (n + 1))).length ∧ (recs X).set k y = recs (X.take n) ++ t ∧ Stops t
  | [], _, k, hk, _, _ => by simp [recs] at hk
  | x :: X, hX, k, hk, y, hy => by
    have e := recs_cons x X
    by_cases hlt : k < (sealB x).length
    · refine ⟨0, (sealB x).set k y ++ recs X, by simp, by simp [recs], ?_, ?_, ?_⟩
      · simp only [Nat.zero_add, List.take_succ_cons, List.take_zero]
        rw [recs_cons]
        simp only [recs_nil, List.append_nil]
        exact hlt
      · rw [e, List.set_append_left _ _ hlt]
        simp [recs_nil]
      · refine stops_turn x (hX x (by simp)) k hlt y ?_ _
        intro h
        apply hy
        simp only [e]
        rw [List.getElem_append_left hlt]
        exact h
    · have hk' : k - (sealB x).length < (recs X).length := by
        rw [e, List.length_append] at hk
        omega
      have hy' : y ≠ (recs X)[k - (sealB x).length] := by
        intro h
        apply hy
        simp only [e]
        rw [List.getElem_append_right (by omega)]
        exact h
      obtain ⟨n, t, h1, h2, h3, h4, h5⟩ := recs_turn X (fun z hz => hX z (by simp [hz])) _ hk' y hy'
      refine ⟨n + 1, t, by simp; exact h1, ?_, ?_, ?_, h5⟩
      · rw [List.take_succ_cons, recs_cons, List.length_append]
        omega
      · rw [List.take_succ_cons, recs_cons, List.length_append]
        omega
      · rw [e, List.set_append_right _ _ (by omega), h4, List.take_succ_cons, recs_cons, List.append_assoc]
theorem recsA_turn {al : List ByteArray} (h : Small al) (k : Nat) (hk : k < (recsA al).length) (x : UInt8) (hx : x ≠ 0) : ∃ n t, n < al.length ∧ (recsA (al.take n)).length ≤ k ∧ k < (recsA (al.take (n + 1))).length ∧ (recsA al).set k ((recsA al)[k] ^^^ x) = recsA (al.take n) ++ t ∧ Stops t := by
  have hne : ((recsA al)[k] ^^^ x) ≠ (recsA al)[k] := by
    intro he
    apply hx
    generalize (recsA al)[k] = b at he
    have h2 : b.toBitVec ^^^ x.toBitVec = b.toBitVec := by
      have := congrArg UInt8.toBitVec he
      simpa using this
    have h3 : x.toBitVec = 0#8 := by
      have := congrArg (fun z => b.toBitVec ^^^ z) h2
      simp only [← BitVec.xor_assoc, BitVec.xor_self, BitVec.zero_xor] at this
      exact this
    exact UInt8.toBitVec_inj.1 (by rw [h3]; rfl)
  obtain ⟨n, t, h1, h2, h3, h4, h5⟩ := recs_turn (al.map byt) h.big k hk _ hne
  rw [List.length_map] at h1
  rw [← List.map_take] at h2 h3 h4
  exact ⟨n, t, h1, h2, h3, h4, h5⟩
theorem recsA_take_mono (al : List ByteArray) {i j : Nat} (h : i ≤ j) : (recsA (al.take i)).length ≤ (recsA (al.take j)).length := by
  have e : al.take j = al.take i ++ (al.take j).drop i := by
    conv => lhs; rw [← List.take_append_drop i (al.take j)]
    rw [List.take_take, Nat.min_eq_left h]
  rw [e, recsA_append, List.length_append]
  omega
theorem recsA_take_lt (al : List ByteArray) {i : Nat} (h : i < al.length) : (recsA (al.take i)).length + 12 ≤ (recsA (al.take (i + 1))).length := by
  rw [List.take_succ_eq_append_getElem h, recsA_append, List.length_append]
  have := recsA_pos (al := [al[i]]) (by simp)
  omega
/-- The last byte lies in the last record. -/
theorem turn_last {al : List ByteArray} {n k : Nat} (h0 : (recsA al).length = k + 1) (h1 : n < al.length) (h3 : k < (recsA (al.take (n + 1))).length) : n = al.length - 1 := by
  by_cases h : n + 1 < al.length
  · have h4 := recsA_take_lt al h
    have h5 := recsA_take_mono al (show n + 1 + 1 ≤ al.length by omega)
    rw [List.take_length] at h5
    omega
  · omega
section
variable {w w' w1 : World} {base d : Nat} {s : Nat} {q : Int} {al : List ByteArray}
theorem on_Open_al (hal : Small al) (hn : al.length ≤ 40) (t : List UInt8) (ht : Stops t) (h : On w base d (recsA al ++ t) s (-1)) (hb : t.length ≤ 6000) :
    Calls Tryd.prog 19 #[dptr d, .string logN] w (Opened w base d al (recsA al)) := by
  have := on_Open_recs (al.map byt) hal.big t ht h (by have := recsA_len hal; unfold recsA at this; rw [List.length_append]; omega)
  rwa [map_str_byt] at this
theorem on_Open_whole (hal : Small al) (hn : al.length ≤ 40) (h : On w base d (recsA al) s (-1)) :
    Calls Tryd.prog 19 #[dptr d, .string logN] w (Opened w base d al (recsA al)) :=
  on_Open_al hal hn [] (.inl rfl) (by rwa [List.append_nil]) (by simp)
theorem on_Append_al (hal : Small al) (hn : al.length ≤ 40) (h : On w base d (recsA al) s (-1)) {lg : Nat} (hl : LogAt w lg d logN) (rec : Name) (hr : rec.size ≤ 100) :
    Calls Tryd.prog 20 #[lptr lg, .string rec] w fun e w' => e = .returned (.int .i64 0) ∧ On w' base d (recsA (al ++ [rec])) s (-1) ∧ Kept base w w' := by
  have := on_Append h hl rec (by omega) (by have := recsA_len hal; omega)
  rwa [recsA_snoc] at this
end
/-- Cells of a row of scalars, as the walk spells them. -/
theorem sc_open {α : Type} {enc : α → Value} {h1 : ∀ x, (enc x).oneCell' = true} {w : World} {A : Option Addr} {n : Nat} {l : List α} (h : (Kd.scalar enc h1).C w A n l) (hn : 0 < l.length) :
    ∃ b o, A = some ⟨b, o, none⟩ ∧ ∀ k (hk : k < l.length), w.cell? ⟨b, o + k, none⟩ = some (enc l[k]) := by
  obtain ⟨ad, rfl, hc⟩ := h.2.2 (by have := h.1; omega)
  have hx : ∀ k (hk : k < l.length), w.cell? (ad.add k) = some (enc l[k]) := fun k hk => by
    obtain ⟨c, hl, hk', hcell⟩ := hc k _ (List.getElem?_eq_getElem hk)
    have hk2 : c = [enc l[k]] := hk'
    subst hk2
    have := hcell 0 _ rfl
    have e1 : k * (Kd.scalar enc h1).sz + 0 = k := by show k * 1 + 0 = k; omega
    rwa [e1] at this
  have hs : ad.spot = none := by
    have e0 : ad.add 0 = ad := by simp [Addr.add]
    have := hx 0 hn
    rw [e0] at this
    exact cell_plain this
  obtain ⟨b, o, sp⟩ := ad
  simp only at hs
  subst hs
  refine ⟨b, o, rfl, fun k hk => ?_⟩
  have e1 : (⟨b, o, none⟩ : Addr).add k = ⟨b, o + k, none⟩ := by unfold Addr.add; split <;> simp_all
  have := hx k hk
  rwa [e1] at this
theorem str_C_of {e : Nat} {w : World} {base n c : Nat} {A : Option Addr} {l : List ByteArray} (h : Kd.string.R e w base (fun _ => True) (.slice A n c) l) : Kd.string.C w A l.length l := by
  obtain ⟨A', c', hv, _, hC⟩ := Kd.R_reads h
  cases hv
  exact hC
theorem law_few' (s : ByteArray) (w : World) : Calls Tryd.prog 21 #[.string s] w fun e w' => e = .returned (.string (fewS s)) ∧ w = w' := law_few s w
end Go.Proofs.YthacnbbijmgjfaaDoor.Lib0

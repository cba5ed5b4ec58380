/- A log on a disk that holds it alone: Open, Append. -/
import Derived.Test.YthacnbbijmgjfaaDoorOne
import Derived.Test.YthacnbbijmgjfaaDoorRecs
set_option linter.unusedVariables false
set_option linter.unusedSimpArgs false
namespace Go.Proofs.YthacnbbijmgjfaaDoor.Lib0
open Go.RowKit Go.Proofs.YthacnbbijmgjfaaDoorW.PrintWords Go.ChangeMaps

def AppOne (w : World) (base d : Nat) (L : Lay) (D : ADisk) (b : List UInt8) (s : Nat) (e : Ending) (w' : World) : Prop :=
  ∃ L' D', e = .returned (.int .i64 0) ∧ DStep w base d L D w' L' D' ∧ One D' b s ∧ D'.quota = -1
def OpenOne (w : World) (base d : Nat) (L : Lay) (D : ADisk) (r : List ByteArray) (b : List UInt8) (e : Ending) (w' : World) : Prop :=
  ∃ lg A c L' D' s, e = .returned (.tuple #[lptr lg, .slice A r.length c, .int .i64 0]) ∧ Kd.string.C w' A r.length r ∧ DStep w base d L D w' L' D' ∧ LogAt w' lg d logN ∧ w.heap.size ≤ lg ∧ One D' b s ∧ D'.quota = -1
section
variable {w : World} {base d : Nat} {L : Lay} {D : ADisk} {b : List UInt8} {s : Nat}
theorem app_one (ho : One D b s) (hq : D.quota = -1) {z : List UInt8} (hl : b.length + z.length ≤ 16777216) {e : Ending} {w' : World} (ha : AppPost w base d L D logN z e w') : AppOne w base d L D (b ++ z) s e w' := by
  obtain ⟨L', D', g, h1, h2, h3, h4⟩ := ha
  have hw : appWhy D logN z.length = 0 := by rw [ho.why log_good, if_neg (by omega)]
  rw [hw] at h1 h3
  rw [if_pos rfl] at h3
  subst h3
  refine ⟨L', _, h1, h2, ho.app z h4, ?_⟩
  unfold appD
  split <;> simp [appQ, hq]
theorem log_app (h : DiskAt w base d L D) (ho : One D b s) (hq : D.quota = -1) {lg : Nat} (hl : LogAt w lg d logN) (rec : Name) (hr : rec.size ≤ 65536) (hb : b.length + 65548 ≤ 16777216) :
    Calls Tryd.prog 20 #[lptr lg, .string rec] w (AppOne w base d L D (b ++ sealB (byt rec)) s) :=
  (log_Append h hl rec hr (by have := ho.chg; omega)).mono fun e w' ha => app_one ho hq (by rw [sealB_len', byt_length]; omega) ha
theorem open_one (h : DiskAt w base d L D) (ho : One D b s) (hq : D.quota = -1) (hb : b.length ≤ 8000000) :
    Calls Tryd.prog 19 #[dptr d, .string logN] w (OpenOne w base d L D ((allB b).1.map str) (b.take (allB b).2.1.toNat)) := by
  have fin : ∀ (P : ADisk → Prop) (r : List ByteArray) (b' : List UInt8), (∀ D', P D' → ∃ s, One D' b' s ∧ D'.quota = -1) → ∀ e w', OpenPost w base d L D logN r P e w' → OpenOne w base d L D r b' e w' := by
    rintro P r b' hP e w' ⟨lg, v, L', D', rfl, hr, hs, hlg, hge, hp⟩
    obtain ⟨s', h1, h2⟩ := hP D' hp
    obtain ⟨A, c, rfl, _, hC⟩ := Kd.R_reads hr
    exact ⟨lg, A, c, L', D', s', rfl, hC, hs, hlg, hge, h1, h2⟩
  obtain ⟨t, hb1, hb2, hb3, hb4⟩ := allB_is b
  have hread := ho.read
  have hlen : (recs (allB b).1).length ≤ b.length := by have := congrArg List.length hb1; rw [List.length_append] at this; omega
  rcases ho.look with ⟨h1, rfl⟩ | h1
  · refine (open_none h log_good h1).mono (fin _ _ _ ?_)
    rintro D' rfl
    exact ⟨s, by simpa using ho, hq⟩
  · by_cases hw : (allB b).2.1 < b.length
    · have := open_cut h log_good h1 (by rw [hread]; exact hw) (by rw [hread, hb2]; omega) (by rw [hread]; omega) ho.cut (by have := ho.chg; omega) (by rw [hread, ho.why cut_good, if_neg (by omega)])
      rw [hread] at this
      refine this.mono (fin _ _ _ ?_)
      rintro D' ⟨g, hg, rfl⟩
      refine ⟨_, ho.cutd h1 _ hg, ?_⟩
      have : ∀ (X : ADisk), (renD' X cutName logN).quota = X.quota := fun X => by unfold renD'; split <;> rfl
      have h3 : ∀ (X : ADisk), (syncD X cutName).quota = X.quota := fun X => by unfold syncD; split <;> rfl
      show (renD' _ cutName logN).quota = -1
      rw [this, h3]
      unfold appD
      split <;> simp [appQ, hq]
    · have := open_file h log_good h1 (by rw [hread]; exact hw) (by rw [hread]; omega)
      rw [hread] at this
      refine this.mono (fin _ _ _ ?_)
      rintro D' rfl
      exact ⟨s, by rw [List.take_of_length_le (by omega)]; exact ho, hq⟩
end
end Go.Proofs.YthacnbbijmgjfaaDoor.Lib0

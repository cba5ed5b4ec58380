/- A disk that holds one log. -/
import Derived.Test.YthacnbbijmgjfaaDoorLaw
import Derived.Test.YthacnbbijmgjfaaDoorDiskCrash
set_option linter.unusedVariables false
set_option linter.unusedSimpArgs false
namespace Go.Proofs.YthacnbbijmgjfaaDoor.Lib0
open Go.RowKit Go.Proofs.YthacnbbijmgjfaaDoorW.PrintWords Go.ChangeMaps

def logN : Name := ⟨#[108, 111, 103]⟩
theorem log_good : nameBad logN = false := by decide
theorem log_ne : ¬ logN = cutName := by decide
theorem cut_ne : ¬ cutName = logN := by decide
/-- The disk holds the log alone, or nothing: its bytes, and how many of them are safe. -/
structure One (D : ADisk) (b : List UInt8) (s : Nat) : Prop where
  ph : (D.dir = [] ∧ D.sdir = [] ∧ D.chg = [] ∧ b = [] ∧ s = 0) ∨ ∃ f, D.dir = [(logN, f)] ∧ D.file f = ⟨b, s⟩ ∧ ((D.sdir = [] ∧ D.chg = [madeC logN f] ∧ s = 0) ∨ (D.sdir = [(logN, f)] ∧ D.chg = []))
  sane : D.sane = true
section
variable {D : ADisk} {b : List UInt8} {s : Nat}
theorem one_new : One newD [] 0 := ⟨.inl ⟨rfl, rfl, rfl, rfl, rfl⟩, rfl⟩
theorem One.chg (h : One D b s) : D.chg.length ≤ 1 := by
  rcases h.ph with ⟨_, _, h, _⟩ | ⟨f, _, _, ⟨_, h, _⟩ | ⟨_, h⟩⟩ <;> simp [h]
theorem One.cut (h : One D b s) : assoc D.dir cutName = none := by
  rcases h.ph with ⟨h, _⟩ | ⟨f, h, _⟩ <;> rw [h]
  · rfl
  · simp [assoc, cut_ne]
theorem One.read (h : One D b s) : readB D logN = b := by
  rcases h.ph with ⟨h, _, _, hb, _⟩ | ⟨f, h, hf, _⟩
  · simp [readB, findP, log_good, h, assoc, hb]
  · simp [readB, findP, log_good, h, assoc, hf]
theorem One.look (h : One D b s) : (assoc D.dir logN = none ∧ b = []) ∨ assoc D.dir logN ≠ none := by
  rcases h.ph with ⟨h, _, _, hb, _⟩ | ⟨f, h, hf, _⟩
  · exact .inl ⟨by rw [h]; rfl, hb⟩
  · exact .inr (by rw [h]; simp [assoc])
theorem One.total (h : One D b s) : total D = b.length := by
  rcases h.ph with ⟨h, _, _, hb, _⟩ | ⟨f, h, hf, _⟩
  · simp [Lib0.total, sumL, h, hb]
  · simp [Lib0.total, sumL, h, hf]
theorem One.dlen (h : One D b s) : D.dir.length ≤ 1 := by
  rcases h.ph with ⟨h, _⟩ | ⟨f, h, _⟩ <;> simp [h]
theorem One.why (h : One D b s) {t : Name} (ht : nameBad t = false) (n : Nat) : appWhy D t n = if 16777216 < b.length + n ∨ (0 ≤ D.quota ∧ D.quota < n) then 13 else 0 := by
  have := h.dlen
  unfold appWhy
  rw [ht, h.total, if_neg (by simp), if_neg (by omega)]
theorem One.app (h : One D b s) (z : List UInt8) {g : Nat} (hg : ¬ live D g) : One (appD D logN z g) (b ++ z) s := by
  rcases h.ph with ⟨h1, h2, h3, hb, hs⟩ | ⟨f, h1, hf, h2⟩
  · refine ⟨.inr ⟨g, ?_⟩, ?_⟩
    · have ha : assoc D.dir logN = none := by rw [h1]; rfl
      simp [appD, h1, assoc, putD, updN_same, hb, hs, h2, h3]
    · simp [appD, h1, assoc, h.sane]
  · refine ⟨.inr ⟨f, ?_⟩, ?_⟩
    · simp [appD, h1, assoc, updN_same, hf, h2]
    · simp [appD, h1, assoc, h.sane]
theorem One.quota (h : One D b s) (q : Int) : One { D with quota := q } b s := ⟨h.ph, h.sane⟩
theorem One.sync (h : One D b s) : One (syncDirD (syncD D logN)) b b.length := by
  rcases h.ph with ⟨h1, h2, h3, hb, hs⟩ | ⟨f, h1, hf, h2⟩
  · refine ⟨.inl ?_, ?_⟩
    · simp [syncDirD, syncD, findP, log_good, h1, assoc, hb]
    · simp [syncDirD, syncD, findP, log_good, h1, assoc, h.sane]
  · refine ⟨.inr ⟨f, ?_⟩, ?_⟩
    · simp [syncDirD, syncD, findP, log_good, h1, assoc, hf, updN_same]
    · simp [syncDirD, syncD, findP, log_good, h1, assoc, h.sane]
theorem One.cutd (h : One D b s) (ha : assoc D.dir logN ≠ none) (n : Nat) {g : Nat} (hg : ¬ live D g) : One (cutD D logN n g) (b.take n) (b.take n).length := by
  rcases h.ph with ⟨h1, h2, h3, hb, hs⟩ | ⟨f, h1, hf, h2⟩
  · rw [h1] at ha; exact absurd rfl ha
  · have hr := h.read
    refine ⟨.inr ⟨g, ?_⟩, ?_⟩
    · simp [cutD, hr, appD, h1, assoc, cut_ne, log_ne, syncD, findP, cut_good, putD, renD', renWhy, findWhy, log_good, renD, syncDirD, doD, renC, delD, updN_same]
    · simp [cutD, hr, appD, h1, assoc, cut_ne, log_ne, syncD, findP, cut_good, putD, renD', renWhy, findWhy, log_good, renD, syncDirD, doD, renC, delD, updN_same, h.sane]
theorem One.crash (h : One D b s) (pick : Int) : ∃ b' s', One (crashD D pick) b' s' ∧ ((b' = [] ∧ s' = 0 ∧ s = 0) ∨ ∃ q, crashF ⟨b, s⟩ q = ⟨b', s'⟩) := by
  rcases h.ph with ⟨h1, h2, h3, hb, hs⟩ | ⟨f, h1, hf, ⟨h2, h3, hs⟩ | ⟨h2, h3⟩⟩
  · refine ⟨[], 0, ⟨.inl ?_, rfl⟩, .inl ⟨rfl, rfl, hs⟩⟩
    simp [crashD, crashDir, h3, h2]
  · have h4 := Nat.mod_lt (crashP pick) (show 0 < 1 + 1 by omega)
    obtain ⟨m, hm⟩ : ∃ m, m = crashP pick % (1 + 1) := ⟨_, rfl⟩
    rcases (show m = 0 ∨ m = 1 by omega) with hm0 | hm0
    · refine ⟨[], 0, ⟨.inl ?_, rfl⟩, .inl ⟨rfl, rfl, hs⟩⟩
      have hd : crashDir D (crashP pick) = [] := by unfold crashDir; rw [h3]; simp only [List.length_singleton]; rw [← hm, hm0, h2]; rfl
      simp [crashD, hd]
    · have hd : crashDir D (crashP pick) = [(logN, f)] := by unfold crashDir; rw [h3]; simp only [List.length_singleton]; rw [← hm, hm0, h2]; simp [doD, madeC, putD]
      refine ⟨(crashF ⟨b, s⟩ (crashP pick / (D.chg.length + 1))).b, (crashF ⟨b, s⟩ (crashP pick / (D.chg.length + 1))).safe, ⟨.inr ⟨f, ?_, ?_, .inr ⟨?_, rfl⟩⟩, rfl⟩, .inr ⟨crashP pick / (D.chg.length + 1), rfl⟩⟩
      · exact hd
      · show (if f ∈ ids (crashDir D (crashP pick)) then crashF (D.file f) (crashP pick / (D.chg.length + 1)) else D.file f) = _
        rw [hd, if_pos (by simp [ids]), hf]
      · exact hd
  · have hd : crashDir D (crashP pick) = [(logN, f)] := by unfold crashDir; rw [h3, h2]; simp
    refine ⟨(crashF ⟨b, s⟩ (crashP pick / (D.chg.length + 1))).b, (crashF ⟨b, s⟩ (crashP pick / (D.chg.length + 1))).safe, ⟨.inr ⟨f, ?_, ?_, .inr ⟨?_, rfl⟩⟩, rfl⟩, .inr ⟨crashP pick / (D.chg.length + 1), rfl⟩⟩
    · exact hd
    · show (if f ∈ ids (crashDir D (crashP pick)) then crashF (D.file f) (crashP pick / (D.chg.length + 1)) else D.file f) = _
      rw [hd, if_pos (by simp [ids]), hf]
    · exact hd
end
end Go.Proofs.YthacnbbijmgjfaaDoor.Lib0

/- known. -/
import Derived.Test.YthacnbbijmgjfaaDoorOneLog
set_option linter.unusedVariables false
set_option linter.unusedSimpArgs false
namespace Go.Proofs.YthacnbbijmgjfaaDoor.Lib0
open Go.RowKit Go.Proofs.YthacnbbijmgjfaaDoorW.PrintWords Go.ChangeMaps

def oneA : Name := ⟨#[97]⟩
def oneB : Name := ⟨#[98]⟩
theorem crash_0 (b : List UInt8) (q : Nat) : crashF ⟨b, b.length⟩ q = ⟨b, b.length⟩ := by
  unfold crashF
  simp [Nat.mod_one]
theorem str_C_lit (w : World) (l : List ByteArray) (e : TypeId) (hn : l.length ≤ 9223372036854775807) : Kd.string.C (w.alloc (.cells (l.map Value.string).toArray e)) (some ⟨w.heap.size, 0, none⟩) l.length l := by
  refine ⟨rfl, hn, fun _ => ⟨_, rfl, fun j p hp => ⟨[.string p], rfl, rfl, fun i u hu => ?_⟩⟩⟩
  have hi : i = 0 := by
    rcases i with _ | i
    · rfl
    · simp at hu
  subst hi
  simp only [List.getElem?_cons_zero, Option.some.injEq] at hu
  subst hu
  have e1 : (⟨w.heap.size, 0, none⟩ : Addr).add (j * Kd.string.sz + 0) = ⟨w.heap.size, j, none⟩ := by
    rw [add_plain]; show (⟨w.heap.size, j * 1 + 0, none⟩ : Addr) = _; simp
  rw [e1]
  have hh := heap_alloc_new w (.cells (l.map Value.string).toArray e)
  unfold World.cell?
  simp only [hh]
  simp [hp]
/-- A disk that was made behind w: what was there is there. -/
theorem below_all {w w1 w7 w8 : World} {d : Nat} {L L' : Lay} {D D' : ADisk} (h : DiskAt w1 w.heap.size d L D) (h1 : Below w.heap.size w w1) (h7 : DStep w1 w.heap.size d L D w7 L' D') (h8 : Below w7.heap.size w7 w8) : Below w.heap.size w w8 := by
  have h2 : Below w.heap.size w1 w7 := h7.keep.below (fun k hk => h.fp_base k hk) h1.size
  have h3 := h1.trans h2
  exact h3.trans (h8.mono h3.size)
set_option maxHeartbeats 3200000 in
set_option maxRecDepth 100000 in
theorem law_known (w : World) : Calls Tryd.prog 17 #[] w fun e w' => e = .returned (.bool true) ∧ Below w.heap.size w w' := by
  obtain ⟨sA, hsA⟩ : ∃ x, x = oneA := ⟨_, rfl⟩
  obtain ⟨sB, hsB⟩ : ∃ x, x = oneB := ⟨_, rfl⟩
  obtain ⟨sN, hsN⟩ : ∃ x, x = logN := ⟨_, rfl⟩
  go_enter Tryd.func17, Tryd.ntmps17
  go_wp2_with fail
  refine (disk_New w).mono ?_
  rintro e w1 ⟨d, L, rfl, h, hb⟩
  have H1 := Aside0.mk h
  have B1 := Aside0.mk hb
  have HO := Aside0.mk (open_one h one_new rfl (by simp))
  clear h hb
  unfold dptr at *
  go_wp2_with fail
  refine HO.out.mono ?_
  rintro e w2 ⟨lg, A, c, L2, D2, s2, rfl, hC, hs, hlg, hge, ho, hq⟩
  have H2 := Aside0.mk hs
  have O2 := Aside0.mk ho
  have Q2 := Aside0.mk hq
  have G2 := Aside0.mk hlg
  clear hC hs hlg hge ho hq HO
  have e0 : (List.map str (allB ([] : List UInt8)).1).length = 0 := rfl
  rw [e0]
  clear e0
  unfold lptr
  go_wp2_with fail
  have O2' := O2.out
  rw [List.take_nil] at O2'
  replace O2 := Aside0.mk O2'
  clear O2'
  refine (log_app H2.out.at_ O2.out Q2.out G2.out oneA (by decide) (by simp)).mono ?_
  rintro e w3 ⟨L3, D3, rfl, hs, ho, hq⟩
  have H3 := Aside0.mk (H2.out.trans hs)
  have O3 := Aside0.mk ho
  have Q3 := Aside0.mk hq
  have G3 := Aside0.mk (G2.out.step H2.out.at_ hs)
  clear hs ho hq
  go_wp2_with fail
  refine (log_app H3.out.at_ O3.out Q3.out G3.out oneB (by decide) (by rw [List.nil_append, sealB_len', byt_length]; decide)).mono ?_
  rintro e w4 ⟨L4, D4, rfl, hs, ho, hq⟩
  have H4 := Aside0.mk (H3.out.trans hs)
  have O4 := Aside0.mk ho
  have G4 := Aside0.mk (G3.out.step H3.out.at_ hs)
  clear hs ho hq
  go_wp2_with fail
  refine (log_Sync H4.out.at_ G4.out log_good).mono ?_
  rintro e w5 ⟨L5, rfl, hs⟩
  have H5 := Aside0.mk (H4.out.trans hs)
  have O5 := Aside0.mk O4.out.sync
  clear hs
  go_wp2_with fail
  refine (disk_Crash H5.out.at_ O5.out.sane 0 (by omega) (by have := O5.out.chg; omega)).mono ?_
  rintro e w6 ⟨L6, rfl, hs⟩
  have H6 := Aside0.mk (H5.out.trans hs)
  have O6 := Aside0.mk (show ∃ s, One (crashD (syncDirD (syncD D4 logN)) 0) (recs [[97], [98]]) s from by
    obtain ⟨b', s', h1, h2⟩ := O5.out.crash 0
    have e1 : [] ++ sealB (byt oneA) ++ sealB (byt oneB) = recs [[97], [98]] := rfl
    rcases h2 with ⟨_, _, h2⟩ | ⟨q, h2⟩
    · rw [e1] at h2; exact absurd h2 (by simp [recs, sealB_len'])
    · rw [crash_0] at h2
      injection h2 with h2 h3
      rw [e1] at h2
      exact ⟨s', by rw [h2]; exact h1⟩)
  obtain ⟨s6, ho6⟩ := O6.out
  have HO := Aside0.mk (open_one hs.at_ ho6 rfl (by simp [recs, sealB_len']))
  have hall := (allB_whole [[97], [98]] (by simp)).1
  rw [hall] at HO
  clear hs ho6 hall O6
  unfold dptr at HO
  go_wp2_with fail
  refine HO.out.mono ?_
  rintro e w7 ⟨lg7, A7, c7, L7, D7, s7, rfl, hC, hs, _⟩
  have H7 := Aside0.mk (H6.out.trans hs)
  have C7 := Aside0.mk hC
  clear hC hs HO
  have e2 : (List.map str [[97], [98]]).length = 2 := rfl
  rw [e2]
  clear e2
  unfold lptr
  go_wp2_with fail
  refine (keep_Texts A7 (some ⟨w7.heap.size, 0, none⟩) c7 2 _ _ _ (Kd.C_below C7.out (below_alloc (Below.refl _ _) _)) (str_C_lit w7 [⟨#[97]⟩, ⟨#[98]⟩] 9 (by simp))).mono ?_
  rintro e w8 ⟨rfl, hb⟩
  have B8 := Aside0.mk (below_all H1.out B1.out H7.out ((below_alloc (Below.refl _ _) _).trans (hb.mono (by simp))))
  have e3 : decide (List.map str [[97], [98]] = [⟨#[97]⟩, ⟨#[98]⟩]) = true := by decide
  rw [e3]
  clear hb e3
  go_wp2
  go_ret
  exact ⟨rfl, B8.out⟩
end Go.Proofs.YthacnbbijmgjfaaDoor.Lib0

/- The log: Open. -/
import Derived.Test.YthacnbbijmgjfaaDoorLog
set_option linter.unusedVariables false
set_option linter.unusedSimpArgs false
namespace Go.Proofs.YthacnbbijmgjfaaDoor.Lib0
open Go.RowKit Go.Proofs.YthacnbbijmgjfaaDoorW.PrintWords Go.ChangeMaps

theorem R_step {α : Type} {dd : Kd α} (hE : dd.E = []) {e : Nat} {ok : Nat → Prop} {v : Value} {l : List α} {w w1 w' : World} {base d : Nat} {L L' : Lay} {D D' : ADisk} (h : DiskAt w base d L D) (hs : DStep w1 base d L D w' L' D') (hr : dd.R e w1 w.heap.size ok v l) : dd.R e w' w.heap.size ok v l := by
  obtain ⟨inner, ho⟩ := Kd.R_own hr
  refine R_moved hE hr (fun k hk => ?_)
  obtain ⟨cells, hc⟩ := own_typed ho k hk
  refine hs.keep.block k (Array.getElem?_eq_some_iff.1 hc).1 (fun hf => ?_)
  have h1 := R_base hr k hk
  have h2 := h.fp_lt k hf
  omega
theorem src_take {w w1 : World} {base d : Nat} {L : Lay} {D : ADisk} (h : DiskAt w base d L D) {A : Option Addr} {l : List UInt8} {c n : Nat} (hr : u8.R 5 w1 w.heap.size (fun _ => True) (.slice A l.length c) l) (hn : n ≤ l.length) : Src w1 d L D A (l.take n) := by
  intro W hW
  exact Kd.C_take (src_above h hr W hW) hn
/-- Open's answer: the log at lg, the texts, the refusal; the disk D'. -/
def OpenPost (w : World) (base d : Nat) (L : Lay) (D : ADisk) (s : Name) (r : List ByteArray) (P : ADisk → Prop) (e : Ending) (w' : World) : Prop :=
  ∃ lg v L' D', e = .returned (.tuple #[lptr lg, v, .int .i64 0]) ∧ Kd.string.R 9 w' w.heap.size (fun _ => True) v r ∧ DStep w base d L D w' L' D' ∧ LogAt w' lg d s ∧ w.heap.size ≤ lg ∧ P D'
def Refused (w : World) (base d : Nat) (L : Lay) (D : ADisk) (why : Int) (e : Ending) (w' : World) : Prop :=
  e = .returned (.tuple #[.pointer none, .slice none 0 0, .int .i64 why]) ∧ DStep w base d L D w' L D
def cutD (D : ADisk) (s : Name) (n : Nat) (g : Nat) : ADisk := syncDirD (renD' (syncD (appD D cutName ((readB D s).take n) g) cutName) cutName s)
theorem log_alloc {w : World} {d : Nat} {s : Name} : LogAt (w.alloc (.cells #[dptr d, .string s] 68)) w.heap.size d s := heap_alloc_new w _
set_option maxHeartbeats 1600000 in
set_option maxRecDepth 100000 in
theorem open_nil (w : World) (s : Name) :
    Calls Tryd.prog 19 #[.pointer none, .string s] w fun e w' => e = .returned (.tuple #[.pointer none, .slice none 0 0, .int .i64 1]) ∧ w = w' := by
  go_enter Tryd.func19, Tryd.ntmps19
  go_wp2
  go_ret3
  exact ⟨rfl, rfl⟩
set_option maxHeartbeats 1600000 in
set_option maxRecDepth 100000 in
theorem open_bad {w : World} {base d : Nat} {L : Lay} {D : ADisk} {s : Name} (h : DiskAt w base d L D) (hn : nameBad s = true) :
    Calls Tryd.prog 19 #[dptr d, .string s] w (Refused w base d L D 20) := by
  have H := Aside0.mk h
  have HR := Aside0.mk (disk_Read h s)
  rw [show findWhy D s = 20 by simp [findWhy, hn]] at HR
  clear h hn
  unfold dptr at *
  go_enter Tryd.func19, Tryd.ntmps19
  go_wp2_with fail
  refine HR.out.mono ?_
  rintro e w1 ⟨v, rfl, hr, hb⟩
  obtain ⟨A, c, rfl, _, _⟩ := u8_R_len hr
  have HB := Aside0.mk hb
  clear hr hb
  go_wp2
  go_ret3
  exact ⟨rfl, DStep.of_below H.out HB.out⟩
set_option maxHeartbeats 1600000 in
set_option maxRecDepth 100000 in
theorem open_none {w : World} {base d : Nat} {L : Lay} {D : ADisk} {s : Name} (h : DiskAt w base d L D) (hn : nameBad s = false) (ha : assoc D.dir s = none) :
    Calls Tryd.prog 19 #[dptr d, .string s] w (OpenPost w base d L D s [] (fun D' => D' = D)) := by
  have H := Aside0.mk h
  have HR := Aside0.mk (disk_Read h s)
  rw [show findWhy D s = 25 by simp [findWhy, hn, ha]] at HR
  clear h hn ha
  unfold dptr at *
  go_enter Tryd.func19, Tryd.ntmps19
  go_wp2_with fail
  refine HR.out.mono ?_
  rintro e w1 ⟨v, rfl, hr, hb⟩
  obtain ⟨A, c, rfl, _, _⟩ := u8_R_len hr
  have HB := Aside0.mk hb
  clear hr hb
  go_wp2
  go_ret3
  refine ⟨w1.heap.size, .slice none 0 0, L, D, rfl, Kd.R_nil _ _ _ _ _, DStep.of_below H.out (HB.out.trans ((below_alloc (Below.refl _ _) _).mono HB.out.size)), log_alloc, HB.out.size, rfl⟩
set_option maxHeartbeats 1600000 in
set_option maxRecDepth 100000 in
theorem open_file {w : World} {base d : Nat} {L : Lay} {D : ADisk} {s : Name} (h : DiskAt w base d L D) (hn : nameBad s = false) (ha : assoc D.dir s ≠ none) (hw : ¬ (allB (readB D s)).2.1 < (readB D s).length) (hl : (readB D s).length ≤ 16777216) :
    Calls Tryd.prog 19 #[dptr d, .string s] w (OpenPost w base d L D s ((allB (readB D s)).1.map str) (fun D' => D' = D)) := by
  have H := Aside0.mk h
  have HR := Aside0.mk (disk_Read h s)
  rw [show findWhy D s = 0 by simp [findWhy, hn, ha]] at HR
  clear h hn ha
  unfold dptr at *
  generalize readB D s = b at *
  have HSC := Aside0.mk (fun (A : Option Addr) (c : Nat) (w1 : World) (h : u8.C w1 A b.length b) (hc : b.length ≤ c) => wal_Scan A c b w1 h hc (by omega))
  generalize (allB b).1.map str = r at *
  generalize (allB b).2.1 = n at *
  go_enter Tryd.func19, Tryd.ntmps19
  go_wp2_with fail
  refine HR.out.mono ?_
  rintro e w1 ⟨v, rfl, hr, hb⟩
  obtain ⟨A, c, rfl, hle, hC⟩ := u8_R_len hr
  have HB := Aside0.mk hb
  have HS := Aside0.mk (HSC.out A c w1 hC hle)
  clear hr hb hC hle
  go_wp2_with fail
  refine HS.out.mono ?_
  rintro e w2 ⟨v, rfl, hr, hb⟩
  have HR2 := Aside0.mk (Kd.R_lower hr HB.out.size)
  have HB2 := Aside0.mk (HB.out.trans (hb.mono HB.out.size))
  obtain ⟨A2, c2, rfl, _, _⟩ := Kd.R_reads hr
  clear hr hb
  go_wp2
  go_ret3
  exact ⟨w2.heap.size, _, L, D, rfl, Kd.R_below HR2.out (below_alloc (Below.refl _ _) _), DStep.of_below H.out (HB2.out.trans ((below_alloc (Below.refl _ _) _).mono HB2.out.size)), log_alloc, HB2.out.size, rfl⟩
theorem assoc_putD_self {l : Dir} {s : Name} {g : Nat} : assoc (putD l s g) s = some g := by
  induction l with
  | nil => simp [putD, assoc]
  | cons p l ih =>
    unfold putD
    by_cases h : s = p.1
    · rw [if_pos h]; simp [assoc, h]
    · rw [if_neg h]
      unfold assoc
      rw [if_neg h]
      exact ih
set_option maxHeartbeats 1600000 in
set_option maxRecDepth 100000 in
theorem open_cut {w : World} {base d : Nat} {L : Lay} {D : ADisk} {s : Name} (h : DiskAt w base d L D) (hn : nameBad s = false) (ha : assoc D.dir s ≠ none) (hw : (allB (readB D s)).2.1 < (readB D s).length) (h0 : 0 ≤ (allB (readB D s)).2.1) (hl : (readB D s).length ≤ 16777216)
    (hc : assoc D.dir cutName = none) (hch : D.chg.length ≤ 999999) (hfit : appWhy D cutName (allB (readB D s)).2.1.toNat = 0) :
    Calls Tryd.prog 19 #[dptr d, .string s] w (OpenPost w base d L D s ((allB (readB D s)).1.map str) (fun D' => ∃ g, ¬ live D g ∧ D' = cutD D s (allB (readB D s)).2.1.toNat g)) := by
  have H := Aside0.mk h
  have HR := Aside0.mk (disk_Read h s)
  rw [show findWhy D s = 0 by simp [findWhy, hn, ha]] at HR
  have HCN := Aside0.mk hc
  obtain ⟨PP, hPP⟩ : ∃ PP : ADisk → Prop, PP = (fun D' => ∃ g, ¬ live D g ∧ D' = cutD D s (allB (readB D s)).2.1.toNat g) := ⟨_, rfl⟩
  rw [← hPP]
  have HPP := Aside0.mk hPP
  have HCT := Aside0.mk (show ∀ n g, cutD D s n g = syncDirD (renD' (syncD (appD D cutName ((readB D s).take n) g) cutName) cutName s) from fun _ _ => rfl)
  unfold dptr at *
  clear h hn ha hc hPP
  generalize readB D s = b at *
  have HSC := Aside0.mk (fun (A : Option Addr) (c : Nat) (w1 : World) (h : u8.C w1 A b.length b) (hc : b.length ≤ c) => wal_Scan A c b w1 h hc (by omega))
  generalize (allB b).1.map str = r at *
  generalize (allB b).2.1 = n at *
  have HF := Aside0.mk hfit
  clear hfit
  go_enter Tryd.func19, Tryd.ntmps19
  go_wp2_with fail
  refine HR.out.mono ?_
  rintro e w1 ⟨v, rfl, hr, hb⟩
  obtain ⟨A, c, rfl, hle, hC⟩ := u8_R_len hr
  have HB := Aside0.mk hb
  have HRB := Aside0.mk hr
  have HS := Aside0.mk (HSC.out A c w1 hC hle)
  have hle2 : (b.take n.toNat).length = n.toNat := by rw [List.length_take]; omega
  have hsl := (sl_take (P := Tryd.prog) u8 23 5 .i64 Tryd.underlying23 info_u8 rfl A b c n (by omega) (by omega) hle).1
  rw [hle2] at hsl
  have HLE := Aside0.mk hle2
  clear hle2
  clear hr hb hC hle
  go_wp2_with fail
  refine HS.out.mono ?_
  rintro e w2 ⟨v, rfl, hr, hb⟩
  have HR2 := Aside0.mk (Kd.R_lower hr HB.out.size)
  have HB2 := Aside0.mk (HB.out.trans (hb.mono HB.out.size))
  have HRB2 := Aside0.mk (Kd.R_below HRB.out hb)
  obtain ⟨A2, c2, rfl, _, _⟩ := Kd.R_reads hr
  have HSP := Aside0.mk (wal_spare (H.out.kept (Keep.of_below HB2.out) (fun k hk => .inr hk)) HCN.out)
  clear hr hb
  go_wp2_with fail
  refine HSP.out.mono ?_
  rintro e w3 ⟨rfl, hb⟩
  have HB3 := Aside0.mk (HB2.out.trans (hb.mono HB2.out.size))
  have HR3 := Aside0.mk (Kd.R_below HR2.out hb)
  have HD3 := Aside0.mk (H.out.kept (Keep.of_below HB3.out) (fun k hk => .inr hk))
  have HSR := Aside0.mk (src_take (n := n.toNat) H.out (Kd.R_below HRB2.out hb) (by omega))
  have hA := disk_Append HD3.out cutName A c (b.take n.toNat) HSR.out (by rw [HLE.out]; omega) (by omega)
  rw [HLE.out] at hA
  have HA := Aside0.mk (show Calls Tryd.prog 25 #[.pointer (some ⟨d, 0, none⟩), .string cutName, .slice A n.toNat c] w3 (fun e w' => ∃ L' g, e = .returned (.int .i64 0) ∧ DStep w base d L D w' L' (appD D cutName (b.take n.toNat) g) ∧ DStep w3 base d L D w' L' (appD D cutName (b.take n.toNat) g) ∧ ¬ live D g) from hA.mono (by
    rintro e w' ⟨L', D', g, h1, h2, h3, h4⟩
    rw [HLE.out, HF.out] at h1 h3
    rw [if_pos rfl] at h3
    subst h3
    exact ⟨L', g, h1, (DStep.of_below H.out HB3.out).trans h2, h2, h4⟩))
  clear hb hA
  go_wp2_with fail
  refine HA.out.mono ?_
  rintro e w4 ⟨L4, g, rfl, hs4, ht4, hg⟩
  have HG := Aside0.mk hg
  have HS4 := Aside0.mk hs4
  have HT4 := Aside0.mk ht4
  have HCH4 := Aside0.mk (show (appD D cutName (b.take n.toNat) g).chg.length ≤ 1000000 by unfold appD; split <;> simp <;> omega)
  have HSY := Aside0.mk (disk_Sync hs4.at_ cutName)
  clear hs4 ht4 hg
  go_wp2_with fail
  refine HSY.out.mono ?_
  rintro e w5 ⟨L5, rfl, hs5⟩
  have HS5 := Aside0.mk (HS4.out.trans hs5)
  have HT5 := Aside0.mk (HT4.out.trans hs5)
  have HRN := Aside0.mk (disk_Rename hs5.at_ cutName s (by
    have := HCH4.out
    unfold syncD
    split
    · show (appD D cutName (b.take n.toNat) g).chg.length ≤ _; omega
    · omega))
  clear hs5
  go_wp2_with fail
  refine HRN.out.mono ?_
  rintro e w6 ⟨L6, rfl, hs6⟩
  have HS6 := Aside0.mk (HS5.out.trans hs6)
  have HT6 := Aside0.mk (HT5.out.trans hs6)
  have HSD := Aside0.mk (disk_SyncDir hs6.at_)
  clear hs6
  go_wp2_with fail
  refine HSD.out.mono ?_
  rintro e w7 ⟨L7, rfl, hs7⟩
  have HS7 := Aside0.mk (HS6.out.trans hs7)
  have HT7 := Aside0.mk (HT6.out.trans hs7)
  clear hs7
  go_wp2
  go_ret3
  rw [HPP.out]
  exact ⟨w7.heap.size, _, L7, _, rfl, Kd.R_below (R_step rfl H.out HT7.out HR3.out) (below_alloc (Below.refl _ _) _), HS7.out.trans (DStep.of_below HS7.out.at_ ((below_alloc (Below.refl _ _) _))), log_alloc, HS7.out.keep.size, g, HG.out, by rw [HCT.out]⟩
end Go.Proofs.YthacnbbijmgjfaaDoor.Lib0

/- WalFull: the walk. -/
import Derived.Test.YthacnbbijmgjfaaDoorAl
import Derived.StillTailTactics
import Derived.IntWalk
set_option linter.unusedVariables false
set_option linter.unusedSimpArgs false
namespace Go.Proofs.YthacnbbijmgjfaaDoor.Lib0
open Go.RowKit Go.Proofs.YthacnbbijmgjfaaDoorW.PrintWords Go.ChangeMaps

set_option maxHeartbeats 16000000 in
set_option maxRecDepth 100000 in
theorem walk_WalFull (A Q : Option Addr) (ca cq : Nat) (l : List ByteArray) (qs : List Int) (w : World) (hl : Kd.string.C w A l.length l) (hq : (Kd.int .i64).C w Q qs.length qs) (hqb : ∀ z ∈ qs, -9223372036854775808 ≤ z ∧ z ≤ 9223372036854775807) :
    Calls Tryd.prog 5 #[.slice A l.length ca, .slice Q qs.length cq] w fun e w' => e = .returned (.bool true) ∧ Below w.heap.size w w' := by
  have HC := Aside0.mk hl
  have HQ := Aside0.mk hq
  have HQB := Aside0.mk hqb
  have hl63 := hl.2.1
  have hq63 := hq.2.1
  clear hl hq hqb
  go_enter Tryd.func5, Tryd.ntmps5
  go_wp2_with fail
  refine (on_New w).mono ?_
  rintro e w1 ⟨d, rfl, ho, hb⟩
  have B1 := Aside0.mk hb
  have HOP := Aside0.mk (on_Open_whole (al := []) (by intro s hs; cases hs) (by simp) ho)
  clear ho hb
  unfold dptr at *
  go_wp2_with fail
  refine HOP.out.mono ?_
  rintro e w2 ⟨lg, v2, s2, rfl, hr2, ho2, hl2, hk2⟩
  have O2 := Aside0.mk ho2
  have L2 := Aside0.mk hl2
  have B2 := Aside0.mk (B1.out.trans hk2.below)
  obtain ⟨A2, c2, rfl, _, _⟩ := Kd.R_reads hr2
  clear ho2 hl2 hk2 hr2 HOP
  unfold lptr
  go_wp2_with fail
  go_loopw [9, 10] (fun v7 v8 wr => ∃ (k s : Nat) (q' : Int) (al : List ByteArray), k ≤ l.length ∧ k ≤ 20 ∧ v8 = .int .i64 k ∧ Aside0 (Small al) ∧ Aside0 (al.length ≤ k) ∧ Aside0 (On wr w.heap.size d (recsA al) s q') ∧ Aside0 (LogAt wr lg d logN) ∧ Aside0 (Kd.string.R 9 wr w.heap.size (fun _ => True) v7 al) ∧ Aside0 (Below w.heap.size w wr)) (fun _ i _ => 20 - (intOf i).toNat)
  case atStart => exact ⟨0, s2, -1, [], by omega, by omega, rfl, ⟨by intro s hs; cases hs⟩, ⟨by simp⟩, O2, L2, ⟨Kd.R_nil _ _ _ _ _⟩, B2⟩
  case round =>
    clear O2 L2 B2 B1
    obtain ⟨k, s, q', al, hk, hk20, rfl, HSM, HLN, HON, HLG, HR, HB⟩ := hrel
    obtain ⟨A8, c8, rfl, _, _⟩ := Kd.R_reads HR.out
    by_cases hgo : k < l.length ∧ k < 20
    · obtain ⟨hlt, h20⟩ := hgo
      obtain ⟨b, o, rfl, hx⟩ := str_open (Kd.C_below HC.out HB.out) (by omega)
      have hx1 := hx k hlt
      have hlt2 : (k : Int) < l.length := by omega
      have h202 : (k : Int) < 20 := by omega
      clear hx
      have HFS := Aside0.mk (fewS_size l[k])
      have HFW := Aside0.mk (law_few' l[k])
      generalize l[k] = sk at *
      generalize fewS sk = fs at *
      go_wp2_with fail
      refine (HFW.out wr).mono ?_
      rintro e w' ⟨rfl, rfl⟩
      clear hx1 HFW
      have hfs := HFS.out
      have hw12 : IntKind.i64.wrap ((fs.size : Int) + 12) = (fs.size : Int) + 12 := IntWalk.i64_in _ (by omega)
      clear hfs
      by_cases hkq : k < qs.length
      · obtain ⟨bq, oq, rfl, hxq⟩ := sc_open (Kd.C_below HQ.out HB.out) (by omega)
        have hxq1 := hxq k hkq
        have hkq2 : (k : Int) < qs.length := by omega
        have hqb := HQB.out qs[k] (List.getElem_mem hkq)
        have HWI := Aside0.mk (book_Within qs[k] 150 wr hqb (by omega) (by omega))
        obtain ⟨m, hm⟩ := Int.eq_ofNat_of_zero_le (Int.emod_nonneg qs[k] (show (150 + 1 : Int) ≠ 0 by omega))
        have hml := Int.emod_lt_of_pos qs[k] (show (0 : Int) < 150 + 1 by omega)
        rw [hm] at HWI hml
        clear hxq hm
        generalize qs[k] = qk at *
        have hm0 : ¬ (m : Int) < 0 := by omega
        go_wp2_with fail
        refine HWI.out.mono ?_
        rintro e w' ⟨rfl, rfl⟩
        clear hxq1 HWI
        have HQU := Aside0.mk (on_Quota HON.out (m : Int) (by omega))
        unfold dptr at HQU
        by_cases hro : m < fs.size + 12
        · have hro2 : ¬ (fs.size : Int) + 12 ≤ m := by omega
          have HRO := Aside0.mk (show roomy m (fs.size + 12) = false by unfold roomy; simp; omega)
          go_wp2_with fail
          refine HQU.out.mono ?_
          rintro e w4 ⟨rfl, ho4, hk4⟩
          have L4 := Aside0.mk (HLG.out.kept hk4)
          have R4 := Aside0.mk (R_kept rfl HR.out hk4 off_str)
          have B4 := Aside0.mk (HB.out.trans hk4.below)
          have HAP := Aside0.mk (on_AppendQ ho4 L4.out fs (by have := HFS.out; omega) (by have := recsA_len HSM.out; have := HLN.out; omega))
          simp only [HRO.out, Bool.false_eq_true, if_false] at HAP
          clear ho4 hk4 HQU HON HLG HR HB HRO
          unfold lptr at HAP
          go_wp2_with fail
          refine HAP.out.mono ?_
          rintro e w5 ⟨rfl, ⟨q5, ho5⟩, hk5⟩
          have O5 := Aside0.mk ho5
          have L5 := Aside0.mk (L4.out.kept hk5)
          have R5 := Aside0.mk (R_kept rfl R4.out hk5 off_str)
          have B5 := Aside0.mk (B4.out.trans hk5.below)
          clear ho5 hk5 HAP L4 R4 B4
          go_wp2
          go_roundw
          case rel => exact ⟨k + 1, s, q5, al, by omega, by omega, by go_num, HSM, ⟨by have := HLN.out; omega⟩, O5, L5, R5, B5⟩
          case measure => simp [intOf]; omega
        · have hro2 : (fs.size : Int) + 12 ≤ m := by omega
          have HRO := Aside0.mk (show roomy m (fs.size + 12) = true by unfold roomy; simp; omega)
          go_wp2_with fail
          refine HQU.out.mono ?_
          rintro e w4 ⟨rfl, ho4, hk4⟩
          have L4 := Aside0.mk (HLG.out.kept hk4)
          have R4 := Aside0.mk (R_kept rfl HR.out hk4 off_str)
          have B4 := Aside0.mk (HB.out.trans hk4.below)
          have HAP := Aside0.mk (on_AppendQ ho4 L4.out fs (by have := HFS.out; omega) (by have := recsA_len HSM.out; have := HLN.out; omega))
          rw [HRO.out, if_pos rfl, if_pos rfl] at HAP
          clear ho4 hk4 HQU HON HLG HR HB HRO
          unfold lptr at HAP
          go_wp2_with fail
          refine HAP.out.mono ?_
          rintro e w5 ⟨rfl, ⟨q5, ho5⟩, hk5⟩
          have O5 := Aside0.mk ho5
          have L5 := Aside0.mk (L4.out.kept hk5)
          have R5 := Aside0.mk (R_kept rfl R4.out hk5 off_str)
          have B5 := Aside0.mk (B4.out.trans hk5.below)
          clear ho5 hk5 HAP L4 R4 B4
          go_wp2_with (at_builtin; go_loud (refine str_append (.tmp 86) (.tmp 88) 22 9 (.slice A8 al.length c8) al fs w.heap.size rfl rfl Tryd.underlying22 info_str rfl rfl R5.out B5.out.size ?c1 ?_))
          case c1 => have := HLN.out; omega
          intro v6 w6 hr6 hb6 hg6 ha6
          have G6 := Aside0.mk (Grew.of_own R5.out hb6 hg6)
          have O6 := Aside0.mk (O5.out.grew G6.out off_str)
          have L6 := Aside0.mk (L5.out.grew G6.out (by decide))
          rw [recsA_snoc] at O6
          have R6 := Aside0.mk hr6
          have B6 := Aside0.mk (B5.out.trans hb6)
          clear hr6 hb6 hg6 ha6 G6 O5 L5 R5 B5
          go_wp2
          go_roundw
          case rel => exact ⟨k + 1, s, q5, al ++ [fs], by omega, by omega, by go_num, ⟨HSM.out.snoc HFS.out⟩, ⟨by rw [List.length_append, List.length_singleton]; have := HLN.out; omega⟩, O6, L6, R6, B6⟩
          case measure => simp [intOf]; omega
      · have hkq2 : ¬ (k : Int) < qs.length := by omega
        have HQU := Aside0.mk (on_Quota HON.out (-1) (by omega))
        unfold dptr at HQU
        have HRO := Aside0.mk (show roomy (-1) (fs.size + 12) = true by unfold roomy; simp)
        go_wp2_with fail
        refine HQU.out.mono ?_
        rintro e w4 ⟨rfl, ho4, hk4⟩
        have L4 := Aside0.mk (HLG.out.kept hk4)
        have R4 := Aside0.mk (R_kept rfl HR.out hk4 off_str)
        have B4 := Aside0.mk (HB.out.trans hk4.below)
        have HAP := Aside0.mk (on_AppendQ ho4 L4.out fs (by have := HFS.out; omega) (by have := recsA_len HSM.out; have := HLN.out; omega))
        rw [HRO.out, if_pos rfl, if_pos rfl] at HAP
        clear ho4 hk4 HQU HON HLG HR HB HRO
        unfold lptr at HAP
        go_wp2_with fail
        refine HAP.out.mono ?_
        rintro e w5 ⟨rfl, ⟨q5, ho5⟩, hk5⟩
        have O5 := Aside0.mk ho5
        have L5 := Aside0.mk (L4.out.kept hk5)
        have R5 := Aside0.mk (R_kept rfl R4.out hk5 off_str)
        have B5 := Aside0.mk (B4.out.trans hk5.below)
        clear ho5 hk5 HAP L4 R4 B4
        go_wp2_with (at_builtin; go_loud (refine str_append (.tmp 86) (.tmp 88) 22 9 (.slice A8 al.length c8) al fs w.heap.size rfl rfl Tryd.underlying22 info_str rfl rfl R5.out B5.out.size ?c1 ?_))
        case c1 => have := HLN.out; omega
        intro v6 w6 hr6 hb6 hg6 ha6
        have G6 := Aside0.mk (Grew.of_own R5.out hb6 hg6)
        have O6 := Aside0.mk (O5.out.grew G6.out off_str)
        have L6 := Aside0.mk (L5.out.grew G6.out (by decide))
        rw [recsA_snoc] at O6
        have R6 := Aside0.mk hr6
        have B6 := Aside0.mk (B5.out.trans hb6)
        clear hr6 hb6 hg6 ha6 G6 O5 L5 R5 B5
        go_wp2
        go_roundw
        case rel => exact ⟨k + 1, s, q5, al ++ [fs], by omega, by omega, by go_num, ⟨HSM.out.snoc HFS.out⟩, ⟨by rw [List.length_append, List.length_singleton]; have := HLN.out; omega⟩, O6, L6, R6, B6⟩
        case measure => simp [intOf]; omega
    · have hex : (¬ (k : Int) < l.length) ∨ ((k : Int) < l.length ∧ ¬ (k : Int) < 20) := by omega
      have HQU := Aside0.mk (on_Quota HON.out (-1) (by omega))
      unfold dptr at HQU
      have HL40 := Aside0.mk (show al.length ≤ 40 by have := HLN.out; omega)
      rcases hex with hex | ⟨hex1, hex2⟩
      all_goals
        go_wp2_with fail
        refine HQU.out.mono ?_
        rintro e w4 ⟨rfl, ho4, hk4⟩
        have R4 := Aside0.mk (R_kept rfl HR.out hk4 off_str)
        have B4 := Aside0.mk (HB.out.trans hk4.below)
        have HOP := Aside0.mk (on_Open_whole HSM.out HL40.out ho4)
        clear ho4 hk4 HQU HON HLG HR HB
        unfold dptr at HOP
        go_wp2_with fail
        refine HOP.out.mono ?_
        rintro e w5 ⟨lg2, v5, s5, rfl, hr5, ho5, hl5, hk5⟩
        have R5 := Aside0.mk (R_kept rfl R4.out hk5 off_str)
        have B5 := Aside0.mk (B4.out.trans hk5.below)
        obtain ⟨A5, c5, rfl, _, _⟩ := Kd.R_reads hr5
        have HTX := Aside0.mk (keep_Texts A5 A8 c5 c8 al al w5 (str_C_of hr5) (str_C_of R5.out))
        rw [decide_eq_true rfl] at HTX
        clear hr5 ho5 hl5 hk5 HOP R4 B4
        unfold lptr
        go_wp2_with fail
        refine HTX.out.mono ?_
        rintro e w6 ⟨rfl, hb6⟩
        have B6 := Aside0.mk (B5.out.trans (hb6.mono B5.out.size))
        have HKN := Aside0.mk (law_known w6)
        clear hb6 HTX R5 B5
        go_wp2_with fail
        refine HKN.out.mono ?_
        rintro e w7 ⟨rfl, hb7⟩
        have B7 := Aside0.mk (B6.out.trans (hb7.mono B6.out.size))
        clear hb7 HKN B6
        go_wp2
        go_ret
        exact ⟨rfl, B7.out⟩
end Go.Proofs.YthacnbbijmgjfaaDoor.Lib0

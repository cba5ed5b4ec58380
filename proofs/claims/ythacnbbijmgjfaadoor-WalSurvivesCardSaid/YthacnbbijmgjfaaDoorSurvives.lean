/- WalSurvives: the walk. -/
import Derived.Test.YthacnbbijmgjfaaDoorCut
import Derived.StillTailTactics
import Derived.IntWalk
set_option linter.unusedVariables false
set_option linter.unusedSimpArgs false
namespace Go.Proofs.YthacnbbijmgjfaaDoor.Lib0
open Go.RowKit Go.Proofs.YthacnbbijmgjfaaDoorW.PrintWords Go.ChangeMaps

set_option maxHeartbeats 16000000 in
set_option maxRecDepth 100000 in
theorem walk_WalSurvives (A S C P : Option Addr) (ca cs cc cp : Nat) (l : List ByteArray) (ss cr : List Bool) (ps : List Int) (w : World) (hl : Kd.string.C w A l.length l) (hs : Kd.bool.C w S ss.length ss) (hc : Kd.bool.C w C cr.length cr) (hp : (Kd.int .i64).C w P ps.length ps) (hpb : ∀ z ∈ ps, -9223372036854775808 ≤ z ∧ z ≤ 9223372036854775807) :
    Calls Tryd.prog 4 #[.slice A l.length ca, .slice S ss.length cs, .slice C cr.length cc, .slice P ps.length cp] w fun e w' => e = .returned (.bool true) ∧ Below w.heap.size w w' := by
  have HC := Aside0.mk hl
  have HS := Aside0.mk hs
  have HCC := Aside0.mk hc
  have HP := Aside0.mk hp
  have HPB := Aside0.mk hpb
  have hl63 := hl.2.1
  have hs63 := hs.2.1
  have hc63 := hc.2.1
  have hp63 := hp.2.1
  clear hl hs hc hp hpb
  go_enter Tryd.func4, Tryd.ntmps4
  go_wp2_with fail
  refine (on_New w).mono ?_
  rintro e w1 ⟨d, rfl, ho, hb⟩
  have B1 := Aside0.mk hb
  have HOP := Aside0.mk (on_Open_whole (al := []) (by intro s hs; cases hs) (by simp) ho)
  clear ho hb
  unfold dptr at *
  go_wp2_with fail
  refine HOP.out.mono ?_
  rintro e w2 ⟨lg, v2, s2, rfl, hr2, ho2, hl2, hk2⟩
  obtain rfl : s2 = 0 := by have := ho2.safe; simpa [recsA_nil] using this
  have O2 := Aside0.mk ho2
  have L2 := Aside0.mk hl2
  have B2 := Aside0.mk (B1.out.trans hk2.below)
  obtain ⟨A2, c2, rfl, _, _⟩ := Kd.R_reads hr2
  clear ho2 hl2 hk2 hr2 HOP
  unfold lptr
  go_wp2_with fail
  go_loopw [10, 13, 14, 15] (fun v10 v13 v14 v15 wr => ∃ (k sn lg : Nat) (al : List ByteArray), k ≤ l.length ∧ k ≤ 30 ∧ v10 = .pointer (some ⟨lg, 0, none⟩) ∧ v14 = .int .i64 sn ∧ v15 = .int .i64 k ∧ Aside0 (Small al) ∧ Aside0 (al.length ≤ k) ∧ Aside0 (sn ≤ al.length) ∧ Aside0 (On wr w.heap.size d (recsA al) (recsA (al.take sn)).length (-1)) ∧ Aside0 (LogAt wr lg d logN) ∧ Aside0 (Kd.string.R 9 wr w.heap.size (fun _ => True) v13 al) ∧ Aside0 (Below w.heap.size w wr)) (fun _ _ _ i _ => 30 - (intOf i).toNat)
  case atStart => exact ⟨0, 0, lg, [], by omega, by omega, rfl, rfl, rfl, ⟨by intro s hs; cases hs⟩, ⟨by simp⟩, ⟨by simp⟩, O2, L2, ⟨Kd.R_nil _ _ _ _ _⟩, B2⟩
  case round =>
    clear O2 L2 B2 B1
    obtain ⟨k, sn, lg, al, hk, hk30, rfl, rfl, rfl, HSM, HLN, HSN, HON, HLG, HR, HB⟩ := hrel
    obtain ⟨A8, c8, rfl, _, _⟩ := Kd.R_reads HR.out
    by_cases hgo : k < l.length ∧ k < 30
    · obtain ⟨hlt, h30⟩ := hgo
      obtain ⟨b, o, rfl, hx⟩ := str_open (Kd.C_below HC.out HB.out) (by omega)
      have hx1 := hx k hlt
      have HX := Aside0.mk (fun (W : World) (hb : Below w.heap.size w W) => show W.cell? ⟨b, o + k, none⟩ = some (.string l[k]) from by
        obtain ⟨b', o', he, hx'⟩ := str_open (Kd.C_below HC.out hb) (by omega)
        cases he
        exact hx' k hlt)
      have hlt2 : (k : Int) < l.length := by omega
      have h302 : (k : Int) < 30 := by omega
      clear hx
      have HFS := Aside0.mk (fewS_size l[k])
      have HFW := Aside0.mk (law_few' l[k])
      generalize l[k] = sk at *
      generalize fewS sk = fs at *
      obtain ⟨al2, hal2⟩ : ∃ al2, al2 = al ++ [fs] := ⟨_, rfl⟩
      have HT := Aside0.mk hal2
      clear hal2
      have HSM2 := Aside0.mk (show Small al2 by rw [HT.out]; exact HSM.out.snoc HFS.out)
      have HLN2 := Aside0.mk (show al2.length ≤ k + 1 by rw [HT.out, List.length_append, List.length_singleton]; have := HLN.out; omega)
      have HSN2 := Aside0.mk (show sn ≤ al2.length by rw [HT.out, List.length_append, List.length_singleton]; have := HSN.out; omega)
      have htk0 : al.take sn = al2.take sn := by rw [HT.out, List.take_append_of_le_length HSN.out]
      rw [htk0] at HON
      clear htk0
      have HAP := Aside0.mk (on_Append_al HSM.out (by have := HLN.out; omega) HON.out HLG.out fs HFS.out)
      rw [← HT.out] at HAP
      unfold lptr at HAP
      go_wp2_with fail
      refine (HFW.out wr).mono ?_
      rintro e w' ⟨rfl, rfl⟩
      go_wp2_with fail
      refine HAP.out.mono ?_
      rintro e w3 ⟨rfl, ho3, hk3⟩
      have O3 := Aside0.mk ho3
      have L3 := Aside0.mk (HLG.out.kept hk3)
      have R3 := Aside0.mk (R_kept rfl HR.out hk3 off_str)
      have B3 := Aside0.mk (HB.out.trans hk3.below)
      have hx3 := HX.out w3 B3.out
      clear ho3 hk3 HAP HON HLG HR HB hx1
      go_wp2_with fail
      refine (HFW.out w3).mono ?_
      rintro e w' ⟨rfl, rfl⟩
      go_wp2_with (at_builtin; go_loud (refine str_append (.tmp 57) (.tmp 63) 22 9 (.slice A8 al.length c8) al fs w.heap.size rfl rfl Tryd.underlying22 info_str rfl rfl R3.out B3.out.size ?c1 ?_))
      case c1 => have := HLN.out; omega
      intro v4 w4 hr4 hb4 hg4 ha4
      rw [← HT.out] at hr4
      have G4 := Aside0.mk (Grew.of_own R3.out hb4 hg4)
      have O4 := Aside0.mk (O3.out.grew G4.out off_str)
      have L4 := Aside0.mk (L3.out.grew G4.out (by decide))
      have R4 := Aside0.mk hr4
      have B4 := Aside0.mk (B3.out.trans hb4)
      obtain ⟨A4, c4, rfl, hc4, _⟩ := Kd.R_reads hr4
      have HC4 := Aside0.mk hc4
      clear hr4 hb4 hg4 ha4 G4 O3 L3 R3 B3 HX HFW hx3 hc4 HSM HLN HSN HT HFS
      by_cases hsk : k < ss.length
      · obtain ⟨bs, os, rfl, hxs⟩ := sc_open (Kd.C_below HS.out B4.out) (by omega)
        have hxs1 := hxs k hsk
        have hsk2 : (k : Int) < ss.length := by omega
        clear hxs
        cases hv : ss[k]
        · rw [hv] at hxs1
          clear hv
          by_cases hck : k < cr.length
          · obtain ⟨bc, oc, rfl, hxc⟩ := sc_open (Kd.C_below HCC.out B4.out) (by omega)
            have hxc1 := hxc k hck
            have hck2 : (k : Int) < cr.length := by omega
            clear hxc
            cases hvc : cr[k]
            · rw [hvc] at hxc1
              clear hvc
              go_wp2_with fail
              go_roundw
              case rel => exact ⟨k + 1, sn, lg, al2, by omega, by omega, rfl, by go_num, by go_num, HSM2, ⟨by have := HLN2.out; omega⟩, HSN2, O4, L4, R4, B4⟩
              case measure => simp [intOf]; omega
            · rw [hvc] at hxc1
              clear hvc
              by_cases hpk : k < ps.length
              · skip
                obtain ⟨bp, op, rfl, hxp⟩ := sc_open (Kd.C_below HP.out B4.out) (by omega)
                have hxp1 := hxp k hpk
                have hpk2 : (k : Int) < ps.length := by omega
                have HCR := Aside0.mk (on_Crash_al HSM2.out (by have := HLN2.out; omega) HSN2.out O4.out ps[k] (HPB.out ps[k] (List.getElem_mem hpk)))
                clear hxp
                generalize ps[k] = pk at *
                unfold dptr at HCR
                go_wp2_with fail
                refine HCR.out.mono ?_
                rintro e w15 ⟨rfl, ⟨m, t, s15, hm1, hm2, ht, htl, ho15⟩, hk15⟩
                have R15 := Aside0.mk (R_kept rfl R4.out hk15 off_str)
                have B15 := Aside0.mk (B4.out.trans hk15.below)
                have HST := Aside0.mk (HSM2.out.take m)
                have hm3 : (al2.take m).length = m := by rw [List.length_take]; omega
                have HLT := Aside0.mk (show (al2.take m).length ≤ k + 1 by rw [hm3]; have := HLN2.out; omega)
                have HOP := Aside0.mk (on_Open_al HST.out (by have := HLT.out; omega) t ht ho15 htl)
                have htk := sl_take (P := Tryd.prog) Kd.string 22 9 .i64 Tryd.underlying22 info_str rfl A4 al2 c4 (m : Int) (by omega) (by omega) HC4.out
                rw [Int.toNat_natCast] at htk
                generalize al2.take m = al3 at *
                subst hm3
                obtain ⟨hs8, hc9, hC9⟩ := htk
                have HC9 := Aside0.mk hC9
                have hf1 : ¬ (al3.length : Int) < (sn : Nat) := by omega
                have hf2 : ¬ (al2.length : Int) < al3.length := by omega
                have hf3 : ¬ al3.length < sn := by omega
                have hf4 : ¬ al2.length < al3.length := by omega
                clear ho15 hk15 HCR ht htl hC9 hm1 hm2 O4 L4 R4 B4
                unfold dptr at HOP
                go_wp2_with fail
                refine HOP.out.mono ?_
                rintro e w16 ⟨lg16, v16, s16, rfl, hr16, ho16, hl16, hk16⟩
                have O16 := Aside0.mk ho16
                have L16 := Aside0.mk hl16
                have R16 := Aside0.mk (R_kept rfl R15.out hk16 off_str)
                have B16 := Aside0.mk (B15.out.trans hk16.below)
                obtain ⟨A16, c16, rfl, _, _⟩ := Kd.R_reads hr16
                have RR16 := Aside0.mk hr16
                have HTX := Aside0.mk (keep_Texts A16 A4 c16 c4 al3 al3 w16 (str_C_of hr16) (HC9.out w16 (str_C_of R16.out)))
                rw [decide_eq_true rfl] at HTX
                clear hr16 ho16 hl16 hk16 HOP R15 B15
                unfold lptr
                go_wp2_with fail
                refine HTX.out.mono ?_
                rintro e w17 ⟨rfl, hb17⟩
                have O17 := Aside0.mk (O16.out.below hb17)
                have L17 := Aside0.mk (L16.out.made hb17)
                have RR17 := Aside0.mk (Kd.C_below (str_C_of RR16.out) hb17)
                have B17 := Aside0.mk (B16.out.trans (hb17.mono B16.out.size))
                clear hb17 HTX O16 L16 R16 B16 RR16 hs8
                have RE := Aside0.mk (str_R_lit w17 [] 9 (by simp))
                have BA := Aside0.mk (below_alloc (Below.refl w17.heap.size w17) (.cells #[] 9))
                go_wp2_with (at_builtin; go_loud (refine str_append_row (.tmp 138) (.tmp 139) 22 9 (.slice (some ⟨w17.heap.size, 0, none⟩) 0 0) [] al3 A16 al3.length c16 w17.heap.size rfl rfl Tryd.underlying22 info_str rfl rfl RE.out (Kd.C_below RR17.out BA.out) BA.out.size ?c2 ?_))
                case c2 => have := HLT.out; simp; omega
                intro v18 w18 hr18 hb18 hg18 ha18
                have G18 := Aside0.mk (Grew.of_own RE.out hb18 hg18)
                have O18 := Aside0.mk ((O17.out.below BA.out).grew G18.out off_str)
                have L18 := Aside0.mk ((L17.out.made BA.out).grew G18.out (by decide))
                have R18 := Aside0.mk (Kd.R_lower hr18 B17.out.size)
                have B18 := Aside0.mk (B17.out.trans ((BA.out.trans hb18).mono B17.out.size))
                obtain ⟨A18, c18, rfl, _, _⟩ := Kd.R_reads hr18
                have HSY2 := Aside0.mk (on_Sync O18.out L18.out)
                clear hr18 hb18 hg18 ha18 G18 O17 L17 RE BA B17 RR17
                unfold lptr at HSY2
                go_wp2_with fail
                refine HSY2.out.mono ?_
                rintro e w19 ⟨rfl, ho19, hk19⟩
                have O19 := Aside0.mk ho19
                have L19 := Aside0.mk (L18.out.kept hk19)
                have R19 := Aside0.mk (R_kept rfl R18.out hk19 off_str)
                have B19 := Aside0.mk (B18.out.trans hk19.below)
                clear ho19 hk19 HSY2 O18 L18 R18 B18
                go_wp2_with fail
                go_roundw
                case rel => exact ⟨k + 1, al3.length, lg16, al3, by omega, by omega, rfl, by go_num, by go_num, HST, HLT, ⟨Nat.le_refl _⟩, ⟨by rw [List.take_length]; exact O19.out⟩, L19, R19, B19⟩
                case measure => simp [intOf]; omega
              · have hpk2 : ¬ (k : Int) < ps.length := by omega
                go_wp2_with fail
                go_roundw
                case rel => exact ⟨k + 1, sn, lg, al2, by omega, by omega, rfl, by go_num, by go_num, HSM2, ⟨by have := HLN2.out; omega⟩, HSN2, O4, L4, R4, B4⟩
                case measure => simp [intOf]; omega
          · have hck2 : ¬ (k : Int) < cr.length := by omega
            go_wp2_with fail
            go_roundw
            case rel => exact ⟨k + 1, sn, lg, al2, by omega, by omega, rfl, by go_num, by go_num, HSM2, ⟨by have := HLN2.out; omega⟩, HSN2, O4, L4, R4, B4⟩
            case measure => simp [intOf]; omega
        · rw [hv] at hxs1
          clear hv
          have HSY := Aside0.mk (on_Sync O4.out L4.out)
          unfold lptr at HSY
          go_wp2_with fail
          refine HSY.out.mono ?_
          rintro e w5 ⟨rfl, ho5, hk5⟩
          rw [show (recsA al2).length = (recsA (al2.take al2.length)).length by rw [List.take_length]] at ho5
          have O5 := Aside0.mk ho5
          have L5 := Aside0.mk (L4.out.kept hk5)
          have R5 := Aside0.mk (R_kept rfl R4.out hk5 off_str)
          have B5 := Aside0.mk (B4.out.trans hk5.below)
          have HSN5 := Aside0.mk (Nat.le_refl al2.length)
          clear ho5 hk5 HSY O4 L4 R4 B4 hxs1
          by_cases hck : k < cr.length
          · obtain ⟨bc, oc, rfl, hxc⟩ := sc_open (Kd.C_below HCC.out B5.out) (by omega)
            have hxc1 := hxc k hck
            have hck2 : (k : Int) < cr.length := by omega
            clear hxc
            cases hvc : cr[k]
            · rw [hvc] at hxc1
              clear hvc
              go_wp2_with fail
              go_roundw
              case rel => exact ⟨k + 1, al2.length, lg, al2, by omega, by omega, rfl, by go_num, by go_num, HSM2, ⟨by have := HLN2.out; omega⟩, HSN5, O5, L5, R5, B5⟩
              case measure => simp [intOf]; omega
            · rw [hvc] at hxc1
              clear hvc
              by_cases hpk : k < ps.length
              · skip
                obtain ⟨bp, op, rfl, hxp⟩ := sc_open (Kd.C_below HP.out B5.out) (by omega)
                have hxp1 := hxp k hpk
                have hpk2 : (k : Int) < ps.length := by omega
                have HCR := Aside0.mk (on_Crash_al HSM2.out (by have := HLN2.out; omega) HSN5.out O5.out ps[k] (HPB.out ps[k] (List.getElem_mem hpk)))
                clear hxp
                generalize ps[k] = pk at *
                unfold dptr at HCR
                go_wp2_with fail
                refine HCR.out.mono ?_
                rintro e w15 ⟨rfl, ⟨m, t, s15, hm1, hm2, ht, htl, ho15⟩, hk15⟩
                have R15 := Aside0.mk (R_kept rfl R5.out hk15 off_str)
                have B15 := Aside0.mk (B5.out.trans hk15.below)
                have HST := Aside0.mk (HSM2.out.take m)
                have hm3 : (al2.take m).length = m := by rw [List.length_take]; omega
                have HLT := Aside0.mk (show (al2.take m).length ≤ k + 1 by rw [hm3]; have := HLN2.out; omega)
                have HOP := Aside0.mk (on_Open_al HST.out (by have := HLT.out; omega) t ht ho15 htl)
                have htk := sl_take (P := Tryd.prog) Kd.string 22 9 .i64 Tryd.underlying22 info_str rfl A4 al2 c4 (m : Int) (by omega) (by omega) HC4.out
                rw [Int.toNat_natCast] at htk
                generalize al2.take m = al3 at *
                subst hm3
                obtain ⟨hs8, hc9, hC9⟩ := htk
                have HC9 := Aside0.mk hC9
                have hf1 : ¬ (al3.length : Int) < (al2.length : Nat) := by omega
                have hf2 : ¬ (al2.length : Int) < al3.length := by omega
                have hf3 : ¬ al3.length < al2.length := by omega
                have hf4 : ¬ al2.length < al3.length := by omega
                clear ho15 hk15 HCR ht htl hC9 hm1 hm2 O5 L5 R5 B5
                unfold dptr at HOP
                go_wp2_with fail
                refine HOP.out.mono ?_
                rintro e w16 ⟨lg16, v16, s16, rfl, hr16, ho16, hl16, hk16⟩
                have O16 := Aside0.mk ho16
                have L16 := Aside0.mk hl16
                have R16 := Aside0.mk (R_kept rfl R15.out hk16 off_str)
                have B16 := Aside0.mk (B15.out.trans hk16.below)
                obtain ⟨A16, c16, rfl, _, _⟩ := Kd.R_reads hr16
                have RR16 := Aside0.mk hr16
                have HTX := Aside0.mk (keep_Texts A16 A4 c16 c4 al3 al3 w16 (str_C_of hr16) (HC9.out w16 (str_C_of R16.out)))
                rw [decide_eq_true rfl] at HTX
                clear hr16 ho16 hl16 hk16 HOP R15 B15
                unfold lptr
                go_wp2_with fail
                refine HTX.out.mono ?_
                rintro e w17 ⟨rfl, hb17⟩
                have O17 := Aside0.mk (O16.out.below hb17)
                have L17 := Aside0.mk (L16.out.made hb17)
                have RR17 := Aside0.mk (Kd.C_below (str_C_of RR16.out) hb17)
                have B17 := Aside0.mk (B16.out.trans (hb17.mono B16.out.size))
                clear hb17 HTX O16 L16 R16 B16 RR16 hs8
                have RE := Aside0.mk (str_R_lit w17 [] 9 (by simp))
                have BA := Aside0.mk (below_alloc (Below.refl w17.heap.size w17) (.cells #[] 9))
                go_wp2_with (at_builtin; go_loud (refine str_append_row (.tmp 138) (.tmp 139) 22 9 (.slice (some ⟨w17.heap.size, 0, none⟩) 0 0) [] al3 A16 al3.length c16 w17.heap.size rfl rfl Tryd.underlying22 info_str rfl rfl RE.out (Kd.C_below RR17.out BA.out) BA.out.size ?c2 ?_))
                case c2 => have := HLT.out; simp; omega
                intro v18 w18 hr18 hb18 hg18 ha18
                have G18 := Aside0.mk (Grew.of_own RE.out hb18 hg18)
                have O18 := Aside0.mk ((O17.out.below BA.out).grew G18.out off_str)
                have L18 := Aside0.mk ((L17.out.made BA.out).grew G18.out (by decide))
                have R18 := Aside0.mk (Kd.R_lower hr18 B17.out.size)
                have B18 := Aside0.mk (B17.out.trans ((BA.out.trans hb18).mono B17.out.size))
                obtain ⟨A18, c18, rfl, _, _⟩ := Kd.R_reads hr18
                have HSY2 := Aside0.mk (on_Sync O18.out L18.out)
                clear hr18 hb18 hg18 ha18 G18 O17 L17 RE BA B17 RR17
                unfold lptr at HSY2
                go_wp2_with fail
                refine HSY2.out.mono ?_
                rintro e w19 ⟨rfl, ho19, hk19⟩
                have O19 := Aside0.mk ho19
                have L19 := Aside0.mk (L18.out.kept hk19)
                have R19 := Aside0.mk (R_kept rfl R18.out hk19 off_str)
                have B19 := Aside0.mk (B18.out.trans hk19.below)
                clear ho19 hk19 HSY2 O18 L18 R18 B18
                go_wp2_with fail
                go_roundw
                case rel => exact ⟨k + 1, al3.length, lg16, al3, by omega, by omega, rfl, by go_num, by go_num, HST, HLT, ⟨Nat.le_refl _⟩, ⟨by rw [List.take_length]; exact O19.out⟩, L19, R19, B19⟩
                case measure => simp [intOf]; omega
              · have hpk2 : ¬ (k : Int) < ps.length := by omega
                go_wp2_with fail
                go_roundw
                case rel => exact ⟨k + 1, al2.length, lg, al2, by omega, by omega, rfl, by go_num, by go_num, HSM2, ⟨by have := HLN2.out; omega⟩, HSN5, O5, L5, R5, B5⟩
                case measure => simp [intOf]; omega
          · have hck2 : ¬ (k : Int) < cr.length := by omega
            go_wp2_with fail
            go_roundw
            case rel => exact ⟨k + 1, al2.length, lg, al2, by omega, by omega, rfl, by go_num, by go_num, HSM2, ⟨by have := HLN2.out; omega⟩, HSN5, O5, L5, R5, B5⟩
            case measure => simp [intOf]; omega
      · have hsk2 : ¬ (k : Int) < ss.length := by omega
        by_cases hck : k < cr.length
        · obtain ⟨bc, oc, rfl, hxc⟩ := sc_open (Kd.C_below HCC.out B4.out) (by omega)
          have hxc1 := hxc k hck
          have hck2 : (k : Int) < cr.length := by omega
          clear hxc
          cases hvc : cr[k]
          · rw [hvc] at hxc1
            clear hvc
            go_wp2_with fail
            go_roundw
            case rel => exact ⟨k + 1, sn, lg, al2, by omega, by omega, rfl, by go_num, by go_num, HSM2, ⟨by have := HLN2.out; omega⟩, HSN2, O4, L4, R4, B4⟩
            case measure => simp [intOf]; omega
          · rw [hvc] at hxc1
            clear hvc
            by_cases hpk : k < ps.length
            · skip
              obtain ⟨bp, op, rfl, hxp⟩ := sc_open (Kd.C_below HP.out B4.out) (by omega)
              have hxp1 := hxp k hpk
              have hpk2 : (k : Int) < ps.length := by omega
              have HCR := Aside0.mk (on_Crash_al HSM2.out (by have := HLN2.out; omega) HSN2.out O4.out ps[k] (HPB.out ps[k] (List.getElem_mem hpk)))
              clear hxp
              generalize ps[k] = pk at *
              unfold dptr at HCR
              go_wp2_with fail
              refine HCR.out.mono ?_
              rintro e w15 ⟨rfl, ⟨m, t, s15, hm1, hm2, ht, htl, ho15⟩, hk15⟩
              have R15 := Aside0.mk (R_kept rfl R4.out hk15 off_str)
              have B15 := Aside0.mk (B4.out.trans hk15.below)
              have HST := Aside0.mk (HSM2.out.take m)
              have hm3 : (al2.take m).length = m := by rw [List.length_take]; omega
              have HLT := Aside0.mk (show (al2.take m).length ≤ k + 1 by rw [hm3]; have := HLN2.out; omega)
              have HOP := Aside0.mk (on_Open_al HST.out (by have := HLT.out; omega) t ht ho15 htl)
              have htk := sl_take (P := Tryd.prog) Kd.string 22 9 .i64 Tryd.underlying22 info_str rfl A4 al2 c4 (m : Int) (by omega) (by omega) HC4.out
              rw [Int.toNat_natCast] at htk
              generalize al2.take m = al3 at *
              subst hm3
              obtain ⟨hs8, hc9, hC9⟩ := htk
              have HC9 := Aside0.mk hC9
              have hf1 : ¬ (al3.length : Int) < (sn : Nat) := by omega
              have hf2 : ¬ (al2.length : Int) < al3.length := by omega
              have hf3 : ¬ al3.length < sn := by omega
              have hf4 : ¬ al2.length < al3.length := by omega
              clear ho15 hk15 HCR ht htl hC9 hm1 hm2 O4 L4 R4 B4
              unfold dptr at HOP
              go_wp2_with fail
              refine HOP.out.mono ?_
              rintro e w16 ⟨lg16, v16, s16, rfl, hr16, ho16, hl16, hk16⟩
              have O16 := Aside0.mk ho16
              have L16 := Aside0.mk hl16
              have R16 := Aside0.mk (R_kept rfl R15.out hk16 off_str)
              have B16 := Aside0.mk (B15.out.trans hk16.below)
              obtain ⟨A16, c16, rfl, _, _⟩ := Kd.R_reads hr16
              have RR16 := Aside0.mk hr16
              have HTX := Aside0.mk (keep_Texts A16 A4 c16 c4 al3 al3 w16 (str_C_of hr16) (HC9.out w16 (str_C_of R16.out)))
              rw [decide_eq_true rfl] at HTX
              clear hr16 ho16 hl16 hk16 HOP R15 B15
              unfold lptr
              go_wp2_with fail
              refine HTX.out.mono ?_
              rintro e w17 ⟨rfl, hb17⟩
              have O17 := Aside0.mk (O16.out.below hb17)
              have L17 := Aside0.mk (L16.out.made hb17)
              have RR17 := Aside0.mk (Kd.C_below (str_C_of RR16.out) hb17)
              have B17 := Aside0.mk (B16.out.trans (hb17.mono B16.out.size))
              clear hb17 HTX O16 L16 R16 B16 RR16 hs8
              have RE := Aside0.mk (str_R_lit w17 [] 9 (by simp))
              have BA := Aside0.mk (below_alloc (Below.refl w17.heap.size w17) (.cells #[] 9))
              go_wp2_with (at_builtin; go_loud (refine str_append_row (.tmp 138) (.tmp 139) 22 9 (.slice (some ⟨w17.heap.size, 0, none⟩) 0 0) [] al3 A16 al3.length c16 w17.heap.size rfl rfl Tryd.underlying22 info_str rfl rfl RE.out (Kd.C_below RR17.out BA.out) BA.out.size ?c2 ?_))
              case c2 => have := HLT.out; simp; omega
              intro v18 w18 hr18 hb18 hg18 ha18
              have G18 := Aside0.mk (Grew.of_own RE.out hb18 hg18)
              have O18 := Aside0.mk ((O17.out.below BA.out).grew G18.out off_str)
              have L18 := Aside0.mk ((L17.out.made BA.out).grew G18.out (by decide))
              have R18 := Aside0.mk (Kd.R_lower hr18 B17.out.size)
              have B18 := Aside0.mk (B17.out.trans ((BA.out.trans hb18).mono B17.out.size))
              obtain ⟨A18, c18, rfl, _, _⟩ := Kd.R_reads hr18
              have HSY2 := Aside0.mk (on_Sync O18.out L18.out)
              clear hr18 hb18 hg18 ha18 G18 O17 L17 RE BA B17 RR17
              unfold lptr at HSY2
              go_wp2_with fail
              refine HSY2.out.mono ?_
              rintro e w19 ⟨rfl, ho19, hk19⟩
              have O19 := Aside0.mk ho19
              have L19 := Aside0.mk (L18.out.kept hk19)
              have R19 := Aside0.mk (R_kept rfl R18.out hk19 off_str)
              have B19 := Aside0.mk (B18.out.trans hk19.below)
              clear ho19 hk19 HSY2 O18 L18 R18 B18
              go_wp2_with fail
              go_roundw
              case rel => exact ⟨k + 1, al3.length, lg16, al3, by omega, by omega, rfl, by go_num, by go_num, HST, HLT, ⟨Nat.le_refl _⟩, ⟨by rw [List.take_length]; exact O19.out⟩, L19, R19, B19⟩
              case measure => simp [intOf]; omega
            · have hpk2 : ¬ (k : Int) < ps.length := by omega
              go_wp2_with fail
              go_roundw
              case rel => exact ⟨k + 1, sn, lg, al2, by omega, by omega, rfl, by go_num, by go_num, HSM2, ⟨by have := HLN2.out; omega⟩, HSN2, O4, L4, R4, B4⟩
              case measure => simp [intOf]; omega
        · have hck2 : ¬ (k : Int) < cr.length := by omega
          go_wp2_with fail
          go_roundw
          case rel => exact ⟨k + 1, sn, lg, al2, by omega, by omega, rfl, by go_num, by go_num, HSM2, ⟨by have := HLN2.out; omega⟩, HSN2, O4, L4, R4, B4⟩
          case measure => simp [intOf]; omega
    · have hex : (¬ (k : Int) < l.length) ∨ ((k : Int) < l.length ∧ ¬ (k : Int) < 30) := by omega
      have HL40 := Aside0.mk (show al.length ≤ 40 by have := HLN.out; omega)
      have HOP := Aside0.mk (on_Open_whole HSM.out HL40.out HON.out)
      unfold dptr at HOP
      rcases hex with hex | ⟨hex1, hex2⟩
      all_goals
        go_wp2_with fail
        refine HOP.out.mono ?_
        rintro e w5 ⟨lg2, v5, s5, rfl, hr5, ho5, hl5, hk5⟩
        have R5 := Aside0.mk (R_kept rfl HR.out hk5 off_str)
        have B5 := Aside0.mk (HB.out.trans hk5.below)
        obtain ⟨A5, c5, rfl, _, _⟩ := Kd.R_reads hr5
        have HTX := Aside0.mk (keep_Texts A5 A8 c5 c8 al al w5 (str_C_of hr5) (str_C_of R5.out))
        rw [decide_eq_true rfl] at HTX
        clear hr5 ho5 hl5 hk5 HOP HR HB
        unfold lptr
        go_wp2_with fail
        refine HTX.out.mono ?_
        rintro e w6 ⟨rfl, hb6⟩
        have B6 := Aside0.mk (B5.out.trans (hb6.mono B5.out.size))
        have HKN := Aside0.mk (law_known w6)
        clear hb6 HTX R5 B5
        go_wp2_with fail
        refine HKN.out.mono ?_
        rintro e w7 ⟨rfl, hb7⟩
        have B7 := Aside0.mk (B6.out.trans (hb7.mono B6.out.size))
        clear hb7 HKN B6
        go_wp2
        go_ret
        exact ⟨rfl, B7.out⟩
end Go.Proofs.YthacnbbijmgjfaaDoor.Lib0

/- WalGoes: the walk. -/
import Derived.Test.YthacnbbijmgjfaaDoorAl
import Derived.StillTailTactics
import Derived.IntWalk
set_option linter.unusedVariables false
set_option linter.unusedSimpArgs false
namespace Go.Proofs.YthacnbbijmgjfaaDoor.Lib0
open Go.RowKit Go.Proofs.YthacnbbijmgjfaaDoorW.PrintWords Go.ChangeMaps

set_option maxHeartbeats 16000000 in
set_option maxRecDepth 100000 in
theorem walk_WalGoes (A O : Option Addr) (ca co : Nat) (l : List ByteArray) (os : List Bool) (turn : UInt8) (w : World) (hl : Kd.string.C w A l.length l) (ho : Kd.bool.C w O os.length os) :
    Calls Tryd.prog 7 #[.slice A l.length ca, .slice O os.length co, .int .u8 turn.toNat] w fun e w' => e = .returned (.bool true) ∧ Below w.heap.size w w' := by
  have HC := Aside0.mk hl
  have HO := Aside0.mk ho
  have hl63 := hl.2.1
  have ho63 := ho.2.1
  clear hl ho
  go_enter Tryd.func7, Tryd.ntmps7
  go_wp2_with fail
  refine (on_New w).mono ?_
  rintro e w1 ⟨d, rfl, ho, hb⟩
  have B1 := Aside0.mk hb
  have HOP := Aside0.mk (on_Open_whole (al := []) (by intro s hs; cases hs) (by simp) ho)
  clear ho hb
  unfold dptr at *
  go_wp2_with fail
  refine HOP.out.mono ?_
  rintro e w2 ⟨lg, v2, s2, rfl, hr2, ho2, hl2, hk2⟩
  have O2 := Aside0.mk ho2
  have L2 := Aside0.mk hl2
  have B2 := Aside0.mk (B1.out.trans hk2.below)
  obtain ⟨A2, c2, rfl, _, _⟩ := Kd.R_reads hr2
  clear ho2 hl2 hk2 hr2 HOP
  unfold lptr
  go_wp2_with fail
  go_loopw [8, 11, 12] (fun v5 v8 v9 wr => ∃ (k lg s : Nat), k ≤ l.length ∧ k ≤ 20 ∧ v5 = .pointer (some ⟨lg, 0, none⟩) ∧ v9 = .int .i64 k ∧ Aside0 (On wr w.heap.size d (recsA ((l.take k).map fewS)) s (-1)) ∧ Aside0 (LogAt wr lg d logN) ∧ Aside0 (Kd.string.R 9 wr w.heap.size (fun _ => True) v8 ((l.take k).map fewS)) ∧ Aside0 (Below w.heap.size w wr)) (fun _ _ i _ => 20 - (intOf i).toNat)
  case atStart => exact ⟨0, lg, s2, by omega, by omega, rfl, rfl, ⟨by rw [List.take_zero]; exact O2.out⟩, L2, ⟨by rw [List.take_zero]; exact Kd.R_nil _ _ _ _ _⟩, B2⟩
  case round =>
    clear O2 L2 B2 B1
    obtain ⟨k, lg, s, hk, hk20, rfl, rfl, HON, HLG, HR, HB⟩ := hrel
    obtain ⟨A8, c8, rfl, hc8, _⟩ := Kd.R_reads HR.out
    have HC8 := Aside0.mk hc8
    clear hc8
    by_cases hgo : k < l.length ∧ k < 20
    · obtain ⟨hlt, h20⟩ := hgo
      obtain ⟨b, o, rfl, hx⟩ := str_open (Kd.C_below HC.out HB.out) (by omega)
      have hx1 := hx k hlt
      have HX := Aside0.mk (fun (W : World) (hb : Below w.heap.size w W) => show W.cell? ⟨b, o + k, none⟩ = some (.string l[k]) from by
        obtain ⟨b', o', he, hx'⟩ := str_open (Kd.C_below HC.out hb) (by omega)
        cases he
        exact hx' k hlt)
      have hlt2 : (k : Int) < l.length := by omega
      have h202 : (k : Int) < 20 := by omega
      have HT := Aside0.mk (show (l.take (k+1)).map fewS = (l.take k).map fewS ++ [fewS l[k]] by rw [List.take_succ_eq_append_getElem hlt, List.map_append]; rfl)
      have HSM := Aside0.mk (small_few (l.take k))
      have HLN := Aside0.mk (show ((l.take k).map fewS).length < 20 by rw [List.length_map, List.length_take]; omega)
      clear hx
      have HFS := Aside0.mk (fewS_size l[k])
      have HFW := Aside0.mk (law_few' l[k])
      generalize l[k] = sk at *
      generalize fewS sk = fs at *
      obtain ⟨al2, hal2⟩ : ∃ al2, al2 = (l.take (k+1)).map fewS := ⟨_, rfl⟩
      rw [← hal2] at HT
      have HE := Aside0.mk hal2
      clear hal2
      generalize (l.take k).map fewS = al at *
      have HSM2 := Aside0.mk (show Small al2 by rw [HT.out]; exact HSM.out.snoc HFS.out)
      have HLN2 := Aside0.mk (show al2.length ≤ 20 by rw [HT.out, List.length_append, List.length_singleton]; have := HLN.out; omega)
      have HAP := Aside0.mk (on_Append_al HSM.out (by have := HLN.out; omega) HON.out HLG.out fs HFS.out)
      rw [← HT.out] at HAP
      unfold lptr at HAP
      go_wp2_with fail
      refine (HFW.out wr).mono ?_
      rintro e w' ⟨rfl, rfl⟩
      go_wp2_with fail
      refine HAP.out.mono ?_
      rintro e w3 ⟨rfl, ho3, hk3⟩
      have O3 := Aside0.mk ho3
      have L3 := Aside0.mk (HLG.out.kept hk3)
      have R3 := Aside0.mk (R_kept rfl HR.out hk3 off_str)
      have B3 := Aside0.mk (HB.out.trans hk3.below)
      have hx3 := HX.out w3 B3.out
      clear ho3 hk3 HAP HON HLG HR HB hx1
      go_wp2_with fail
      refine (HFW.out w3).mono ?_
      rintro e w' ⟨rfl, rfl⟩
      go_wp2_with (at_builtin; go_loud (refine str_append (.tmp 55) (.tmp 61) 22 9 (.slice A8 al.length c8) al fs w.heap.size rfl rfl Tryd.underlying22 info_str rfl rfl R3.out B3.out.size ?c1 ?_))
      case c1 => have := HLN.out; omega
      intro v4 w4 hr4 hb4 hg4 ha4
      rw [← HT.out] at hr4
      have G4 := Aside0.mk (Grew.of_own R3.out hb4 hg4)
      have O4 := Aside0.mk (O3.out.grew G4.out off_str)
      have L4 := Aside0.mk (L3.out.grew G4.out (by decide))
      have R4 := Aside0.mk hr4
      have B4 := Aside0.mk (B3.out.trans hb4)
      obtain ⟨A4, c4, rfl, _, _⟩ := Kd.R_reads hr4
      clear hr4 hb4 hg4 ha4 G4 O3 L3 R3 B3 HX HFW hx3
      by_cases hok : k < os.length
      · obtain ⟨bo, oo, rfl, hxo⟩ := sc_open (Kd.C_below HO.out B4.out) (by omega)
        have hxo1 := hxo k hok
        have hok2 : (k : Int) < os.length := by omega
        clear hxo
        cases hv : os[k]
        · rw [hv] at hxo1
          clear hv
          go_wp2_with fail
          go_roundw
          case rel => exact ⟨k + 1, lg, s, by omega, by omega, rfl, by go_num, ⟨by rw [← HE.out]; exact O4.out⟩, L4, ⟨by rw [← HE.out]; exact R4.out⟩, B4⟩
          case measure => simp [intOf]; omega
        · rw [hv] at hxo1
          clear hv
          have HOP4 := Aside0.mk (on_Open_whole HSM2.out (by have := HLN2.out; omega) O4.out)
          unfold dptr at HOP4
          go_wp2_with fail
          refine HOP4.out.mono ?_
          rintro e w5 ⟨lg5, v5, s5, rfl, hr5, ho5, hl5, hk5⟩
          have O5 := Aside0.mk ho5
          have L5 := Aside0.mk hl5
          have LL5 := Aside0.mk (L4.out.kept hk5)
          have R5 := Aside0.mk (R_kept rfl R4.out hk5 off_str)
          have B5 := Aside0.mk (B4.out.trans hk5.below)
          obtain ⟨A5, c5, rfl, _, _⟩ := Kd.R_reads hr5
          have HTX := Aside0.mk (keep_Texts A5 A4 c5 c4 al2 al2 w5 (str_C_of hr5) (str_C_of R5.out))
          rw [decide_eq_true rfl] at HTX
          clear hr5 ho5 hl5 hk5 HOP4 O4 L4 R4 B4
          unfold lptr
          go_wp2_with fail
          refine HTX.out.mono ?_
          rintro e w6 ⟨rfl, hb6⟩
          have O6 := Aside0.mk (O5.out.below hb6)
          have L6 := Aside0.mk (L5.out.made hb6)
          have LL6 := Aside0.mk (LL5.out.made hb6)
          have R6 := Aside0.mk (Kd.R_below R5.out hb6)
          have B6 := Aside0.mk (B5.out.trans (hb6.mono B5.out.size))
          have HS6 := Aside0.mk (on_Size O6.out L6.out)
          clear hb6 HTX O5 L5 LL5 R5 B5
          unfold lptr at HS6
          go_wp2_with fail
          refine HS6.out.mono ?_
          rintro e w7 ⟨rfl, hb7⟩
          have O7 := Aside0.mk (O6.out.below hb7)
          have L7 := Aside0.mk (L6.out.made hb7)
          have R7 := Aside0.mk (Kd.R_below R6.out hb7)
          have B7 := Aside0.mk (B6.out.trans (hb7.mono B6.out.size))
          have HS7 := Aside0.mk (on_Size O7.out (LL6.out.made hb7))
          clear hb7 HS6 O6 L6 LL6 R6 B6
          unfold lptr at HS7
          go_wp2_with fail
          refine HS7.out.mono ?_
          rintro e w8 ⟨rfl, hb8⟩
          have O8 := Aside0.mk (O7.out.below hb8)
          have L8 := Aside0.mk (L7.out.made hb8)
          have R8 := Aside0.mk (Kd.R_below R7.out hb8)
          have B8 := Aside0.mk (B7.out.trans (hb8.mono B7.out.size))
          clear hb8 HS7 O7 L7 R7 B7
          go_wp2_with fail
          go_roundw
          case rel => exact ⟨k + 1, lg5, s5, by omega, by omega, rfl, by go_num, ⟨by rw [← HE.out]; exact O8.out⟩, L8, ⟨by rw [← HE.out]; exact R8.out⟩, B8⟩
          case measure => simp [intOf]; omega
      · have hok2 : ¬ (k : Int) < os.length := by omega
        go_wp2_with fail
        go_roundw
        case rel => exact ⟨k + 1, lg, s, by omega, by omega, rfl, by go_num, ⟨by rw [← HE.out]; exact O4.out⟩, L4, ⟨by rw [← HE.out]; exact R4.out⟩, B4⟩
        case measure => simp [intOf]; omega
    · have hex : (¬ (k : Int) < l.length) ∨ ((k : Int) < l.length ∧ ¬ (k : Int) < 20) := by omega
      have HSM := Aside0.mk (small_few (l.take k))
      have HLN := Aside0.mk (show ((l.take k).map fewS).length ≤ 20 by rw [List.length_map, List.length_take]; omega)
      generalize (l.take k).map fewS = al at *
      have HSZ := Aside0.mk (on_Size HON.out HLG.out)
      unfold lptr at HSZ
      rcases hex with hex | ⟨hex1, hex2⟩
      all_goals
        go_wp2_with fail
        refine HSZ.out.mono ?_
        rintro e w3 ⟨rfl, hb3⟩
        have O3 := Aside0.mk (HON.out.below hb3)
        have R3 := Aside0.mk (Kd.R_below HR.out hb3)
        have B3 := Aside0.mk (HB.out.trans (hb3.mono HB.out.size))
        clear hb3 HSZ HON HLG HR HB
        by_cases h0 : al = []
        · subst h0
          have HKN := Aside0.mk (law_known w3)
          go_wp2_with fail
          refine HKN.out.mono ?_
          rintro e w4 ⟨rfl, hb4⟩
          have B4 := Aside0.mk (B3.out.trans (hb4.mono B3.out.size))
          go_wp2
          go_ret
          exact ⟨rfl, B4.out⟩
        · have h00 : al.length ≠ 0 := fun h => h0 (List.length_eq_zero_iff.1 h)
          have h01 : ¬ (al.length : Int) = 0 := by omega
          by_cases ht : turn = 0
          · subst ht
            have HKN := Aside0.mk (law_known w3)
            go_wp2_with fail
            refine HKN.out.mono ?_
            rintro e w4 ⟨rfl, hb4⟩
            have B4 := Aside0.mk (B3.out.trans (hb4.mono B3.out.size))
            go_wp2
            go_ret
            exact ⟨rfl, B4.out⟩
          · have ht1 : ¬ turn.toNat = 0 := fun h => ht (UInt8.toNat_inj.1 (by rw [h]; rfl))
            have ht2 : ¬ (turn.toNat : Int) = 0 := by omega
            have hq1 : ((al.length : Int) == 0) = false := by simpa using h0
            have hq2 : ((turn.toNat : Int) == 0) = false := by rw [beq_eq_false_iff_ne]; exact ht2
            have hp := recsA_pos (al := al) (by omega)
            have hrl := recsA_le HSM.out HLN.out (by omega)
            obtain ⟨m, hm⟩ : ∃ m, (recsA al).length = m + 1 := ⟨(recsA al).length - 1, by omega⟩
            have hw1 : IntKind.i64.wrap (((recsA al).length : Int) - 1) = (m : Int) := by rw [hm]; rw [IntWalk.i64_in _ (by omega)]; omega
            obtain ⟨n, hn⟩ : ∃ n, al.length = n + 1 := ⟨al.length - 1, by omega⟩
            have hw2 : IntKind.i64.wrap ((al.length : Int) - 1) = (n : Int) := by rw [hn]; rw [IntWalk.i64_in _ (by have := HLN.out; omega)]; omega
            have HTN := Aside0.mk (on_Turn O3.out m (by omega) turn)
            obtain ⟨n', t, hn1, hn2, hn3, hn4, hn5⟩ := recsA_turn HSM.out m (by omega) turn ht
            have hn6 := turn_last hm hn1 hn3
            obtain rfl : n' = n := by omega
            rw [hn4] at HTN
            have HTL := Aside0.mk (show t.length ≤ 6000 by have := congrArg List.length hn4; rw [List.length_set, List.length_append] at this; omega)
            have htk := sl_take (P := Tryd.prog) Kd.string 22 9 .i64 Tryd.underlying22 info_str rfl A8 al c8 (n' : Int) (by omega) (by omega) HC8.out
            rw [Int.toNat_natCast] at htk
            have HST := Aside0.mk (HSM.out.take n')
            have HLT := Aside0.mk (show (al.take n').length ≤ 40 by rw [List.length_take]; have := HLN.out; omega)
            have HTS := Aside0.mk hn5
            generalize al.take n' = al3 at *
            obtain ⟨hs8, hc9, hC9⟩ := htk
            have HC9 := Aside0.mk hC9
            clear hn1 hn2 hn3 hn4 hn5 hn6 hp hrl hC9 hm hn
            unfold dptr at HTN
            go_wp2_with fail
            refine HTN.out.mono ?_
            rintro e w4 ⟨rfl, ho4, hk4⟩
            have R4 := Aside0.mk (R_kept rfl R3.out hk4 off_str)
            have B4 := Aside0.mk (B3.out.trans hk4.below)
            have HOP4 := Aside0.mk (on_Open_al HST.out HLT.out t HTS.out ho4 HTL.out)
            clear ho4 hk4 HTN O3 R3 B3
            unfold dptr at HOP4
            go_wp2_with fail
            refine HOP4.out.mono ?_
            rintro e w5 ⟨lg5, v5, s5, rfl, hr5, ho5, hl5, hk5⟩
            have R5 := Aside0.mk (R_kept rfl R4.out hk5 off_str)
            have B5 := Aside0.mk (B4.out.trans hk5.below)
            obtain ⟨A5, c5, rfl, _, _⟩ := Kd.R_reads hr5
            have HTX := Aside0.mk (keep_Texts A5 A8 c5 c8 al3 al3 w5 (str_C_of hr5) (HC9.out w5 (str_C_of R5.out)))
            rw [decide_eq_true rfl] at HTX
            clear hr5 ho5 hl5 hk5 HOP4 R4 B4
            unfold lptr
            go_wp2_with fail
            refine HTX.out.mono ?_
            rintro e w6 ⟨rfl, hb6⟩
            have B6 := Aside0.mk (B5.out.trans (hb6.mono B5.out.size))
            have HKN := Aside0.mk (law_known w6)
            clear hb6 HTX R5 B5
            go_wp2_with fail
            refine HKN.out.mono ?_
            rintro e w7 ⟨rfl, hb7⟩
            have B7 := Aside0.mk (B6.out.trans (hb7.mono B6.out.size))
            clear hb7 HKN B6
            go_wp2
            go_ret
            exact ⟨rfl, B7.out⟩
end Go.Proofs.YthacnbbijmgjfaaDoor.Lib0

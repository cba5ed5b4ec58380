/- WalTurned: the walk. -/
import Derived.Test.YthacnbbijmgjfaaDoorAl
import Derived.StillTailTactics
import Derived.IntWalk
set_option linter.unusedVariables false
set_option linter.unusedSimpArgs false
namespace Go.Proofs.YthacnbbijmgjfaaDoor.Lib0
open Go.RowKit Go.Proofs.YthacnbbijmgjfaaDoorW.PrintWords Go.ChangeMaps

theorem info_int : (Tryd.prog.info? 3).map (fun i => (i.zero, i.size, i.bytes)) = some (some (.int .i64 0), 1, 8) := by kernel_rfl
section
variable {P : Program} {ops : Array Oper} {rest : List Oper} {o : Oper} {a : Act} {Q : Exit → Act → World → Prop}
theorem int_append {W : World} (s x : Operand) (t e : TypeId) (v : Value) (xs : List Int) (p : Int) (base : Nat)
    (hgd : o.guard = none) (ho : o.op = .call { callee := .builtin .append, args := #[s, x], argTypes := #[t, t] })
    (ht : P.underlying t = some (.slice e)) (hinfo : (P.info? e).map (fun i => (i.zero, i.size, i.bytes)) = some (some (.int .i64 0), 1, 8))
    (hs : a.eval s = v) (hx : a.eval x = .slice (some ⟨W.heap.size, 0, none⟩) 1 1)
    (HO : (Kd.int .i64).R e W base (fun _ => True) v xs) (hbase : base ≤ W.heap.size) (hl : xs.length ≤ 1099511627776)
    (h : ∀ v1 w1, (Kd.int .i64).R e w1 base (fun _ => True) v1 (xs ++ [p]) → Below base W w1 → W.grownBy w1 v.ownBlock → (v1.ownBlock = v.ownBlock ∨ ∃ b, v1.ownBlock = some b ∧ W.heap.size ≤ b) → wpList P ops Q rest (a.put o.dst v1) w1) :
    wpList P ops Q (o :: rest) a (W.alloc (.cells #[.int .i64 p] e)) :=
  Kd.R_append (Kd.int .i64) (w0 := W) base hgd s x t e (.int .i64 0) 8 ho ht hinfo rfl (by decide) (by decide) v xs p [.int .i64 p] (fun _ => True) (fun _ => False) hs hx rfl (fun _ hk => hk.elim) (fun _ _ => trivial)
    HO (Below.refl _ _) hbase (by omega) h
end
def endsOf (al : List ByteArray) : List Int := (List.range al.length).map (fun j => ((recsA (al.take (j + 1))).length : Int))
theorem endsOf_len (al : List ByteArray) : (endsOf al).length = al.length := by simp [endsOf]
theorem endsOf_snoc (al : List ByteArray) (m : ByteArray) : endsOf (al ++ [m]) = endsOf al ++ [((recsA (al ++ [m])).length : Int)] := by
  unfold endsOf
  rw [List.length_append, List.length_singleton, List.range_succ, List.map_append, List.map_singleton]
  congr 1
  · apply List.map_congr_left
    intro j hj
    have hj' := List.mem_range.1 hj
    rw [List.take_append_of_le_length (by omega)]
  · rw [List.take_of_length_le (by simp)]
theorem endsOf_get (al : List ByteArray) (j : Nat) (hj : j < (endsOf al).length) : (endsOf al)[j] = ((recsA (al.take (j + 1))).length : Int) := by
  simp [endsOf]
set_option maxHeartbeats 16000000 in
set_option maxRecDepth 100000 in
theorem walk_WalTurned (A : Option Addr) (ca : Nat) (l : List ByteArray) (at_ : Int) (turn : UInt8) (more : ByteArray) (w : World) (hl : Kd.string.C w A l.length l) (hat : -9223372036854775808 ≤ at_ ∧ at_ ≤ 9223372036854775807) :
    Calls Tryd.prog 8 #[.slice A l.length ca, .int .i64 at_, .int .u8 turn.toNat, .string more] w fun e w' => e = .returned (.bool true) ∧ Below w.heap.size w w' := by
  have HC := Aside0.mk hl
  have HAT := Aside0.mk hat
  have hl63 := hl.2.1
  clear hl hat
  go_enter Tryd.func8, Tryd.ntmps8
  go_wp2_with fail
  refine (on_New w).mono ?_
  rintro e w1 ⟨d, rfl, ho, hb⟩
  have B1 := Aside0.mk hb
  have HOP := Aside0.mk (on_Open_whole (al := []) (by intro s hs; cases hs) (by simp) ho)
  clear ho hb
  unfold dptr at *
  go_wp2_with fail
  refine HOP.out.mono ?_
  rintro e w2 ⟨lg, v2, s2, rfl, hr2, ho2, hl2, hk2⟩
  have O2 := Aside0.mk ho2
  have L2 := Aside0.mk hl2
  have B2 := Aside0.mk (B1.out.trans hk2.below)
  obtain ⟨A2, c2, rfl, _, _⟩ := Kd.R_reads hr2
  clear ho2 hl2 hk2 hr2 HOP
  unfold lptr
  go_wp2_with fail
  go_loopw [13, 14, 15] (fun v9 v10 v11 wr => ∃ (k s : Nat), k ≤ l.length ∧ k ≤ 12 ∧ v11 = .int .i64 k ∧ Aside0 (On wr w.heap.size d (recsA ((l.take k).map fewS)) s (-1)) ∧ Aside0 (LogAt wr lg d logN) ∧ Aside0 ((Kd.int .i64).R 3 wr w.heap.size (fun _ => True) v9 (endsOf ((l.take k).map fewS))) ∧ Aside0 (Kd.string.R 9 wr w.heap.size (fun _ => True) v10 ((l.take k).map fewS)) ∧ Aside0 (Below w.heap.size w wr)) (fun _ _ i _ => 12 - (intOf i).toNat)
  case atStart => exact ⟨0, s2, by omega, by omega, rfl, ⟨by rw [List.take_zero]; exact O2.out⟩, L2, ⟨by rw [List.take_zero]; exact Kd.R_nil _ _ _ _ _⟩, ⟨by rw [List.take_zero]; exact Kd.R_nil _ _ _ _ _⟩, B2⟩
  case round =>
    clear O2 L2 B2 B1
    obtain ⟨k, s, hk, hk12, rfl, HON, HLG, HRE, HR, HB⟩ := hrel
    obtain ⟨A8, c8, rfl, hc8, _⟩ := Kd.R_reads HR.out
    have HC8 := Aside0.mk hc8
    clear hc8
    by_cases hgo : k < l.length ∧ k < 12
    · obtain ⟨hlt, h12⟩ := hgo
      obtain ⟨b, o, rfl, hx⟩ := str_open (Kd.C_below HC.out HB.out) (by omega)
      have hx1 := hx k hlt
      have HX := Aside0.mk (fun (W : World) (hb : Below w.heap.size w W) => show W.cell? ⟨b, o + k, none⟩ = some (.string l[k]) from by
        obtain ⟨b', o', he, hx'⟩ := str_open (Kd.C_below HC.out hb) (by omega)
        cases he
        exact hx' k hlt)
      have hlt2 : (k : Int) < l.length := by omega
      have h122 : (k : Int) < 12 := by omega
      have HT := Aside0.mk (show (l.take (k+1)).map fewS = (l.take k).map fewS ++ [fewS l[k]] by rw [List.take_succ_eq_append_getElem hlt, List.map_append]; rfl)
      have HSM := Aside0.mk (small_few (l.take k))
      have HLN := Aside0.mk (show ((l.take k).map fewS).length < 12 by rw [List.length_map, List.length_take]; omega)
      clear hx
      have HFS := Aside0.mk (fewS_size l[k])
      have HFW := Aside0.mk (law_few' l[k])
      generalize l[k] = sk at *
      generalize fewS sk = fs at *
      obtain ⟨al2, hal2⟩ : ∃ al2, al2 = (l.take (k+1)).map fewS := ⟨_, rfl⟩
      rw [← hal2] at HT
      have HE := Aside0.mk hal2
      clear hal2
      generalize (l.take k).map fewS = al at *
      have HEN := Aside0.mk (show endsOf al2 = endsOf al ++ [((recsA al2).length : Int)] by rw [HT.out]; exact endsOf_snoc al fs)
      have HEL := Aside0.mk (show (endsOf al).length < 12 by rw [endsOf_len]; exact HLN.out)
      have HAP := Aside0.mk (on_Append_al HSM.out (by have := HLN.out; omega) HON.out HLG.out fs HFS.out)
      rw [← HT.out] at HAP
      unfold lptr at HAP
      go_wp2_with fail
      refine (HFW.out wr).mono ?_
      rintro e w' ⟨rfl, rfl⟩
      generalize endsOf al = el at *
      obtain ⟨A9, c9, rfl, _, _⟩ := Kd.R_reads HRE.out
      go_wp2_with fail
      refine HAP.out.mono ?_
      rintro e w3 ⟨rfl, ho3, hk3⟩
      have O3 := Aside0.mk ho3
      have L3 := Aside0.mk (HLG.out.kept hk3)
      have E3 := Aside0.mk (R_kept rfl HRE.out hk3 off_int)
      have R3 := Aside0.mk (R_kept rfl HR.out hk3 off_str)
      have B3 := Aside0.mk (HB.out.trans hk3.below)
      have HSZ := Aside0.mk (on_Size ho3 L3.out)
      clear ho3 hk3 HAP HON HLG HR HRE HB hx1
      unfold lptr at HSZ
      go_wp2_with fail
      refine HSZ.out.mono ?_
      rintro e w4 ⟨rfl, hb4⟩
      have O4 := Aside0.mk (O3.out.below hb4)
      have L4 := Aside0.mk (L3.out.made hb4)
      have E4 := Aside0.mk (Kd.R_below E3.out hb4)
      have R4 := Aside0.mk (Kd.R_below R3.out hb4)
      have B4 := Aside0.mk (B3.out.trans (hb4.mono B3.out.size))
      clear hb4 HSZ O3 L3 E3 R3 B3
      go_wp2_with (at_builtin; go_loud (refine int_append (.tmp 59) (.tmp 62) 34 3 (.slice A9 el.length c9) el ((recsA al2).length : Int) w.heap.size rfl rfl Tryd.underlying34 info_int rfl rfl E4.out B4.out.size ?c1 ?_))
      case c1 => have := HEL.out; omega
      intro v5 w5 hr5 hb5 hg5 ha5
      rw [← HEN.out] at hr5
      have G5 := Aside0.mk (Grew.of_own E4.out hb5 hg5)
      have O5 := Aside0.mk (O4.out.grew G5.out off_int)
      have L5 := Aside0.mk (L4.out.grew G5.out (by decide))
      have R5 := Aside0.mk (R_grew rfl R4.out G5.out (by decide))
      have E5 := Aside0.mk hr5
      have B5 := Aside0.mk (B4.out.trans hb5)
      have hx5 := HX.out w5 B5.out
      clear hr5 hb5 hg5 ha5 G5 O4 L4 R4 E4 B4
      go_wp2_with fail
      refine (HFW.out w5).mono ?_
      rintro e w' ⟨rfl, rfl⟩
      go_wp2_with (at_builtin; go_loud (refine str_append (.tmp 64) (.tmp 70) 22 9 (.slice A8 al.length c8) al fs w.heap.size rfl rfl Tryd.underlying22 info_str rfl rfl R5.out B5.out.size ?c2 ?_))
      case c2 => have := HLN.out; omega
      intro v6 w6 hr6 hb6 hg6 ha6
      rw [← HT.out] at hr6
      have G6 := Aside0.mk (Grew.of_own R5.out hb6 hg6)
      have O6 := Aside0.mk (O5.out.grew G6.out off_str)
      have L6 := Aside0.mk (L5.out.grew G6.out (by decide))
      have E6 := Aside0.mk (R_grew rfl E5.out G6.out (by decide))
      have R6 := Aside0.mk hr6
      have B6 := Aside0.mk (B5.out.trans hb6)
      clear hr6 hb6 hg6 ha6 G6 O5 L5 R5 E5 B5 hx5 HX HFW
      go_wp2
      go_roundw
      case rel => exact ⟨k + 1, s, by omega, by omega, by go_num, ⟨by rw [← HE.out]; exact O6.out⟩, L6, ⟨by rw [← HE.out]; exact E6.out⟩, ⟨by rw [← HE.out]; exact R6.out⟩, B6⟩
      case measure => simp [intOf]; omega
    · have hex : (¬ (k : Int) < l.length) ∨ ((k : Int) < l.length ∧ ¬ (k : Int) < 12) := by omega
      have HSM := Aside0.mk (small_few (l.take k))
      have HLN := Aside0.mk (show ((l.take k).map fewS).length ≤ 12 by rw [List.length_map, List.length_take]; omega)
      generalize (l.take k).map fewS = al at *
      have hel := endsOf_len al
      have HEG := Aside0.mk (endsOf_get al)
      have HED : Aside0 (endsOf al = endsOf al) := ⟨rfl⟩
      generalize endsOf al = el at HRE HEG hel
      obtain ⟨A9, c9, rfl, hc9, _⟩ := Kd.R_reads HRE.out
      clear hc9
      rcases hex with hex | ⟨hex1, hex2⟩
      all_goals
        by_cases h0 : al = []
        · subst h0
          have HKN := Aside0.mk (law_known wr)
          go_wp2_with fail
          refine HKN.out.mono ?_
          rintro e w4 ⟨rfl, hb4⟩
          have B4 := Aside0.mk (HB.out.trans (hb4.mono HB.out.size))
          go_wp2
          go_ret
          exact ⟨rfl, B4.out⟩
        · have h00 : al.length ≠ 0 := fun h => h0 (List.length_eq_zero_iff.1 h)
          have hq1 : ((al.length : Int) == 0) = false := by simpa using h0
          by_cases ht : turn = 0
          · subst ht
            have HKN := Aside0.mk (law_known wr)
            go_wp2_with fail
            refine HKN.out.mono ?_
            rintro e w4 ⟨rfl, hb4⟩
            have B4 := Aside0.mk (HB.out.trans (hb4.mono HB.out.size))
            go_wp2
            go_ret
            exact ⟨rfl, B4.out⟩
          · have ht1 : ¬ turn.toNat = 0 := fun h => ht (UInt8.toNat_inj.1 (by rw [h]; rfl))
            have ht2 : ¬ (turn.toNat : Int) = 0 := by omega
            have hq2 : ((turn.toNat : Int) == 0) = false := by rw [beq_eq_false_iff_ne]; exact ht2
            have hp := recsA_pos (al := al) (by omega)
            have hrl := recsA_le HSM.out HLN.out (by omega)
            have hw1 : IntKind.i64.wrap (((recsA al).length : Int) - 1) = ((recsA al).length : Int) - 1 := IntWalk.i64_in _ (by omega)
            have HSZ := Aside0.mk (on_Size HON.out HLG.out)
            unfold lptr at HSZ
            obtain ⟨m, hm⟩ := Int.eq_ofNat_of_zero_le (Int.emod_nonneg at_ (show ((recsA al).length : Int) ≠ 0 by omega))
            have hml := Int.emod_lt_of_pos at_ (show (0 : Int) < (recsA al).length by omega)
            rw [hm] at hml
            have HWIf := Aside0.mk (fun W => book_Within at_ (((recsA al).length : Int) - 1) W HAT.out (by omega) (by omega))
            rw [Int.sub_add_cancel, hm] at HWIf
            have hm2 : m < (recsA al).length := by omega
            obtain ⟨nn, t, hn1, hn2, hn3, hn4, hn5⟩ := recsA_turn HSM.out m hm2 turn ht
            have HTNf := Aside0.mk (fun (W : World) (hb : Below wr.heap.size wr W) => on_Turn (HON.out.below hb) m hm2 turn)
            rw [hn4] at HTNf
            have HTL := Aside0.mk (show t.length ≤ 6000 by have := congrArg List.length hn4; rw [List.length_set, List.length_append] at this; omega)
            have htk := sl_take (P := Tryd.prog) Kd.string 22 9 .i64 Tryd.underlying22 info_str rfl A8 al c8 (nn : Int) (by omega) (by omega) HC8.out
            rw [Int.toNat_natCast] at htk
            have HST := Aside0.mk (HSM.out.take nn)
            have HLT := Aside0.mk (show (al.take nn).length ≤ 12 by rw [List.length_take]; have := HLN.out; omega)
            have HTS := Aside0.mk hn5
            have HEB := Aside0.mk (show ∀ j (hj : j < el.length), j ≤ nn → (j < nn → el[j] ≤ (m : Int)) ∧ (j = nn → ¬ el[j] ≤ (m : Int)) from fun j hj hjn => by
              rw [HEG.out j hj]
              refine ⟨fun h => ?_, fun h => ?_⟩
              · have := recsA_take_mono al (show j + 1 ≤ nn by omega); omega
              · subst h; omega)
            have hn1' : nn < el.length := by omega
            generalize al.take nn = al3 at *
            obtain ⟨hs8, hc9, hC9⟩ := htk
            have HC9 := Aside0.mk hC9
            clear hn2 hn3 hn4 hn5 hp hC9 hm hml HEG
            unfold dptr at HTNf
            go_wp2_with fail
            refine HSZ.out.mono ?_
            rintro e w3 ⟨rfl, hb3⟩
            have L3 := Aside0.mk (HLG.out.made hb3)
            have HTN := Aside0.mk (HTNf.out w3 hb3)
            have R3 := Aside0.mk (Kd.R_below HR.out hb3)
            have E3 := Aside0.mk (Kd.R_below HRE.out hb3)
            have B3 := Aside0.mk (HB.out.trans (hb3.mono HB.out.size))
            have HWI := Aside0.mk (HWIf.out w3)
            clear hb3 HSZ HON HLG HR HRE HB HTNf HWIf
            go_wp2_with fail
            refine HWI.out.mono ?_
            rintro e w' ⟨rfl, rfl⟩
            go_wp2_with fail
            refine HTN.out.mono ?_
            rintro e w4 ⟨rfl, ho4, hk4⟩
            have O4 := Aside0.mk ho4
            have R4 := Aside0.mk (R_kept rfl R3.out hk4 off_str)
            have E4 := Aside0.mk (R_kept rfl E3.out hk4 off_int)
            have B4 := Aside0.mk (B3.out.trans hk4.below)
            clear ho4 hk4 HTN R3 E3 B3 L3 HWI
            go_wp2_with fail
            go_loopw [17] (fun v17 wq => ∃ j : Nat, j ≤ nn ∧ v17 = .int .i64 j ∧ Aside0 (Below w4.heap.size w4 wq)) (fun v _ => nn - (intOf v).toNat)
            case atStart => exact ⟨0, by omega, rfl, ⟨Below.refl _ _⟩⟩
            case round =>
              obtain ⟨j, hj, rfl, HBQ⟩ := hrel
              obtain ⟨A9', c9', hv9, _, hC9'⟩ := Kd.R_reads (Kd.R_below E4.out HBQ.out)
              cases hv9
              obtain ⟨be, oe, rfl, hxe⟩ := sc_open hC9' (by omega)
              have hxj := hxe j (by omega)
              have hjb := HEB.out j (by omega) hj
              have hjl : (j : Int) < al.length := by omega
              have hj12 : (j : Int) < 12 := by have := HLN.out; omega
              clear hxe hC9'
              generalize el[j] = ej at *
              by_cases hjn : j < nn
              · have hle := hjb.1 hjn
                clear hjb
                go_wp2_with fail
                go_roundw
                case rel => exact ⟨j + 1, by omega, by go_num, HBQ⟩
                case measure => simp [intOf]; omega
              · obtain rfl : j = nn := by omega
                have hle := hjb.2 rfl
                clear hjb
                have O5 := Aside0.mk (O4.out.below HBQ.out)
                have R5 := Aside0.mk (Kd.R_below R4.out HBQ.out)
                have B5 := Aside0.mk (B4.out.trans (HBQ.out.mono B4.out.size))
                have HOP5 := Aside0.mk (on_Open_al HST.out (by have := HLT.out; omega) t HTS.out O5.out HTL.out)
                clear O4 R4 E4 B4 HBQ O5
                unfold dptr at HOP5
                go_wp2_with fail
                refine HOP5.out.mono ?_
                rintro e w6 ⟨lg6, v6, s6, rfl, hr6, ho6, hl6, hk6⟩
                have O6 := Aside0.mk ho6
                have L6 := Aside0.mk hl6
                have R6 := Aside0.mk (R_kept rfl R5.out hk6 off_str)
                have B6 := Aside0.mk (B5.out.trans hk6.below)
                obtain ⟨A6, c6, rfl, _, _⟩ := Kd.R_reads hr6
                have HTX := Aside0.mk (keep_Texts A6 A8 c6 c8 al3 al3 w6 (str_C_of hr6) (HC9.out w6 (str_C_of R6.out)))
                rw [decide_eq_true rfl] at HTX
                clear hr6 ho6 hl6 hk6 HOP5 R5 B5 hxj
                unfold lptr
                have HF := Aside0.mk (fun w => law_few' more w)
                have HMS := Aside0.mk (fewS_size more)
                generalize fewS more = mm at *
                go_wp2_with fail
                refine HTX.out.mono ?_
                rintro e w7 ⟨rfl, hb7⟩
                have O7 := Aside0.mk (O6.out.below hb7)
                have L7 := Aside0.mk (L6.out.made hb7)
                have R7 := Aside0.mk (Kd.R_below R6.out hb7)
                have B7 := Aside0.mk (B6.out.trans (hb7.mono B6.out.size))
                have HAP := Aside0.mk (on_Append_al HST.out (by have := HLT.out; omega) O7.out L7.out mm HMS.out)
                obtain ⟨al4, hal4⟩ : ∃ al4, al4 = al3 ++ [mm] := ⟨_, rfl⟩
                rw [← hal4] at HAP
                have HE4 := Aside0.mk hal4
                have HS4 := Aside0.mk (show Small al4 by rw [hal4]; exact HST.out.snoc HMS.out)
                have HL4 := Aside0.mk (show al4.length ≤ 40 by rw [hal4, List.length_append, List.length_singleton]; have := HLT.out; omega)
                clear hal4 hb7 HTX O6 L6 R6 B6 O7 L7
                unfold lptr at HAP
                have F7 := Aside0.mk (HF.out w7)
                go_wp2_with fail
                refine F7.out.mono ?_
                rintro e w' ⟨rfl, rfl⟩
                go_wp2_with fail
                refine HAP.out.mono ?_
                rintro e w8 ⟨rfl, ho8, hk8⟩
                have R8 := Aside0.mk (R_kept rfl R7.out hk8 off_str)
                have B8 := Aside0.mk (B7.out.trans hk8.below)
                have HOP8 := Aside0.mk (on_Open_whole HS4.out HL4.out ho8)
                clear ho8 hk8 HAP R7 B7 F7
                unfold dptr at HOP8
                go_wp2_with fail
                refine HOP8.out.mono ?_
                rintro e w15 ⟨lg2, v15, s15, rfl, hr15, ho15, hl15, hk15⟩
                have R15 := Aside0.mk (R_kept rfl R8.out hk15 off_str)
                have K15 := Aside0.mk (B8.out.trans hk15.below)
                obtain ⟨A15, c15, rfl, _, hC15⟩ := Kd.R_reads hr15
                have C15 := Aside0.mk hC15
                have RE := Aside0.mk (str_R_lit w15 [] 9 (by simp))
                have B16 := Aside0.mk (below_alloc (Below.refl w15.heap.size w15) (.cells #[] 9))
                have F16 := Aside0.mk HF.out
                clear hr15 ho15 hl15 hk15 HOP8 R8 B8 hC15
                unfold lptr
                go_wp2_with (at_builtin; go_loud (refine str_append_row_if (.tmp 141) (.tmp 144) 22 9 (.slice (some ⟨w15.heap.size, 0, none⟩) 0 0) [] al3 A8 al3.length c8 w15.heap.size rfl rfl Tryd.underlying22 info_str rfl rfl RE.out (Kd.C_below (HC9.out w15 (str_C_of R15.out)) B16.out) B16.out.size ?c2 ?_))
                case c2 => have := HLT.out; simp; omega
                intro v16 w16 hr16 hb16 hg16 ha16
                have R16 := Aside0.mk hr16
                have BB16 := Aside0.mk (B16.out.trans hb16)
                have K16 := Aside0.mk (K15.out.trans ((B16.out.trans hb16).mono K15.out.size))
                have S16 := Aside0.mk (B16.out.trans hb16).size
                obtain ⟨A16, c16, rfl, _, _⟩ := Kd.R_reads hr16
                clear hr16 hb16 hg16 ha16 RE B16 R15 F16
                have F17 := Aside0.mk (HF.out w16)
                go_wp2_with (first | (go_at_call 21; refine F17.out.mono ?_; rintro e w17 ⟨rfl, rfl⟩) | (at_builtin; go_loud (refine str_append_if (.tmp 145) (.tmp 148) 22 9 (.slice A16 al3.length c16) al3 mm w15.heap.size rfl rfl Tryd.underlying22 info_str rfl rfl R16.out S16.out ?c3 ?_)))
                case c3 => have := HLT.out; omega
                intro v18 w18 hr18 hb18 hg18 ha18
                rw [← HE4.out] at hr18
                have K18 := Aside0.mk (K16.out.trans (hb18.mono K15.out.size))
                obtain ⟨A18, c18, rfl, _, hC18⟩ := Kd.R_reads hr18
                have HTX2 := Aside0.mk (keep_Texts A15 A18 c15 c18 al4 al4 w18 (Kd.C_below C15.out (BB16.out.trans hb18)) hC18)
                rw [decide_eq_true rfl] at HTX2
                clear hr18 hb18 hg18 ha18 R16 C15 BB16 K16 hC18
                go_wp2_with fail
                refine HTX2.out.mono ?_
                rintro e w19 ⟨rfl, hb19⟩
                have K19 := Aside0.mk (K18.out.trans (hb19.mono K18.out.size))
                have HKN := Aside0.mk (law_known w19)
                clear hb19 HTX2 K18
                go_wp2_with fail
                refine HKN.out.mono ?_
                rintro e w20 ⟨rfl, hb20⟩
                have K20 := Aside0.mk (K19.out.trans (hb20.mono K19.out.size))
                clear hb20 HKN K19
                go_wp2
                go_ret
                exact ⟨rfl, K20.out⟩
end Go.Proofs.YthacnbbijmgjfaaDoor.Lib0

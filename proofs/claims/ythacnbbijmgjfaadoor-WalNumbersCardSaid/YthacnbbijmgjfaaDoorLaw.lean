/- The statements' own helpers: sealed, scanned. -/
import Derived.Test.YthacnbbijmgjfaaDoorBook2
set_option linter.unusedVariables false
set_option linter.unusedSimpArgs false
namespace Go.Proofs.YthacnbbijmgjfaaDoor.Lib0
open Go.RowKit Go.Proofs.YthacnbbijmgjfaaDoorW.PrintWords Go.ChangeMaps

def fewS (s : ByteArray) : ByteArray := if 100 < s.size then s.extract 0 100 else s
theorem fewS_size (s : ByteArray) : (fewS s).size ≤ 100 := by
  unfold fewS
  split
  · simp [ByteArray.size_extract]; omega
  · omega
def sealF (s : ByteArray) : List UInt8 := sealB (byt (fewS s))
def sealedL (l : List ByteArray) : List UInt8 := ((l.take 20).map sealF).flatten
theorem sealF_len (s : ByteArray) : (sealF s).length ≤ 112 := by
  have := fewS_size s
  unfold sealF
  rw [sealB_len, byt_length]
  omega
theorem flat_len : ∀ (l : List ByteArray), ((l.map sealF).flatten).length ≤ 112 * l.length
  | [] => by simp
  | s :: l => by
    have h1 := sealF_len s
    have h2 := flat_len l
    simp only [List.map_cons, List.flatten_cons, List.length_append, List.length_cons]
    omega
set_option maxHeartbeats 1600000 in
set_option maxRecDepth 100000 in
theorem law_sealed (A : Option Addr) (c : Nat) (l : List ByteArray) (w : World) (h : Kd.string.C w A l.length l) :
    Calls Tryd.prog 10 #[.slice A l.length c] w (Row 5 w (sealedL l)) := by
  have HC := Aside0.mk h
  have hl := h.2.1
  clear h
  go_enter Tryd.func10, Tryd.ntmps10
  go_wp2_with fail
  go_loopw [3, 4] (fun v3 v4 wr => ∃ (k : Nat), k ≤ l.length ∧ k ≤ 20 ∧ v4 = .int .i64 k ∧ Aside0 (u8.R 5 wr w.heap.size (fun _ => True) v3 ((l.take k).map sealF).flatten) ∧ Aside0 (Below w.heap.size w wr)) (fun _ i _ => 20 - (intOf i).toNat)
  case atStart => exact ⟨0, by omega, by omega, rfl, ⟨Kd.R_nil _ _ _ _ _⟩, ⟨Below.refl _ _⟩⟩
  case round =>
    obtain ⟨k, hk, hk20, rfl, HR, HB⟩ := hrel
    by_cases hlt : k < l.length
    · by_cases h20 : k < 20
      · obtain ⟨b, o, rfl, hx⟩ := str_open (Kd.C_below HC.out HB.out) (by omega)
        have hx1 := hx k hlt
        have hlt2 : (k : Int) < l.length := by omega
        have HT := Aside0.mk (show ((l.take (k+1)).map sealF).flatten = ((l.take k).map sealF).flatten ++ sealF l[k] by rw [List.take_succ_eq_append_getElem hlt, List.map_append, List.flatten_append]; simp)
        have HLN := Aside0.mk (show (((l.take k).map sealF).flatten).length ≤ 2240 by have := flat_len (l.take k); rw [List.length_take] at this; omega)
        clear hx
        have HSF := Aside0.mk (show sealF l[k] = sealB (byt (fewS l[k])) from rfl)
        generalize l[k] = s at *
        have HFS := Aside0.mk (fewS_size s)
        have HFW := Aside0.mk (law_few s)
        change Aside0 (∀ w : World, Calls Tryd.prog 21 #[.string s] w fun e w' => e = .returned (.string (fewS s)) ∧ w = w') at HFW
        generalize fewS s = fs at *
        generalize sealF s = z at *
        generalize ((l.take k).map sealF).flatten = acc at *
        obtain ⟨A3, c3, rfl, _, _⟩ := u8_R_len HR.out
        have hcv := fun W => Lib.run_convert_string_bytes (P := Tryd.prog) (src := 9) (dst := 23) (e := 5) W fs Tryd.underlying9 Tryd.underlying23 Tryd.underlying5
        go_wp2_with fail
        refine (HFW.out wr).mono ?_
        rintro e w' ⟨rfl, rfl⟩
        go_wp2_with fail
        have hsz : fs.size = (byt fs).length := by rw [byt_length]
        have HW := Aside0.mk (below_bytes wr 5 fs)
        have HCB := Aside0.mk (u8_C_bytes wr 5 fs (by have := HFS.out; omega))
        have HR2 := Aside0.mk (Kd.R_below HR.out (below_bytes wr 5 fs))
        have HB2 := Aside0.mk (HB.out.trans ((below_bytes wr 5 fs).mono HB.out.size))
        obtain ⟨c0, hc0⟩ : ∃ c0, c0 = grownCap wr fs.size 0 5 := ⟨_, rfl⟩
        rw [← hc0, hsz]
        generalize Lib.bytesWorld wr 5 fs = w0 at *
        have HSF' := HSF.out
        have HFS' := Aside0.mk (show (byt fs).length ≤ 100 by rw [byt_length]; exact HFS.out)
        clear hcv hc0 hsz HSF HR HB HFS HFW hx1
        generalize byt fs = bs at *
        refine (ref_Seal _ c0 bs w0 HCB.out (by have := HFS'.out; omega)).mono ?_
        rintro e w1 ⟨v, rfl, hr1, hb1⟩
        rw [← HSF'] at hr1
        have HZL := Aside0.mk (show z.length ≤ 112 by have := HFS'.out; rw [HSF', sealB_len]; omega)
        clear HSF'
        obtain ⟨A4, c4, rfl, _, hC4⟩ := u8_R_len hr1
        have C4 := Aside0.mk hC4
        have R3 := Aside0.mk (Kd.R_below HR2.out hb1)
        have B3 := Aside0.mk (HB2.out.trans (hb1.mono HB2.out.size))
        clear hr1 hb1 hC4
        go_wp2_with (at_builtin; go_loud (refine u8_append (.tmp 27) (.tmp 28) 23 5 (.slice A3 _ c3) _ _ _ _ _ w.heap.size rfl rfl Tryd.underlying23 info_u8 rfl rfl R3.out C4.out B3.out.size ?c1 ?_))
        case c1 => have := HZL.out; have := HLN.out; omega
        intro v5 w5 hr5 hb5 hg5 ha5
        have R5 := Aside0.mk hr5
        have B5 := Aside0.mk (B3.out.trans hb5)
        clear hr5 hb5 hg5 ha5
        go_wp2
        go_roundw
        case rel => exact ⟨k + 1, by omega, by omega, by go_num, ⟨by rw [HT.out]; exact R5.out⟩, B5⟩
        case measure => simp [intOf]; omega
      · obtain rfl : k = 20 := by omega
        go_wp2
        go_ret
        exact ⟨u3, rfl, HR.out, HB.out⟩
    · obtain rfl : k = l.length := by omega
      have HR2 := Aside0.mk HR.out
      have hz : ((l.take l.length).map sealF).flatten = sealedL l := by unfold sealedL; rw [List.take_length, List.take_of_length_le hk20]
      rw [hz] at HR2
      clear HR hz
      go_wp2
      go_ret
      exact ⟨u3, rfl, HR2.out, HB.out⟩
set_option maxHeartbeats 1600000 in
set_option maxRecDepth 100000 in
theorem law_scanned (A : Option Addr) (c : Nat) (l : List UInt8) (w : World) (h : u8.C w A l.length l) (hc : l.length ≤ c) (hl : l.length ≤ 1099511627776) :
    Calls Tryd.prog 14 #[.slice A l.length c] w (ToldTexts 9 w ((allB l).1.map str) (allB l).2.1) := by
  have HC := Aside0.mk (ref_All A c l w h hc hl)
  have HL := Aside0.mk (Nat.le_trans (allB_le l) hl)
  clear h hl hc
  go_enter Tryd.func14, Tryd.ntmps14
  go_wp2_with fail
  refine HC.out.mono ?_
  rintro e w1 ⟨v1, rfl, hr1, hb1⟩
  generalize allB l = r at *
  obtain ⟨ll, end_, why⟩ := r
  try dsimp only at *
  obtain ⟨A1, c1, rfl, hl1, hC1⟩ := Kd.R_reads hr1
  have C1 := Aside0.mk hC1
  have B1 := Aside0.mk hb1
  have hm : ll.length ≤ 9223372036854775807 := by have := hC1.2.1; omega
  clear hr1 hb1 hC1 HC
  go_wp2_with fail
  go_loopw [7, 8] (fun v7 v18 wr => ∃ (k : Nat), k ≤ ll.length ∧ v18 = .int .i64 k ∧ Aside0 (Kd.string.R 9 wr w1.heap.size (fun _ => True) v7 ((ll.take k).map str)) ∧ Aside0 (Below w1.heap.size w1 wr)) (fun _ i _ => ll.length - (intOf i).toNat)
  case atStart => exact ⟨0, by omega, rfl, ⟨Kd.R_nil _ _ _ _ _⟩, ⟨Below.refl _ _⟩⟩
  case round =>
    obtain ⟨k, hk, rfl, HR, HB⟩ := hrel
    by_cases hlt : k < ll.length
    · obtain ⟨ad, B, c', rfl, hx, hle, hCx⟩ := bb_at (Kd.C_below C1.out HB.out) k hlt
      have HT := Aside0.mk (show (ll.take (k+1)).map str = (ll.take k).map str ++ [str ll[k]] by rw [List.take_succ_eq_append_getElem hlt, List.map_append]; rfl)
      have hcv := u8_string (P := Tryd.prog) (c := c') Tryd.underlying23 Tryd.underlying5 Tryd.underlying9 hCx
      have HLK := Aside0.mk (show ((ll.take k).map str).length ≤ 1099511627776 by have := HL.out; rw [List.length_map, List.length_take]; omega)
      clear hCx hle
      generalize ll[k] = x at *
      generalize (ll.take k).map str = acc at *
      go_wp2_with (at_builtin; refine str_append (.tmp 21) (.tmp 27) 22 9 u7 acc (str x) w1.heap.size rfl rfl Tryd.underlying22 info_str rfl rfl HR.out HB.out.size HLK.out ?_)
      intro v2 w2 hr2 hb2 hg2 ha2
      have R2 := Aside0.mk hr2
      have B2 := Aside0.mk (HB.out.trans hb2)
      clear hr2 hb2 hg2 ha2 hcv
      go_wp2
      go_roundw
      case rel => exact ⟨k + 1, by omega, by go_num, ⟨by rw [HT.out]; exact R2.out⟩, B2⟩
      case measure => simp [intOf]; omega
    · obtain rfl : k = ll.length := by omega
      go_wp2
      go_ret2
      refine ⟨u7, rfl, ?_, B1.out.trans (HB.out.mono B1.out.size)⟩
      have := HR.out
      rw [List.take_length] at this
      exact Kd.R_lower this B1.out.size
end Go.Proofs.YthacnbbijmgjfaaDoor.Lib0

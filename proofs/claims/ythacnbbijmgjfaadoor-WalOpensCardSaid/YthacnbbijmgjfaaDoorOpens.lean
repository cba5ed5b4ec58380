/- WalOpens: the walk. -/
import Derived.Test.YthacnbbijmgjfaaDoorOn
import Derived.StillTailTactics
set_option linter.unusedVariables false
set_option linter.unusedSimpArgs false
namespace Go.Proofs.YthacnbbijmgjfaaDoor.Lib0
open Go.RowKit Go.Proofs.YthacnbbijmgjfaaDoorW.PrintWords Go.ChangeMaps

def recL (l : List ByteArray) : List (List UInt8) := (l.take 20).map (fun s => byt (fewS s))
theorem sealedL_recs (l : List ByteArray) : sealedL l = recs (recL l) := by
  unfold sealedL recs recL
  rw [List.map_map]
  rfl
theorem recL_len (l : List ByteArray) : ∀ x ∈ recL l, x.length ≤ 100 := by
  intro x hx
  unfold recL at hx
  obtain ⟨s, _, rfl⟩ := List.mem_map.1 hx
  rw [byt_length]
  exact fewS_size s
theorem own_lt {α : Type} {dd : Kd α} {e : Nat} {ok : Nat → Prop} {v : Value} {l : List α} {w : World} {b0 : Nat} (h : dd.R e w b0 ok v l) : ∀ k, v.ownBlock = some k → k < w.heap.size := by
  intro k hk
  obtain ⟨inner, ho⟩ := Kd.R_own h
  obtain ⟨cells, hc⟩ := own_typed ho k hk
  exact (Array.getElem?_eq_some_iff.1 hc).1
theorem str_C_of {e : Nat} {w : World} {base n c : Nat} {A : Option Addr} {l : List ByteArray} (h : Kd.string.R e w base (fun _ => True) (.slice A n c) l) : Kd.string.C w A l.length l := by
  obtain ⟨A', c', hv, _, hC⟩ := Kd.R_reads h
  cases hv
  exact hC
theorem law_few' (s : ByteArray) (w : World) : Calls Tryd.prog 21 #[.string s] w fun e w' => e = .returned (.string (fewS s)) ∧ w = w' := law_few s w
theorem u8_C_of {e : Nat} {w : World} {base n c : Nat} {A : Option Addr} {l : List UInt8} (h : u8.R e w base (fun _ => True) (.slice A n c) l) : u8.C w A l.length l := by
  obtain ⟨A', c', hv, _, hC⟩ := u8_R_len h
  cases hv
  exact hC
set_option maxHeartbeats 16000000 in
set_option maxRecDepth 100000 in
theorem walk_WalOpens (A B : Option Addr) (ca cb : Nat) (l : List ByteArray) (b : List UInt8) (more : ByteArray) (w : World) (hl : Kd.string.C w A l.length l) (hb : u8.C w B b.length b) (hcb : b.length ≤ cb) :
    Calls Tryd.prog 6 #[.slice A l.length ca, .slice B b.length cb, .string more] w fun e w' => e = .returned (.bool true) ∧ Below w.heap.size w w' := by
  have HS := Aside0.mk (fun (w1 : World) (hw : Below w.heap.size w w1) => law_sealed A ca l w1 (Kd.C_below hl hw))
  have HSL := Aside0.mk (show (sealedL l).length ≤ 2240 by have := flat_len (l.take 20); rw [List.length_take] at this; unfold sealedL; omega)
  have HB := Aside0.mk hb
  have hb63 := u8_len hb
  obtain ⟨nb, bb, HCB0, HLB, h5⟩ : ∃ (nb : Nat) (bb : List UInt8), Aside0 (u8.C w B nb bb) ∧ Aside0 (bb.length ≤ 500 ∧ nb ≤ 500) ∧ ((500 < (b.length : Int) ∧ nb = 500) ∨ (¬ 500 < (b.length : Int) ∧ nb = b.length)) := by
    rcases Nat.lt_or_ge 500 b.length with h5 | h5
    · exact ⟨500, b.take 500, ⟨by have := Kd.C_take (m := 500) HB.out (by omega); rwa [List.length_take, Nat.min_eq_left (by omega)] at this⟩, ⟨by rw [List.length_take]; omega, by omega⟩, .inl ⟨by omega, rfl⟩⟩
    · exact ⟨b.length, b, HB, ⟨h5, h5⟩, .inr ⟨by omega, rfl⟩⟩
  clear hl hb
  rcases h5 with ⟨h5, rfl⟩ | ⟨h5, rfl⟩
  all_goals
    go_enter Tryd.func6, Tryd.ntmps6
    go_wp2_with fail
    refine (HS.out w (Below.refl _ _)).mono ?_
    rintro e w1 ⟨v, rfl, hr, hb1⟩
    generalize sealedL l = z at *
    obtain ⟨X, cx, rfl, hcx, _⟩ := u8_R_len hr
    have R1 := Aside0.mk hr
    have B1 := Aside0.mk hb1
    have HCB := Aside0.mk (Kd.C_below HCB0.out hb1)
    clear hr hb1
    go_wp2_with (at_builtin; refine u8_append (.tmp 25) (.tmp 26) 23 5 _ z bb _ _ _ w.heap.size rfl rfl Tryd.underlying23 info_u8 rfl rfl R1.out HCB.out B1.out.size ?c1 ?_)
    case c1 => have := HSL.out; have := HLB.out; omega
    intro v5 w5 hr5 hb5 hg5 ha5
    obtain ⟨x, hx⟩ : ∃ x, x = z ++ bb := ⟨_, rfl⟩
    have HXL := Aside0.mk (show x.length ≤ 2740 by have := HSL.out; have := HLB.out; rw [hx, List.length_append]; omega)
    rw [← hx] at hr5
    have R5 := Aside0.mk hr5
    have B5 := Aside0.mk (B1.out.trans hb5)
    clear hr5 hb5 hg5 ha5 hx HCB HCB0 HLB R1 B1 HS
    obtain ⟨X5, c5, rfl, hc5, _⟩ := u8_R_len R5.out
    have OW5 := Aside0.mk (own_lt R5.out)
    go_wp2_with fail
    refine (on_New w5).mono ?_
    rintro e w6 ⟨d, rfl, ho, hb6⟩
    have O6 := Aside0.mk ho
    have B6 := Aside0.mk hb6
    have HA := Aside0.mk (on_disk_Append ho (Kd.R_below R5.out hb6) OW5.out (by have := HXL.out; simp; omega))
    clear ho hb6
    unfold dptr at *
    go_wp2_with fail
    refine HA.out.mono ?_
    rintro e w7 ⟨rfl, ho, hk⟩
    rw [List.nil_append] at ho
    have K7 := Aside0.mk (B6.out.trans hk.below)
    have HSD := Aside0.mk (law_scanned X5 c5 x w7 (u8_C_of (Kd.R_below R5.out K7.out)) hc5 (by have := HXL.out; omega))
    obtain ⟨t, hx1, hx2, hx3, hx4⟩ := allB_is x
    have hx5 : x.take (recs (allB x).1).length = recs (allB x).1 := by
      have := congrArg (List.take (recs (allB x).1).length) hx1
      rwa [List.take_left] at this
    have ho2 := ho
    rw [hx1] at ho2
    have hlen : (recs (allB x).1 ++ t).length ≤ 8000000 := by rw [← hx1]; have := HXL.out; omega
    have HOPf := Aside0.mk (fun (w8 : World) (hb : Below w7.heap.size w7 w8) => on_Open_recs (allB x).1 hx3 t hx4 (ho2.below hb) hlen)
    rw [hx2] at HSD
    have HX5 := Aside0.mk hx5
    have HRL := Aside0.mk (show (recs (allB x).1).length ≤ x.length by have := congrArg List.length hx1; rw [List.length_append] at this; omega)
    have HLL := Aside0.mk hx3
    generalize (allB x).1 = ll at *
    obtain ⟨r, hr⟩ : ∃ r, r = ll.map str := ⟨_, rfl⟩
    rw [← hr] at HSD HOPf
    have HRR := Aside0.mk hr
    have HRC := Aside0.mk (show r.length ≤ 3000 by have := recs_len ll; have := HRL.out; have := HXL.out; rw [hr, List.length_map]; omega)
    clear ho hk ho2 HA hx1 hx2 hx3 hx4 hx5 hr hlen
    unfold dptr at HOPf
    go_wp2_with fail
    refine HSD.out.mono ?_
    rintro e w8 ⟨v8, rfl, hr8, hb8⟩
    obtain ⟨A8, c8, rfl, hc8, hC8⟩ := Kd.R_reads hr8
    have R8 := Aside0.mk hr8
    have K8 := Aside0.mk (K7.out.trans (hb8.mono K7.out.size))
    have HOP := Aside0.mk (HOPf.out w8 hb8)
    clear hr8 hb8 hC8 HSD HOPf
    go_wp2_with fail
    refine HOP.out.mono ?_
    rintro e w9 ⟨lg, v9, s9, rfl, hr9, ho9, hl9, hk9⟩
    obtain ⟨A9, c9, rfl, hc9, hC9⟩ := Kd.R_reads hr9
    have R9 := Aside0.mk (R_kept rfl R8.out hk9 off_str)
    have O9 := Aside0.mk ho9
    have L9 := Aside0.mk hl9
    have K9 := Aside0.mk (K8.out.trans hk9.below)
    obtain ⟨A9', c9', hv9, _, hC9'⟩ := Kd.R_reads R9.out
    cases hv9
    have HTX := Aside0.mk (keep_Texts A9 A8 c9 c8 _ _ w9 hC9 hC9')
    rw [decide_eq_true rfl] at HTX
    clear hr9 ho9 hl9 hk9 hC9 hC9' HOP R8
    unfold lptr
    go_wp2_with fail
    refine HTX.out.mono ?_
    rintro e w10 ⟨rfl, hb10⟩
    have R10 := Aside0.mk (Kd.R_below R9.out (hb10.mono (Nat.le_refl _)))
    have O10 := Aside0.mk (O9.out.below hb10)
    have L10 := Aside0.mk (L9.out.made hb10)
    have K10 := Aside0.mk (K9.out.trans (hb10.mono K9.out.size))
    have HSZ := Aside0.mk (on_Size O10.out L10.out)
    clear hb10 HTX O9 L9 K9 R9
    unfold lptr at *
    go_wp2_with fail
    refine HSZ.out.mono ?_
    rintro e w11 ⟨rfl, hb11⟩
    have R11 := Aside0.mk (Kd.R_below R10.out (hb11.mono (Nat.le_refl _)))
    have O11 := Aside0.mk (O10.out.below hb11)
    have L11 := Aside0.mk (L10.out.made hb11)
    have K11 := Aside0.mk (K10.out.trans (hb11.mono K10.out.size))
    have HRD := Aside0.mk (on_Read O11.out)
    unfold dptr at HRD
    clear hb11 HSZ O10 L10 K10 R10
    go_wp2_with fail
    refine HRD.out.mono ?_
    rintro e w12 ⟨v12, y12, rfl, hr12, hb12, hy12⟩
    obtain ⟨A12, c12, rfl, hc12, hC12⟩ := u8_R_len hr12
    have R12 := Aside0.mk (Kd.R_below R11.out (hb12.mono (Nat.le_refl _)))
    have O12 := Aside0.mk (O11.out.below hb12)
    have L12 := Aside0.mk (L11.out.made hb12)
    have K12 := Aside0.mk (K11.out.trans (hb12.mono K11.out.size))
    have hdr : Below w12.heap.size w12 w12.drew := below_drew _ _
    have hcv := u8_string (P := Tryd.prog) (c := c12) Tryd.underlying23 Tryd.underlying5 Tryd.underlying9 (Kd.C_below hC12 hdr)
    have hxx := u8_C_of (Kd.R_below R5.out K12.out)
    have htk := sl_take (P := Tryd.prog) u8 23 5 .i64 Tryd.underlying23 info_u8 rfl X5 x c5 (recs ll).length (by omega) (by have := HRL.out; omega) (by have := HRL.out; omega)
    rw [Int.toNat_natCast, HX5.out] at htk
    obtain ⟨hs5, hc5', hC5⟩ := htk
    have hcv2 := u8_string (P := Tryd.prog) (c := c5) Tryd.underlying23 Tryd.underlying5 Tryd.underlying9 (hC5 w12.drew (Kd.C_below hxx hdr))
    have HF := Aside0.mk (fun w => law_few' more w)
    have HAP := Aside0.mk (on_Append (O12.out.below hdr) (L12.out.made hdr) (fewS more) (by have := fewS_size more; omega) (by have := HRL.out; have := HXL.out; omega))
    have HMS := Aside0.mk (fewS_size more)
    unfold lptr at HAP
    have R13 := Aside0.mk (Kd.R_below R12.out (hdr.mono (Nat.le_refl _)))
    have K13 := Aside0.mk (K12.out.trans (hdr.mono K12.out.size))
    generalize fewS more = mm at *
    have hbb : (!(str (recs ll)).toList == (str (recs ll)).toList) = false := by simp
    clear hr12 hb12 hC12 HRD O11 L11 K11 R11 hxx hC5 hdr
    have hge0 : (0 : Int) ≤ (recs ll).length := Int.natCast_nonneg _
    have hkk : ((0 : Int) < (recs ll).length ∧ 0 < (recs ll).length ∧ y12 = 0) ∨ (¬ (0 : Int) < (recs ll).length ∧ ¬ 0 < (recs ll).length) := by
      by_cases h0 : 0 < (recs ll).length
      · exact .inl ⟨by omega, h0, hy12 h0⟩
      · exact .inr ⟨by omega, h0⟩
    clear hy12
    rcases hkk with ⟨hkk, hkn, rfl⟩ | ⟨hkk, hkn⟩
    all_goals
      go_wp2_with fail
      refine wp_region_still_tail 19 (by kernel_rfl) (by kernel_rfl) ?_
      simp only [List.take_succ_cons, List.take_zero, List.drop_succ_cons, List.drop_zero]
      repeat still_step
      still_call ((HF.out _).mono fun e w' h => ⟨h.1, h.2.symm⟩)
      refine wpStill_nil ?_
      change wpList _ _ _ _ _ w12.drew
      clear hcv hcv2 hbb hs5 O12 L12 K12 R12
      generalize w12.drew = w13 at *
      go_wp2_with fail
      refine HAP.out.mono ?_
      rintro e w14 ⟨rfl, ho14, hk14⟩
      have O14 := Aside0.mk ho14
      have R14 := Aside0.mk (R_kept rfl R13.out hk14 off_str)
      have K14 := Aside0.mk (K13.out.trans hk14.below)
      have e14 : recs ll ++ sealB (byt mm) = recs (ll ++ [byt mm]) ++ [] := by rw [recs_append]; simp [recs]
      rw [e14] at ho14
      have HOP2 := Aside0.mk (on_Open_recs (ll ++ [byt mm]) (by
        intro y hy
        rcases List.mem_append.1 hy with hy | hy
        · exact HLL.out y hy
        · rw [List.mem_singleton.1 hy, byt_length]; have := HMS.out; omega) [] (.inl rfl) ho14 (by rw [← e14, List.length_append, sealB_len', byt_length]; have := HMS.out; have := HRL.out; have := HXL.out; omega))
      rw [List.map_append, ← HRR.out, List.map_singleton, str_byt] at HOP2
      obtain ⟨r2, hr2⟩ : ∃ r2, r2 = r ++ [mm] := ⟨_, rfl⟩
      rw [← hr2] at HOP2
      have HR2 := Aside0.mk hr2
      clear hr2
      clear ho14 hk14 HAP O14 R13 K13 e14
      unfold dptr at HOP2
      go_wp2_with fail
      refine HOP2.out.mono ?_
      rintro e w15 ⟨lg2, v15, s15, rfl, hr15, ho15, hl15, hk15⟩
      have R15 := Aside0.mk (R_kept rfl R14.out hk15 off_str)
      have K15 := Aside0.mk (K14.out.trans hk15.below)
      obtain ⟨A15, c15, rfl, _, hC15⟩ := Kd.R_reads hr15
      have C15 := Aside0.mk hC15
      clear hr15 ho15 hl15 hk15 HOP2 R14 K14 hC15
      unfold lptr
      have RE := Aside0.mk (str_R_lit w15 [] 9 (by simp))
      have B16 := Aside0.mk (below_alloc (Below.refl w15.heap.size w15) (.cells #[] 9))
      go_wp2_with (at_builtin; (refine str_append_row_if (.tmp 100) (.tmp 101) 22 9 (.slice (some ⟨w15.heap.size, 0, none⟩) 0 0) [] r A8 r.length c8 w15.heap.size rfl rfl Tryd.underlying22 info_str rfl rfl RE.out (Kd.C_below (str_C_of R15.out) B16.out) B16.out.size ?c2 ?_))
      case c2 => have := HRC.out; simp; omega
      intro v16 w16 hr16 hb16 hg16 ha16
      have R16 := Aside0.mk hr16
      have BB16 := Aside0.mk (B16.out.trans hb16)
      have K16 := Aside0.mk (K15.out.trans ((B16.out.trans hb16).mono K15.out.size))
      have S16 := Aside0.mk (B16.out.trans hb16).size
      obtain ⟨A16, c16, rfl, _, _⟩ := Kd.R_reads hr16
      clear hr16 hb16 hg16 ha16 RE B16 R15
      have F16 := Aside0.mk (HF.out w16)
      go_wp2_with (first | (go_at_call 21; refine F16.out.mono ?_; rintro e w17 ⟨rfl, rfl⟩) | (at_builtin; (refine str_append_if (.tmp 102) (.tmp 105) 22 9 (.slice A16 r.length c16) r mm w15.heap.size rfl rfl Tryd.underlying22 info_str rfl rfl R16.out S16.out ?c3 ?_)))
      case c3 => have := HRC.out; omega
      intro v18 w18 hr18 hb18 hg18 ha18
      rw [← HR2.out] at hr18
      have K18 := Aside0.mk (K16.out.trans (hb18.mono (Nat.le_trans K15.out.size (Nat.le_refl _))))
      obtain ⟨A18, c18, rfl, _, hC18⟩ := Kd.R_reads hr18
      have HTX2 := Aside0.mk (keep_Texts A15 A18 c15 c18 r2 r2 w18 (Kd.C_below C15.out (BB16.out.trans hb18)) hC18)
      rw [decide_eq_true rfl] at HTX2
      clear hr18 hb18 hg18 ha18 R16 C15 BB16 K16 hC18
      go_wp2_with fail
      refine HTX2.out.mono ?_
      rintro e w19 ⟨rfl, hb19⟩
      have K19 := Aside0.mk (K18.out.trans (hb19.mono K18.out.size))
      have HKN := Aside0.mk (law_known w19)
      clear hb19 HTX2 K18
      go_wp2_with fail
      refine HKN.out.mono ?_
      rintro e w20 ⟨rfl, hb20⟩
      have K20 := Aside0.mk (B5.out.trans ((K19.out.trans (hb20.mono K19.out.size)).mono B5.out.size))
      clear hb20 HKN K19
      go_wp2
      go_ret
      exact ⟨rfl, K20.out⟩
end Go.Proofs.YthacnbbijmgjfaaDoor.Lib0

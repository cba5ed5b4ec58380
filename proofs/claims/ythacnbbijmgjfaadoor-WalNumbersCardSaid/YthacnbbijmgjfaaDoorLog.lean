/- The log: its methods, and Open. -/
import Derived.Test.YthacnbbijmgjfaaDoorWal
set_option linter.unusedVariables false
set_option linter.unusedSimpArgs false
namespace Go.Proofs.YthacnbbijmgjfaaDoor.Lib0
open Go.RowKit Go.Proofs.YthacnbbijmgjfaaDoorW.PrintWords Go.ChangeMaps

def lptr (lg : Nat) : Value := .pointer (some ⟨lg, 0, none⟩)
def LogAt (w : World) (lg d : Nat) (s : Name) : Prop := w.heap[lg]? = some (.cells #[dptr d, .string s] 68 (0, 0))
theorem LogAt.not_fp {w : World} {lg d d' base : Nat} {s : Name} {L : Lay} {D : ADisk} (hl : LogAt w lg d s) (h : DiskAt w base d' L D) : ¬ FP d' L D lg := h.not_fp hl (by decide) (by decide) (by decide) (by decide)
theorem LogAt.lt {w : World} {lg d : Nat} {s : Name} (hl : LogAt w lg d s) : lg < w.heap.size := (Array.getElem?_eq_some_iff.1 hl).1
theorem LogAt.step {w w' : World} {lg d d' base : Nat} {s : Name} {L L' : Lay} {D D' : ADisk} (hl : LogAt w lg d s) (h : DiskAt w base d' L D) (hs : DStep w base d' L D w' L' D') : LogAt w' lg d s :=
  (hs.keep.block lg hl.lt (hl.not_fp h)).trans hl
theorem LogAt.below {w w' : World} {lg d : Nat} {s : Name} (hl : LogAt w lg d s) {B : Nat} (hb : Below B w w') (h : lg < B) : LogAt w' lg d s :=
  (hb.block lg h).trans hl

theorem below_bytes (w : World) (e : TypeId) (s : ByteArray) : Below w.heap.size w (Lib.bytesWorld w e s) :=
  ⟨rfl, rfl, rfl, by rw [Lib.bytesWorld_size]; omega, fun k hk => Lib.bytesWorld_at_old w e s k hk⟩
theorem u8_C_bytes (w : World) (e : TypeId) (s : ByteArray) (hs : s.size ≤ 9223372036854775807) : u8.C (Lib.bytesWorld w e s) (some ⟨w.heap.size, 0, none⟩) (byt s).length (byt s) := by
  refine ⟨rfl, by rw [byt_length]; exact hs, fun _ => ⟨_, rfl, fun j p hp => ⟨[encB p], rfl, rfl, fun i u hu => ?_⟩⟩⟩
  have hi : i = 0 := by
    rcases i with _ | i
    · rfl
    · simp at hu
  subst hi
  simp only [List.getElem?_cons_zero, Option.some.injEq] at hu
  subst hu
  have e1 : (⟨w.heap.size, 0, none⟩ : Addr).add (j * u8.sz + 0) = ⟨w.heap.size, j, none⟩ := by
    rw [add_plain]; show (⟨w.heap.size, j * 1 + 0, none⟩ : Addr) = _; simp
  rw [e1]
  have hj : j < s.size := by rw [← byt_length]; exact (List.getElem?_eq_some_iff.1 hp).1
  rw [Lib.bytesWorld_cell w e s j hj]
  simp only [byt] at hp
  simp only [List.getD, hp]
  rfl
theorem sealB_len (l : List UInt8) : (sealB l).length = l.length + 12 := by simp [sealB, le4]
/-- Append's row, made behind the disk. -/
theorem src_above {w w1 : World} {base d : Nat} {L : Lay} {D : ADisk} (h : DiskAt w base d L D) {A : Option Addr} {l : List UInt8} {c : Nat} (hr : u8.R 5 w1 w.heap.size (fun _ => True) (.slice A l.length c) l) : Src w1 d L D A l := by
  intro W hW
  obtain ⟨inner, ho⟩ := Kd.R_own hr
  have hr2 : u8.R 5 W w.heap.size (fun _ => True) (.slice A l.length c) l := R_moved rfl hr (fun k hk => by
    obtain ⟨cells, hc⟩ := own_typed ho k hk
    refine hW k (Array.getElem?_eq_some_iff.1 hc).1 (fun hf => ?_)
    have h1 := R_base hr k hk
    have h2 := h.fp_lt k hf
    omega)
  obtain ⟨A', c', e, _, hC⟩ := u8_R_len hr2
  cases e
  exact hC
theorem below_drew (B : Nat) (w : World) : Below B w w.drew := ⟨rfl, rfl, rfl, Nat.le_refl _, fun _ _ => rfl⟩
theorem AppPost.of_below {w w1 : World} {base d : Nat} {L : Lay} {D : ADisk} {s : Name} {l : List UInt8} {e : Ending} {w' : World} (h : DiskAt w base d L D) (hb : Below w.heap.size w w1) (ha : AppPost w1 base d L D s l e w') : AppPost w base d L D s l e w' := by
  obtain ⟨L', D', g, h1, h2, h3, h4⟩ := ha
  exact ⟨L', D', g, h1, (DStep.of_below h hb).trans h2, h3, h4⟩
set_option maxHeartbeats 1600000 in
set_option maxRecDepth 100000 in
theorem log_Append {w : World} {base lg d : Nat} {L : Lay} {D : ADisk} {s : Name} (h : DiskAt w base d L D) (hl : LogAt w lg d s) (rec : Name) (hr : rec.size ≤ 65536) (hch : D.chg.length ≤ 1000000) :
    Calls Tryd.prog 20 #[lptr lg, .string rec] w (AppPost w base d L D s (sealB (byt rec))) := by
  have H := Aside0.mk h
  have HL := Aside0.mk hl
  have hr1 : ¬ (65536 : Int) < rec.size := by omega
  have hcv := fun W => Lib.run_convert_string_bytes (P := Tryd.prog) (src := 9) (dst := 23) (e := 5) W rec Tryd.underlying9 Tryd.underlying23 Tryd.underlying5
  clear h hl
  obtain ⟨l, hl⟩ : ∃ l, l = byt rec := ⟨_, rfl⟩
  rw [← hl]
  obtain ⟨z, hz⟩ : ∃ z, z = sealB l := ⟨_, rfl⟩
  rw [← hz]
  have HZ := Aside0.mk hz
  have HLE := Aside0.mk hl
  clear hz hl
  unfold lptr
  go_enter Tryd.func20, Tryd.ntmps20
  go_wp2_with fail
  obtain ⟨c0, hc0⟩ : ∃ c0, c0 = grownCap w rec.size 0 5 := ⟨_, rfl⟩
  have hsz : rec.size = l.length := by rw [HLE.out, byt_length]
  have HW := Aside0.mk (below_bytes w 5 rec)
  have HC := Aside0.mk (u8_C_bytes w 5 rec (by omega))
  rw [← HLE.out] at HC
  rw [← hc0, hsz]
  generalize Lib.bytesWorld w 5 rec = w0 at *
  clear hcv hc0 HLE
  refine (block_Seal _ c0 l w0 HC.out (by omega)).mono ?_
  rintro e w1 ⟨v, rfl, hr1, hb1⟩
  rw [← HZ.out] at hr1
  have hzl : z.length = l.length + 12 := by rw [HZ.out]; exact sealB_len l
  have hb := hb1.mono HW.out.size
  have hb2 := (HW.out.trans hb).trans (below_drew w.heap.size w1)
  have HB := Aside0.mk hb2
  obtain ⟨A, c, rfl, hle, _⟩ := u8_R_len hr1
  have hr2 := Kd.R_below (Kd.R_lower hr1 HW.out.size) (below_drew w1.heap.size w1)
  have HS := Aside0.mk (src_above H.out hr2)
  have HLL := Aside0.mk (HL.out.below hb2 HL.out.lt)
  have HD := Aside0.mk (H.out.kept (Keep.of_below hb2) (fun k hk => .inr hk))
  have hx0 : w1.cell? ⟨lg, 0, none⟩ = some (dptr d) := cell_of_heap HLL.out rfl
  have hx1 : w1.cell? ⟨lg, 1, none⟩ = some (.string s) := cell_of_heap HLL.out rfl
  have HA := Aside0.mk (disk_Append HD.out s A c z HS.out (by omega) hch)
  clear hr1 hb1 hb hle hzl hb2 hr2
  unfold dptr at hx0 HA
  go_wp2_with fail
  go_region_with ((go_at_call 25; refine HA.out.mono ?_; rintro e w2 ha; have HP := Aside0.mk (AppPost.of_below H.out HB.out ha); obtain ⟨L', D', g, rfl, _⟩ := ha))
  all_goals (go_wp2; go_ret; exact HP.out)
set_option maxHeartbeats 1600000 in
set_option maxRecDepth 100000 in
theorem log_Append_long {w : World} {lg : Nat} (rec : Name) (hr : 65536 < rec.size) :
    Calls Tryd.prog 20 #[lptr lg, .string rec] w fun e w' => e = .returned (.int .i64 3) ∧ w = w' := by
  have hr1 : (65536 : Int) < rec.size := by omega
  unfold lptr
  go_enter Tryd.func20, Tryd.ntmps20
  go_wp2
  go_ret
  exact ⟨rfl, rfl⟩
theorem DPost.of_below {w w1 : World} {base d : Nat} {L : Lay} {D D' : ADisk} {r : Value} {e : Ending} {w' : World} (h : DiskAt w base d L D) (hb : Below w.heap.size w w1) (ha : DPost w1 base d L D r D' e w') : DPost w base d L D r D' e w' := by
  obtain ⟨L', h1, h2⟩ := ha
  exact ⟨L', h1, (DStep.of_below h hb).trans h2⟩
set_option maxHeartbeats 1600000 in
set_option maxRecDepth 100000 in
theorem log_Sync {w : World} {base lg d : Nat} {L : Lay} {D : ADisk} {s : Name} (h : DiskAt w base d L D) (hl : LogAt w lg d s) (hn : nameBad s = false) :
    Calls Tryd.prog 22 #[lptr lg] w (DPost w base d L D (.int .i64 0) (syncDirD (syncD D s))) := by
  have H := Aside0.mk h
  have HL := Aside0.mk hl
  have hx0 : w.cell? ⟨lg, 0, none⟩ = some (dptr d) := cell_of_heap hl rfl
  have hx1 : w.cell? ⟨lg, 1, none⟩ = some (.string s) := cell_of_heap hl rfl
  have HD := Aside0.mk (H.out.kept (Keep.of_below (below_drew w.heap.size w)) (fun k hk => .inr hk))
  have HS := Aside0.mk (disk_Sync HD.out s)
  have hwhy : findWhy D s = 25 ∨ findWhy D s = 0 := by unfold findWhy; rw [hn]; simp only [Bool.false_eq_true, if_false]; split <;> simp
  generalize findWhy D s = why at *
  clear h hl
  unfold lptr
  unfold dptr at hx0 HS
  rcases hwhy with rfl | rfl
  all_goals
    go_enter Tryd.func22, Tryd.ntmps22
    go_wp2_with fail
    go_region_with ((go_at_call 34; refine HS.out.mono ?_; rintro e w2 ⟨L', rfl, hs⟩; have HP := Aside0.mk ((DStep.of_below H.out (below_drew w.heap.size w)).trans hs); have HL2 := Aside0.mk (HL.out.step H.out HP.out); clear hs))
  all_goals
    have hy0 : w2.cell? ⟨lg, 0, none⟩ = some (dptr d) := cell_of_heap HL2.out rfl
    unfold dptr at hy0
    go_wp2_with fail
    refine (disk_SyncDir HP.out.at_).mono ?_
    rintro e w3 ⟨L3, rfl, hs3⟩
    have HP3 := Aside0.mk (HP.out.trans hs3)
    clear hs3
    go_wp2
    go_ret
    exact ⟨L3, rfl, HP3.out⟩
set_option maxHeartbeats 1600000 in
set_option maxRecDepth 100000 in
theorem log_Size {w : World} {base lg d : Nat} {L : Lay} {D : ADisk} {s : Name} (h : DiskAt w base d L D) (hl : LogAt w lg d s) :
    Calls Tryd.prog 26 #[lptr lg] w fun e w' => e = .returned (.int .i64 (readB D s).length) ∧ Below w.heap.size w w' := by
  have H := Aside0.mk h
  have hx0 : w.cell? ⟨lg, 0, none⟩ = some (dptr d) := cell_of_heap hl rfl
  have hx1 : w.cell? ⟨lg, 1, none⟩ = some (.string s) := cell_of_heap hl rfl
  have HD := Aside0.mk (H.out.kept (Keep.of_below (below_drew w.heap.size w)) (fun k hk => .inr hk))
  have HS := Aside0.mk (disk_Read HD.out s)
  clear h hl
  unfold lptr
  unfold dptr at hx0 HS
  go_enter Tryd.func26, Tryd.ntmps26
  go_wp2_with fail
  go_region_with ((go_at_call 27; refine HS.out.mono ?_; rintro e w2 ⟨v, rfl, hr, hb⟩; obtain ⟨A, c, rfl, _, _⟩ := u8_R_len hr; have HB := Aside0.mk ((below_drew w.heap.size w).trans (hb.mono (Nat.le_refl _))); clear hr hb))
  all_goals
    go_wp2
    go_ret
    exact ⟨rfl, HB.out⟩
end Go.Proofs.YthacnbbijmgjfaaDoor.Lib0

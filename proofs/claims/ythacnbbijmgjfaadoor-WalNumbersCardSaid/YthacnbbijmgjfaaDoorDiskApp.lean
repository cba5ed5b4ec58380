/- What the disk's functions do: Append. -/
import Derived.Test.YthacnbbijmgjfaaDoorDiskOps4
set_option linter.unusedVariables false
set_option linter.unusedSimpArgs false
namespace Go.Proofs.YthacnbbijmgjfaaDoor.Lib0
open Go.RowKit Go.Proofs.YthacnbbijmgjfaaDoorW.PrintWords Go.ChangeMaps

def sumL (D : ADisk) (l : Dir) : Nat := (l.map (fun p => (D.file p.2).b.length)).sum
def total (D : ADisk) : Nat := sumL D D.dir
theorem sumL_perm {D : ADisk} {l l' : Dir} (h : l.Perm l') : sumL D l = sumL D l' := (h.map _).sum_nat
theorem sumL_le {D : ADisk} : ∀ {l : Dir}, (∀ p ∈ l, (D.file p.2).b.length ≤ 16777216) → sumL D l ≤ l.length * 16777216
  | [], _ => by simp [sumL]
  | p :: l, h => by
    have h1 := h p (by simp)
    have h2 := sumL_le (l := l) (fun q hq => h q (by simp [hq]))
    simp only [sumL, List.map_cons, List.sum_cons, List.length_cons] at *
    omega
theorem DOk.total_le {D : ADisk} (h : DOk D) : total D ≤ 68719476736 := by
  have := sumL_le (D := D) (l := D.dir) (fun p hp => (h.big p.2 (.inl (List.mem_map.2 ⟨p, hp, rfl⟩))).1)
  have h1 := h.n1
  unfold total
  omega
/-- Why Append refuses. -/
def appWhy (D : ADisk) (s : Name) (n : Nat) : Int :=
  if nameBad s then 20 else if assoc D.dir s = none ∧ 4096 ≤ D.dir.length then 4 else if 16777216 < total D + n ∨ (0 ≤ D.quota ∧ D.quota < n) then 13 else 0
def appQ (D : ADisk) (n : Nat) : Int := if 0 ≤ D.quota then D.quota - n else D.quota
def madeC (s : Name) (g : Nat) : Chg := ⟨0, s, ByteArray.empty, some g⟩
/-- What Append makes of a disk. -/
def appD (D : ADisk) (s : Name) (l : List UInt8) (g : Nat) : ADisk := match assoc D.dir s with
  | some f => { D with file := updN D.file f ⟨(D.file f).b ++ l, (D.file f).safe⟩, quota := appQ D l.length }
  | none => { D with dir := putD D.dir s g, chg := D.chg ++ [madeC s g], file := updN D.file g ⟨l, 0⟩, quota := appQ D l.length }
def AppPost (w : World) (base d : Nat) (L : Lay) (D : ADisk) (s : Name) (l : List UInt8) (e : Ending) (w' : World) : Prop :=
  ∃ L' D' g, e = .returned (.int .i64 (appWhy D s l.length)) ∧ DStep w base d L D w' L' D' ∧ D' = (if appWhy D s l.length = 0 then appD D s l g else D) ∧ ¬ live D g
/-- Bytes that a disk's change doesn't touch. -/
def Src (w : World) (d : Nat) (L : Lay) (D : ADisk) (A : Option Addr) (l : List UInt8) : Prop := ∀ W : World, (∀ k, k < w.heap.size → ¬ FP d L D k → W.heap[k]? = w.heap[k]?) → u8.C W A l.length l

theorem mem_sum {D : ADisk} : ∀ {l : Dir} {p : Name × Nat}, p ∈ l → (D.file p.2).b.length ≤ sumL D l
  | q :: l, p, h => by
    simp only [sumL, List.map_cons, List.sum_cons]
    rcases List.mem_cons.1 h with rfl | h
    · omega
    · have := mem_sum (D := D) h
      simp only [sumL] at this
      omega
theorem file_cell {w : World} {base d : Nat} {L : Lay} {D : ADisk} (h : DiskAt w base d L D) {f : Nat} (hf : live D f) {w3 : World} (hg : w.grownBy w3 (L.row f).ownBlock) :
    w3.heap[f]? = some (.cells #[L.row f, .int .i64 (D.file f).safe] 78 (0, 0)) ∧ w3.heap[d]? = some (.cells #[.map (some L.mb), .map (some L.sb), L.chv, .int .i64 D.quota] 66 (0, 0)) := by
  have hff := (h.fil f hf).2
  have key : ∀ {k : Nat} {cs : Array Value} {t : TypeId}, w.heap[k]? = some (.cells cs t (0, 0)) → t ≠ 5 → w3.heap[k]? = w.heap[k]? := by
    intro k cs t hk ht
    refine hg.block k (Array.getElem?_eq_some_iff.1 hk).1 (fun e => ?_)
    obtain ⟨cells, hcc⟩ := own_block_typed hff.2 e.symm
    exact ne_of_types hk hcc ht rfl
  exact ⟨(key hff.1 (by decide)).trans hff.1, (key h.self (by decide)).trans h.self⟩
/-- A file has more bytes. -/
theorem app_file {w : World} {base d : Nat} {L : Lay} {D : ADisk} (h : DiskAt w base d L D) {f : Nat} (hf : live D f) {l : List UInt8} {v1 : Value} {w3 : World} (hr : u8.R 5 w3 base (fun _ => True) v1 ((D.file f).b ++ l)) (hg : w.grownBy w3 (L.row f).ownBlock)
    (ha : v1.ownBlock = (L.row f).ownBlock ∨ ∃ b, v1.ownBlock = some b ∧ w.heap.size ≤ b) (hlen : ((D.file f).b ++ l).length ≤ 16777216) :
    DStep w base d L D (w3.setCell ⟨f, 0, none⟩ v1) { L with row := updN L.row f v1 } { D with file := updN D.file f ⟨(D.file f).b ++ l, (D.file f).safe⟩ } := by
  obtain ⟨hc, hd⟩ := file_cell h hf hg
  refine h.set_file (v' := v1) (x' := ⟨(D.file f).b ++ l, (D.file f).safe⟩) hf ?_ ?_ ?_ (ha.imp id .inr) hlen ?_
  · exact ((Keep.of_grown hg).mono (G := fun k => k = f ∨ (L.row f).ownBlock = some k) (fun k hk => .inl (.inr hk))).trans (G := fun k => k = f) (Keep.of_set w3 ⟨f, 0, none⟩ v1) (fun k hk => .inl (.inl hk))
  · rw [heap_at_setCell hc]; rfl
  · refine R_moved rfl hr (fun k hk => Below.heap_setCell _ _ _ _ ?_)
    rintro rfl
    obtain ⟨cells, hcc⟩ := own_block_typed hr hk
    rw [hc] at hcc
    injection hcc with hcc
    injection hcc with _ hcc
    exact absurd hcc (by decide)
  · have := (h.ok.big f hf).2
    rw [List.length_append]
    show (D.file f).safe ≤ _
    omega
theorem set_quota {w : World} {base d : Nat} {L : Lay} {D : ADisk} (h : DiskAt w base d L D) (q : Int) (hq : -9223372036854775808 ≤ q ∧ q ≤ 9223372036854775807) : DStep w base d L D (w.setCell ⟨d, 3, none⟩ (.int .i64 q)) L { D with quota := q } :=
  h.set_self (Keep.of_set w ⟨d, 3, none⟩ _) (by rw [heap_at_setCell h.self]; rfl) (.inl ⟨rfl, rfl⟩) (.inl ⟨rfl, rfl⟩) (fun f hf => hf) h.ok.n2 h.ok.replay h.ok.okc h.ok.inj hq
theorem updN_updN {α : Type} (g : Nat → α) (f : Nat) (x y : α) : updN (updN g f x) f y = updN g f y := by
  funext k
  unfold updN
  split <;> rfl
theorem ok_made {D : ADisk} {s : Name} {g : Nat} (h : nameBad s = false) (hg : ¬ live D g) (hlen : (doD D.dir (madeC s g)).length ≤ 4096) : OkChg D.dir (madeC s g) :=
  ⟨.inl rfl, fun _ => rfl, fun h => (by cases h), (name_len h).2, by simp [madeC], fun _ x hx hm => hg (.inl (by injection hx with hx; rw [hx]; exact hm)), hlen⟩
theorem len_put_none {l : Dir} {s : Name} {g : Nat} (h : assoc l s = none) : (putD l s g).length = l.length + 1 := by
  induction l with
  | nil => rfl
  | cons p l ih =>
    unfold assoc at h
    unfold putD
    split at h
    · cases h
    · rename_i hs
      rw [if_neg hs]
      simp only [List.length_cons, ih h]
theorem live_made {w w' : World} {base d : Nat} {L L' : Lay} {D : ADisk} {c : Chg} {g : Nat} {FF : Nat → FileS} (hc : c.f = some g) (h : DStep w base d L D w' L' { D with dir := doD D.dir c, chg := D.chg ++ [c], file := FF }) : live { D with dir := doD D.dir c, chg := D.chg ++ [c], file := FF } g :=
  .inr (.inr ⟨c, List.mem_append_right _ (List.mem_singleton.2 rfl), hc⟩)
theorem run_len_dir {P : Program} {t k e : TypeId} (ht : P.underlying t = some (.map k e)) {w : World} {b : Nat} {l : Dir} (h : DirIs w b l) (ty : TypeId) : (Builtin.len_ #[t] ty #[.map (some b)]).run P w = .ok (.int .i64 (l.length : Int)) w := by
  obtain ⟨es, c, hb, hm⟩ := h
  unfold Builtin.len_
  simp [Sem.run_bind, run_underlying ht, Result.andThen, getObj, Sem.run, hb, hm.size, goInt]
set_option maxHeartbeats 1600000 in
set_option maxRecDepth 100000 in
theorem disk_Append {w : World} {base d : Nat} {L : Lay} {D : ADisk} (h : DiskAt w base d L D) (s : Name) (A : Option Addr) (c : Nat) (l : List UInt8) (hs : Src w d L D A l) (hl : l.length ≤ 1099511627776) (hch : D.chg.length ≤ 1000000) :
    Calls Tryd.prog 25 #[dptr d, .string s, .slice A l.length c] w (AppPost w base d L D s l) := by
  have hc0 := h.c0
  have hlook := run_lookup_dir (P := Tryd.prog) Tryd.underlying63 Tryd.underlying9 zero_ptr h.dir s
  have HT := Aside0.mk h.ok.total_le
  have H := Aside0.mk h
  have HL := Aside0.mk hl
  have HS := Aside0.mk hs
  have HCH := Aside0.mk hch
  have hl' : (l.length : Int) ≤ 1099511627776 := by omega
  obtain ⟨vf, hvf⟩ : ∃ vf, vf = optp (assoc D.dir s) := ⟨_, rfl⟩
  rw [← hvf] at hlook
  have HVF := Aside0.mk hvf
  clear h hl hs hch hvf
  unfold dptr
  go_enter Tryd.func25, Tryd.ntmps25
  go_wp2_with (at_range; refine wp_range_dir (.tmp 22) 63 9 73 L.mb D.dir rfl rfl Tryd.underlying63 rfl H.out.dir ?_)
  intro w1 hr1 hg1 hs1
  have R1 := Aside0.mk hr1
  have B1 := Aside0.mk (show Below w.heap.size w w1 from (Keep.of_grown hg1).below (fun k hk => by cases hk) (Nat.le_refl _))
  clear hr1 hg1 hs1
  go_wp2_with fail
  go_loopg [8] D.dir.length (fun kq v8 wr => ∃ (left : Dir) (acc : Nat), left.length = kq ∧ v8 = .int .i64 ((l.length : Int) + acc) ∧ Aside0 (acc + sumL D left = total D) ∧ Aside0 (∀ p ∈ left, p ∈ D.dir) ∧ Aside0 (Ranging wr L.mb w.heap.size D.dir left) ∧ Aside0 (Below w.heap.size w wr))
  case atStart => exact ⟨D.dir, 0, rfl, by simp, ⟨by simp [total]⟩, ⟨fun _ hp => hp⟩, R1, B1⟩
  case round =>
    obtain ⟨left, acc, rfl, rfl, HA, HM, HR, HB⟩ := hrel
    go_wp2_with (at_next; refine wp_next_dir (.tmp 23) L.mb w.heap.size D.dir left rfl rfl rfl HR.out ?_ ?_)
    · intro hleft
      have hacc : acc = total D := by have := HA.out; rw [hleft] at this; simpa [sumL] using this
      subst hacc hleft
      have HD1 := Aside0.mk (DStep.of_below H.out HB.out)
      have hn := Aside0.mk (disk_names wr.heap.size 0 1 s (wr.alloc (.cells #[.string s] 9)) (cell_alloc_at rfl))
      have HB2 := Aside0.mk (HB.out.trans ((below_alloc (Below.refl wr.heap.size wr) (.cells #[.string s] 9)).mono HB.out.size))
      clear HR HM HA R1 B1 hlook hc0
      cases hb : nameBad s with
      | true =>
        have e1 : appWhy D s l.length = 20 := by simp [appWhy, hb]
        have E1 := Aside0.mk e1
        rw [hb] at hn
        clear e1 hb
        go_wp2_with (go_at_call 40; refine hn.out.mono ?_; rintro e w' ⟨rfl, rfl⟩)
        go_ret
        refine ⟨L, D, w.heap.size, by rw [E1.out]; rfl, DStep.of_below H.out HB2.out, by rw [E1.out]; rfl, fun hf => ?_⟩
        have := H.out.fp_lt _ (.inr (.inr (.inr (.inr (.inl hf)))))
        omega
      | false =>
        rw [hb] at hn
        have hlen := fun ty => run_len_dir (P := Tryd.prog) Tryd.underlying63 (DStep.of_below H.out HB2.out).at_.dir ty
        have hc0 := (DStep.of_below H.out HB2.out).at_.c0
        have hc3 := (DStep.of_below H.out HB2.out).at_.c3
        have hn1 := H.out.ok.n1
        have HNL := Aside0.mk (show ¬ live D w.heap.size from fun hf => by
          have := H.out.fp_lt _ (.inr (.inr (.inr (.inr (.inl hf)))))
          omega)
        cases ha : assoc D.dir s with
        | none =>
          have hvf := HVF.out
          rw [ha] at hvf
          have hvf : vf = .pointer none := hvf
          subst hvf
          clear HVF hvf
          by_cases hm : 4096 ≤ D.dir.length
          · have E1 := Aside0.mk (show appWhy D s l.length = 4 by simp [appWhy, hb, ha, hm])
            have hm' : (4096 : Int) ≤ D.dir.length := by omega
            clear hm ha hb
            go_wp2_with (go_at_call 40; refine hn.out.mono ?_; rintro e w' ⟨rfl, rfl⟩)
            go_ret
            exact ⟨L, D, w.heap.size, by rw [E1.out]; rfl, DStep.of_below H.out HB2.out, by rw [E1.out]; rfl, HNL.out⟩
          · have hm' : (D.dir.length : Int) < 4096 := by omega
            by_cases hfull : 16777216 < total D + l.length ∨ (0 ≤ D.quota ∧ D.quota < l.length)
            · have E1 := Aside0.mk (show appWhy D s l.length = 13 by simp [appWhy, hb, ha, hm, hfull])
              by_cases hsz : 16777216 < total D + l.length
              · have hsz' : (16777216 : Int) < l.length + (total D : Int) := by omega
                clear hm ha hb hfull hsz
                go_wp2_with (go_at_call 40; refine hn.out.mono ?_; rintro e w' ⟨rfl, rfl⟩)
                go_ret
                exact ⟨L, D, w.heap.size, by rw [E1.out]; rfl, DStep.of_below H.out HB2.out, by rw [E1.out]; rfl, HNL.out⟩
              · have hsz' : ¬ (16777216 : Int) < l.length + (total D : Int) := by omega
                obtain ⟨hq0, hq1⟩ : 0 ≤ D.quota ∧ D.quota < (l.length : Int) := by omega
                clear hm ha hb hfull hsz
                go_wp2_with (go_at_call 40; refine hn.out.mono ?_; rintro e w' ⟨rfl, rfl⟩)
                go_ret
                exact ⟨L, D, w.heap.size, by rw [E1.out]; rfl, DStep.of_below H.out HB2.out, by rw [E1.out]; rfl, HNL.out⟩
            · have E1 := Aside0.mk (show appWhy D s l.length = 0 by simp [appWhy, hb, ha, hm, hfull])
              have hsz' : ¬ (16777216 : Int) < l.length + (total D : Int) := by omega
              have hlen2 : l.length ≤ 16777216 := by omega
              have E2 := Aside0.mk (show appD D s l (wr.heap.size + 1) = { D with dir := putD D.dir s (wr.heap.size + 1), chg := D.chg ++ [madeC s (wr.heap.size + 1)], file := updN D.file (wr.heap.size + 1) ⟨l, 0⟩, quota := appQ D l.length } by simp [appD, ha])
              have HG := Aside0.mk (show ¬ live D (wr.heap.size + 1) from fun hf => by
                have h1 := H.out.fp_lt _ (.inr (.inr (.inr (.inr (.inl hf)))))
                have h2 := HB.out.size
                omega)
              have HLP := Aside0.mk (show (doD D.dir (madeC s (wr.heap.size + 1))).length ≤ 4096 by
                have : doD D.dir (madeC s (wr.heap.size + 1)) = putD D.dir s (wr.heap.size + 1) := by simp [doD, madeC]
                rw [this, len_put_none ha]; omega)
              have HOK := Aside0.mk (ok_made hb HG.out HLP.out)
              have hch' : D.chg.length ≤ 1099511627776 := by have := HCH.out; omega
              have hlv : ∀ f, live D f → f ≠ wr.heap.size + 1 := fun f hf e => HG.out (e ▸ hf)
              have HTURN := Aside0.mk (disk_turn (w := (wr.alloc (.cells #[.string s] 9)).alloc (.cells #[.slice none 0 0, .int .i64 0] 78)) (c := madeC s (wr.heap.size + 1)) (RR := updN L.row (wr.heap.size + 1) (.slice none 0 0)) (FF := updN D.file (wr.heap.size + 1) ⟨[], 0⟩) H.out
                (HB2.out.trans ((below_alloc (Below.refl _ _) _).mono HB2.out.size)) HOK.out HLP.out hch' (fun f hf => updN_other _ _ _ (hlv f hf)) (fun f hf => updN_other _ _ _ (hlv f hf)) (fun g hg => .inr (by
                  have hg : wr.heap.size + 1 = g := by simpa [madeC] using hg
                  subst hg
                  have h1 := H.out.b0
                  have h2 := H.out.fp_lt d (.inl rfl)
                  have h3 := HB.out.size
                  simp only [updN_same]
                  refine ⟨by omega, by omega, ?_, Kd.R_nil _ _ _ _ _, rfl, by simp, by simp⟩
                  have := heap_alloc_new (wr.alloc (.cells #[.string s] 9)) (.cells #[.slice none 0 0, .int .i64 0] 78)
                  simpa using this)))
              simp only [madeC, Chg.cells, optp, fptr, dptr] at HTURN
              have hq3 := H.out.ok.q.2
              have HBS := Aside0.mk (show base ≤ w.heap.size from Nat.le_trans H.out.b0 (Nat.le_of_lt (H.out.fp_lt d (.inl rfl))))
              clear hch' hlv ha hb hm
              by_cases hq0 : 0 ≤ D.quota
              · have HQ := Aside0.mk (show appQ D l.length = D.quota - l.length by simp [appQ, hq0])
                have hq2 : (l.length : Int) ≤ D.quota := by omega
                clear hfull
                go_wp2_with (go_at_call 40; refine hn.out.mono ?_; rintro e w' ⟨rfl, rfl⟩)
                refine HTURN.out.mono ?_
                rintro e w4 ⟨chv', rfl, hst4⟩
                have HS4 := Aside0.mk hst4
                have hlg := live_made (c := madeC s (wr.heap.size + 1)) rfl hst4
                have HLG := Aside0.mk hlg
                have hff := hst4.at_.fil _ hlg
                simp only [updN_same] at hff
                have hx0 : w4.cell? ⟨wr.heap.size + 1, 0, none⟩ = some (.slice none 0 0) := cell_of_heap hff.2.1 rfl
                have HSR := Aside0.mk (HS.out w4 (fun k hk hf => hst4.keep.block k hk hf))
                have HBS4 := Aside0.mk (Nat.le_trans HBS.out hst4.keep.size)
                clear hst4 hlg hff HTURN hn hlen hc0 hc3
                go_wp2_with (at_builtin; refine u8_append (.tmp 84) (.tmp 85) 23 5 (.slice none 0 0) [] l _ _ _ base rfl rfl Tryd.underlying23 info_u8 rfl rfl (Kd.R_nil _ _ _ _ _) HSR.out HBS4.out ?d1 ?_)
                case d1 => simp; omega
                intro v1 w3 hr hb3 hg ha3
                obtain ⟨A1, c1, hv1, hle1, hC1⟩ := u8_R_len hr
                subst hv1
                have hrow : (updN L.row (wr.heap.size + 1) (.slice none 0 0)) (wr.heap.size + 1) = .slice none 0 0 := updN_same _ _ _
                have hfil : (updN D.file (wr.heap.size + 1) ⟨[], 0⟩) (wr.heap.size + 1) = ⟨[], 0⟩ := updN_same _ _ _
                have hst := app_file (l := l) HS4.out.at_ HLG.out (v1 := .slice A1 l.length c1) (w3 := w3) (by simp only [hfil]; exact hr) (by simp only [hrow]; exact hg) (by simp only [hrow]; exact ha3) (by simp only [hfil]; simp; omega)
                obtain ⟨hcf3, hcd3⟩ := file_cell (w3 := w3) HS4.out.at_ HLG.out (by simp only [hrow]; exact hg)
                have hy0 : w3.cell? ⟨wr.heap.size + 1, 0, none⟩ = some (.slice none 0 0) := cell_of_heap hcf3 (by simp only [hrow]; rfl)
                have hy1 : w3.frozen? ⟨wr.heap.size + 1, 0, none⟩ = false := frozen_of_heap hcf3
                have hy2 : (w3.setCell ⟨wr.heap.size + 1, 0, none⟩ (.slice A1 l.length c1)).cell? ⟨d, 3, none⟩ = some (.int .i64 D.quota) := hst.at_.c3
                have hy3 : (w3.setCell ⟨wr.heap.size + 1, 0, none⟩ (.slice A1 l.length c1)).frozen? ⟨d, 3, none⟩ = false := frozen_of_heap hst.at_.self
                have HST := Aside0.mk hst
                clear hr hb3 hg ha3 hle1 hC1 hst hcf3 hcd3 hrow hfil
                go_wp2
                go_ret
                refine ⟨_, _, wr.heap.size + 1, by rw [E1.out]; rfl, HS4.out.trans (HST.out.trans (set_quota HST.out.at_ (D.quota - l.length) (by have := H.out.ok.q; omega))), ?_, HG.out⟩
                rw [if_pos E1.out, E2.out, HQ.out]
                simp only [updN_updN, updN_same, List.nil_append, doD, madeC, if_true, Option.getD_some]
              · have HQ := Aside0.mk (show appQ D l.length = D.quota by simp [appQ, hq0])
                clear hfull
                go_wp2_with (go_at_call 40; refine hn.out.mono ?_; rintro e w' ⟨rfl, rfl⟩)
                refine HTURN.out.mono ?_
                rintro e w4 ⟨chv', rfl, hst4⟩
                have HS4 := Aside0.mk hst4
                have hlg := live_made (c := madeC s (wr.heap.size + 1)) rfl hst4
                have HLG := Aside0.mk hlg
                have hff := hst4.at_.fil _ hlg
                simp only [updN_same] at hff
                have hx0 : w4.cell? ⟨wr.heap.size + 1, 0, none⟩ = some (.slice none 0 0) := cell_of_heap hff.2.1 rfl
                have HSR := Aside0.mk (HS.out w4 (fun k hk hf => hst4.keep.block k hk hf))
                have HBS4 := Aside0.mk (Nat.le_trans HBS.out hst4.keep.size)
                clear hst4 hlg hff HTURN hn hlen hc0 hc3
                go_wp2_with (at_builtin; refine u8_append (.tmp 84) (.tmp 85) 23 5 (.slice none 0 0) [] l _ _ _ base rfl rfl Tryd.underlying23 info_u8 rfl rfl (Kd.R_nil _ _ _ _ _) HSR.out HBS4.out ?d2 ?_)
                case d2 => simp; omega
                intro v1 w3 hr hb3 hg ha3
                obtain ⟨A1, c1, hv1, hle1, hC1⟩ := u8_R_len hr
                subst hv1
                have hrow : (updN L.row (wr.heap.size + 1) (.slice none 0 0)) (wr.heap.size + 1) = .slice none 0 0 := updN_same _ _ _
                have hfil : (updN D.file (wr.heap.size + 1) ⟨[], 0⟩) (wr.heap.size + 1) = ⟨[], 0⟩ := updN_same _ _ _
                have hst := app_file (l := l) HS4.out.at_ HLG.out (v1 := .slice A1 l.length c1) (w3 := w3) (by simp only [hfil]; exact hr) (by simp only [hrow]; exact hg) (by simp only [hrow]; exact ha3) (by simp only [hfil]; simp; omega)
                obtain ⟨hcf3, hcd3⟩ := file_cell (w3 := w3) HS4.out.at_ HLG.out (by simp only [hrow]; exact hg)
                have hy0 : w3.cell? ⟨wr.heap.size + 1, 0, none⟩ = some (.slice none 0 0) := cell_of_heap hcf3 (by simp only [hrow]; rfl)
                have hy1 : w3.frozen? ⟨wr.heap.size + 1, 0, none⟩ = false := frozen_of_heap hcf3
                have hy2 : (w3.setCell ⟨wr.heap.size + 1, 0, none⟩ (.slice A1 l.length c1)).cell? ⟨d, 3, none⟩ = some (.int .i64 D.quota) := hst.at_.c3
                have hy3 : (w3.setCell ⟨wr.heap.size + 1, 0, none⟩ (.slice A1 l.length c1)).frozen? ⟨d, 3, none⟩ = false := frozen_of_heap hst.at_.self
                have HST := Aside0.mk hst
                clear hr hb3 hg ha3 hle1 hC1 hst hcf3 hcd3 hrow hfil
                go_wp2
                go_ret
                refine ⟨_, _, wr.heap.size + 1, by rw [E1.out]; rfl, HS4.out.trans HST.out, ?_, HG.out⟩
                rw [if_pos E1.out, E2.out, HQ.out]
                simp only [updN_updN, updN_same, List.nil_append, doD, madeC, if_true, Option.getD_some]
        | some f =>
          have hvf := HVF.out
          rw [ha] at hvf
          have hvf : vf = .pointer (some ⟨f, 0, none⟩) := hvf
          subst hvf
          clear HVF hvf
          have hmem := assoc_mem ha
          have hlive : live D f := .inl (List.mem_map.2 ⟨_, hmem, rfl⟩)
          have hle := mem_sum (D := D) hmem
          by_cases hfull : 16777216 < total D + l.length ∨ (0 ≤ D.quota ∧ D.quota < l.length)
          · have E1 := Aside0.mk (show appWhy D s l.length = 13 by simp [appWhy, hb, ha, hfull])
            by_cases hsz : 16777216 < total D + l.length
            · have hsz' : (16777216 : Int) < l.length + (total D : Int) := by omega
              clear ha hb hfull hsz hmem hlive hle
              go_wp2_with (go_at_call 40; refine hn.out.mono ?_; rintro e w' ⟨rfl, rfl⟩)
              go_ret
              exact ⟨L, D, w.heap.size, by rw [E1.out]; rfl, DStep.of_below H.out HB2.out, by rw [E1.out]; rfl, HNL.out⟩
            · have hsz' : ¬ (16777216 : Int) < l.length + (total D : Int) := by omega
              obtain ⟨hq0, hq1⟩ : 0 ≤ D.quota ∧ D.quota < (l.length : Int) := by omega
              clear ha hb hfull hsz hmem hlive hle
              go_wp2_with (go_at_call 40; refine hn.out.mono ?_; rintro e w' ⟨rfl, rfl⟩)
              go_ret
              exact ⟨L, D, w.heap.size, by rw [E1.out]; rfl, DStep.of_below H.out HB2.out, by rw [E1.out]; rfl, HNL.out⟩
          · have E1 := Aside0.mk (show appWhy D s l.length = 0 by simp [appWhy, hb, ha, hfull])
            have E2 := Aside0.mk (show appD D s l w.heap.size = { D with file := updN D.file f ⟨(D.file f).b ++ l, (D.file f).safe⟩, quota := appQ D l.length } by simp [appD, ha])
            have hsz' : ¬ (16777216 : Int) < l.length + (total D : Int) := by omega
            have hlen2 : (D.file f).b.length + l.length ≤ 16777216 := by have : (D.file f).b.length ≤ total D := hle; omega
            have HLEN2 := Aside0.mk (show ((D.file f).b ++ l).length ≤ 16777216 by rw [List.length_append]; exact hlen2)
            have HD2 := Aside0.mk (DStep.of_below H.out HB2.out)
            have hff := HD2.out.at_.fil f hlive
            have hcf : (wr.alloc (.cells #[.string s] 9)).cell? ⟨f, 0, none⟩ = some (L.row f) := cell_of_heap hff.2.1 rfl
            have HO := Aside0.mk hff.2.2
            have HLV := Aside0.mk hlive
            have HSR := Aside0.mk (HS.out (wr.alloc (.cells #[.string s] 9)) (fun k hk _ => HB2.out.block k hk))
            have HBS := Aside0.mk (show base ≤ (wr.alloc (.cells #[.string s] 9)).heap.size from Nat.le_trans (Nat.le_trans H.out.b0 (Nat.le_of_lt (H.out.fp_lt d (.inl rfl)))) HB2.out.size)
            have hq3 := H.out.ok.q.2
            by_cases hq0 : 0 ≤ D.quota
            · have hq1 : ¬ D.quota < (l.length : Int) := by omega
              have HQ := Aside0.mk (show appQ D l.length = D.quota - l.length by simp [appQ, hq0])
              have hq2 : (l.length : Int) ≤ D.quota := by omega
              clear ha hb hfull hmem hlive hle hff
              go_wp2_with (first | (go_at_call 40; refine hn.out.mono ?_; rintro e w' ⟨rfl, rfl⟩) | (at_builtin; refine u8_append (.tmp 84) (.tmp 85) 23 5 (L.row f) (D.file f).b l _ _ _ base rfl rfl Tryd.underlying23 info_u8 rfl rfl HO.out HSR.out HBS.out ?c1 ?_))
              case c1 => have := HLEN2.out; rw [List.length_append] at this; omega
              intro v1 w3 hr hb3 hg ha3
              obtain ⟨A1, c1, hv1, hle1, hC1⟩ := u8_R_len hr
              obtain ⟨n1, hn1⟩ : ∃ n1, n1 = ((D.file f).b ++ l).length := ⟨_, rfl⟩
              rw [← hn1] at hv1
              subst hv1
              have hst := app_file HD2.out.at_ HLV.out hr hg (ha3.imp id (fun ⟨b, h1, h2⟩ => ⟨b, h1, by simp; omega⟩)) HLEN2.out
              obtain ⟨hcf3, hcd3⟩ := file_cell HD2.out.at_ HLV.out hg
              have hx0 : w3.cell? ⟨f, 0, none⟩ = some (L.row f) := cell_of_heap hcf3 rfl
              have hx1 : w3.frozen? ⟨f, 0, none⟩ = false := frozen_of_heap hcf3
              have hx2 : (w3.setCell ⟨f, 0, none⟩ (.slice A1 n1 c1)).cell? ⟨d, 3, none⟩ = some (.int .i64 D.quota) := hst.at_.c3
              have hx3 : (w3.setCell ⟨f, 0, none⟩ (.slice A1 n1 c1)).frozen? ⟨d, 3, none⟩ = false := frozen_of_heap hst.at_.self
              have HST := Aside0.mk hst
              clear hr hb3 hg ha3 hle1 hC1 hn1 hst hcf3 hcd3
              go_wp2
              go_ret
              refine ⟨_, _, w.heap.size, by rw [E1.out]; rfl, HD2.out.trans (HST.out.trans (set_quota HST.out.at_ (D.quota - l.length) (by have := H.out.ok.q; omega))), ?_, HNL.out⟩
              rw [if_pos E1.out, E2.out, HQ.out]
            · have HQ := Aside0.mk (show appQ D l.length = D.quota by simp [appQ, hq0])
              clear ha hb hfull hmem hlive hle hff
              go_wp2_with (first | (go_at_call 40; refine hn.out.mono ?_; rintro e w' ⟨rfl, rfl⟩) | (at_builtin; refine u8_append (.tmp 84) (.tmp 85) 23 5 (L.row f) (D.file f).b l _ _ _ base rfl rfl Tryd.underlying23 info_u8 rfl rfl HO.out HSR.out HBS.out ?c2 ?_))
              case c2 => have := HLEN2.out; rw [List.length_append] at this; omega
              intro v1 w3 hr hb3 hg ha3
              obtain ⟨A1, c1, hv1, hle1, hC1⟩ := u8_R_len hr
              obtain ⟨n1, hn1⟩ : ∃ n1, n1 = ((D.file f).b ++ l).length := ⟨_, rfl⟩
              rw [← hn1] at hv1
              subst hv1
              have hst := app_file HD2.out.at_ HLV.out hr hg (ha3.imp id (fun ⟨b, h1, h2⟩ => ⟨b, h1, by simp; omega⟩)) HLEN2.out
              obtain ⟨hcf3, hcd3⟩ := file_cell HD2.out.at_ HLV.out hg
              have hx0 : w3.cell? ⟨f, 0, none⟩ = some (L.row f) := cell_of_heap hcf3 rfl
              have hx1 : w3.frozen? ⟨f, 0, none⟩ = false := frozen_of_heap hcf3
              have hx2 : (w3.setCell ⟨f, 0, none⟩ (.slice A1 n1 c1)).cell? ⟨d, 3, none⟩ = some (.int .i64 D.quota) := hst.at_.c3
              have hx3 : (w3.setCell ⟨f, 0, none⟩ (.slice A1 n1 c1)).frozen? ⟨d, 3, none⟩ = false := frozen_of_heap hst.at_.self
              have HST := Aside0.mk hst
              clear hr hb3 hg ha3 hle1 hC1 hn1 hst hcf3 hcd3
              go_wp2
              go_ret
              refine ⟨_, _, w.heap.size, by rw [E1.out]; rfl, HD2.out.trans HST.out, ?_, HNL.out⟩
              rw [if_pos E1.out, E2.out, HQ.out]
    · intro nm0 f0 left' w' hp hr' hg' hsz' hen
      obtain ⟨p, hpe⟩ : ∃ p : Name × Nat, p = (nm0, f0) := ⟨_, rfl⟩
      rw [← hpe] at hp
      have hmem : p ∈ D.dir := HM.out p (hp.symm.subset (by simp))
      have hlen := hp.length_eq
      have hlive : live D p.2 := .inl (List.mem_map.2 ⟨p, hmem, rfl⟩)
      have hB' : Below w.heap.size w w' := HB.out.trans ((Keep.of_grown hg').below (fun k hk => by injection hk with hk; omega) HB.out.size)
      have hd1 := (DStep.of_below H.out hB').at_
      obtain ⟨_, hfh, hfr⟩ := hd1.fil p.2 hlive
      obtain ⟨B, cc, hv, hle, hC⟩ := Kd.R_reads hfr
      have hcell : w'.cell? ⟨p.2, 0, none⟩ = some (.slice B (D.file p.2).b.length cc) := by rw [← hv]; exact cell_of_heap hfh rfl
      have hsum := sumL_perm (D := D) hp
      have hbig := (H.out.ok.big p.2 hlive).1
      have HA' := Aside0.mk (show acc + (D.file p.2).b.length + sumL D left' = total D by have := HA.out; rw [hsum] at this; simp only [sumL, List.map_cons, List.sum_cons] at this ⊢; omega)
      have hbd : (acc : Int) + (D.file p.2).b.length ≤ 68719476736 := by have := HA'.out; have := HT.out; omega
      have HM' := Aside0.mk (show ∀ q ∈ left', q ∈ D.dir from fun q hq => HM.out q (hp.symm.subset (List.mem_cons_of_mem _ hq)))
      have HR' := Aside0.mk hr'
      have HB' := Aside0.mk hB'
      have HLEN := Aside0.mk hlen
      subst hpe
      simp only [fptr] at *
      clear hmem hlen hlive hB' hd1 hfh hfr hv hle hC hsum hbig hr' hg' hsz' hp HR HB HA HM R1 B1 hlook hc0
      go_wp2
      go_roundg left'.length
      case measure => have := HLEN.out; simp at this; omega
      case rel => exact ⟨left', acc + (D.file f0).b.length, rfl, by simp; omega, HA', HM', HR', HB'⟩
end Go.Proofs.YthacnbbijmgjfaaDoor.Lib0

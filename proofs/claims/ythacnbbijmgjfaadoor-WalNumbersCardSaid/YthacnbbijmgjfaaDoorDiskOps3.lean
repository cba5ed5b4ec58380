/- What the disk's functions do: the directory. -/
import Derived.Test.YthacnbbijmgjfaaDoorDiskOps2
set_option linter.unusedVariables false
set_option linter.unusedSimpArgs false
namespace Go.Proofs.YthacnbbijmgjfaaDoor.Lib0
open Go.RowKit Go.Proofs.YthacnbbijmgjfaaDoorW.PrintWords Go.ChangeMaps

theorem len_put {l : Dir} {s : Name} {g : Nat} : (putD l s g).length ≤ l.length + 1 := by
  induction l with
  | nil => simp [putD]
  | cons p l ih =>
    unfold putD
    split
    · simp
    · simp only [List.length_cons]; omega
theorem len_del {l : Dir} {s : Name} : (delD l s).length ≤ l.length := by
  induction l with
  | nil => simp [delD]
  | cons p l ih =>
    unfold delD
    split
    · simp
    · simp only [List.length_cons]; omega
theorem len_del_some {l : Dir} {s : Name} {g : Nat} (h : assoc l s = some g) : (delD l s).length + 1 = l.length := by
  induction l with
  | nil => cases h
  | cons p l ih =>
    unfold assoc at h
    unfold delD
    split at h
    · rename_i hs; rw [if_pos hs]; simp
    · rename_i hs; rw [if_neg hs]; simp only [List.length_cons]; have := ih h; omega

/-- What a call that turns a disk gives. -/
def DPost (w : World) (base d : Nat) (L : Lay) (D : ADisk) (r : Value) (D' : ADisk) (e : Ending) (w' : World) : Prop := ∃ L', e = .returned r ∧ DStep w base d L D w' L' D'
def syncDirD (D : ADisk) : ADisk := { D with sdir := D.dir, chg := [] }
set_option maxHeartbeats 1600000 in
set_option maxRecDepth 100000 in
theorem disk_SyncDir {w : World} {base d : Nat} {L : Lay} {D : ADisk} (h : DiskAt w base d L D) :
    Calls Tryd.prog 36 #[dptr d] w (DPost w base d L D (.tuple #[]) (syncDirD D)) := by
  have hc0 := h.c0
  have H := Aside0.mk h
  have HC := Aside0.mk (clone_dir h.dir)
  clear h
  unfold dptr
  go_enter Tryd.func36, Tryd.ntmps36
  go_wp2_with fail
  refine HC.out.mono ?_
  rintro e w1 ⟨b', rfl, hd, hb', hb⟩
  have hd1 := (DStep.of_below H.out hb).at_
  have hself := hd1.self
  have hc1 := hd1.c1
  have hc2 := hd1.c2
  have hf1 : w1.frozen? ⟨d, 1, none⟩ = false := frozen_of_heap hself
  have hf2 : w1.frozen? ⟨d, 2, none⟩ = false := frozen_of_heap hself
  have HD := Aside0.mk hd
  have HB := Aside0.mk hb
  have HB' := Aside0.mk hb'
  have HD1 := Aside0.mk hd1
  clear hd hb hb' hd1 hself hc0
  go_wp2
  go_end0
  refine ⟨⟨L.mb, b', .slice none 0 0, L.row⟩, rfl, ?_⟩
  have hh1 : ((w1.setCell ⟨d, 1, none⟩ (.map (some b'))).setCell ⟨d, 2, none⟩ (.slice none 0 0)).heap[d]? = some (.cells #[.map (some L.mb), .map (some b'), .slice none 0 0, .int .i64 D.quota] 66 (0, 0)) := by
    rw [heap_at_setCell (heap_at_setCell HD1.out.self)]; rfl
  have hne : b' ≠ d := by
    rintro rfl
    have := H.out.fp_lt _ (.inl rfl)
    exact absurd HB'.out (by omega)
  have hk : Keep (fun k => k = d) w ((w1.setCell ⟨d, 1, none⟩ (.map (some b'))).setCell ⟨d, 2, none⟩ (.slice none 0 0)) :=
    (((Keep.of_below HB.out).mono (G := fun k => k = d) (fun k hk => .inr hk)).trans (G := fun k => k = d) (Keep.of_set w1 ⟨d, 1, none⟩ _) (fun k hk => .inl hk)).trans (G := fun k => k = d) (Keep.of_set _ ⟨d, 2, none⟩ _) (fun k hk => .inl hk)
  refine H.out.set_self hk hh1 (.inr ⟨HB'.out, HD.out.moved ?_⟩) (.inr ⟨rfl, rfl⟩) ?_ H.out.ok.n1 (fun _ => rfl) (fun _ => trivial) H.out.ok.injd H.out.ok.q
  · rw [Below.heap_setCell _ _ _ _ hne, Below.heap_setCell _ _ _ _ hne]
  · rintro f (hf | hf | ⟨c, hc, _⟩)
    · exact .inl hf
    · exact .inl hf
    · cases hc

def renWhy (D : ADisk) (a b : Name) : Int := if nameBad b then 20 else findWhy D a
def renC (a b : Name) : Chg := ⟨1, a, b, none⟩
def renD (D : ADisk) (a b : Name) : ADisk := { D with dir := doD D.dir (renC a b), chg := D.chg ++ [renC a b] }
def renD' (D : ADisk) (a b : Name) : ADisk := if renWhy D a b = 0 then renD D a b else D
theorem name_len {a : Name} (h : nameBad a = false) : 1 ≤ a.size ∧ a.size ≤ 30 := by
  have : ¬ (a.size = 0 ∨ 30 < a.size) := by simpa [nameBad] using h
  omega
set_option maxHeartbeats 1600000 in
set_option maxRecDepth 100000 in
theorem disk_Rename {w : World} {base d : Nat} {L : Lay} {D : ADisk} (h : DiskAt w base d L D) (a b : Name) (hch : D.chg.length ≤ 1099511627776) :
    Calls Tryd.prog 35 #[dptr d, .string a, .string b] w (DPost w base d L D (.int .i64 (renWhy D a b)) (renD' D a b)) := by
  have hn := Aside0.mk (disk_names w.heap.size 0 1 b (w.alloc (.cells #[.string b] 9)) (cell_alloc_at rfl))
  have HF := Aside0.mk (disk_find (DStep.of_below h (below_alloc (Below.refl w.heap.size w) (.cells #[.string b] 9))).at_ a)
  have H := Aside0.mk h
  have HCH := Aside0.mk hch
  clear h hch
  unfold dptr at *
  cases hb : nameBad b with
  | true =>
    have e1 : renWhy D a b = 20 := by simp [renWhy, hb]
    have HX := Aside0.mk (show renD' D a b = D by simp [renD', e1])
    rw [hb] at hn
    rw [e1]
    clear e1 hb
    go_enter Tryd.func35, Tryd.ntmps35
    go_wp2_with (go_at_call 40; refine hn.out.mono ?_; rintro e w' ⟨rfl, rfl⟩)
    go_ret
    exact ⟨L, rfl, by rw [HX.out]; exact DStep.of_below H.out (below_alloc (Below.refl _ _) _)⟩
  | false =>
    have e1 : renWhy D a b = findWhy D a := by simp [renWhy, hb]
    have HNB := Aside0.mk hb
    rw [hb] at hn
    rw [e1]
    clear hb
    cases hf : findP D a with
    | none =>
      rw [hf] at HF
      have hw := findP_none hf
      have hne : (findWhy D a == 0) = false := by rcases hw with h | h <;> rw [h] <;> rfl
      have HN := Aside0.mk (show renD' D a b = D by unfold renD'; rw [e1, if_neg (by rcases hw with h | h <;> rw [h] <;> decide)])
      clear hw hf e1
      generalize findWhy D a = why at *
      go_enter Tryd.func35, Tryd.ntmps35
      go_wp2_with (first | (go_at_call 40; refine hn.out.mono ?_; rintro e w' ⟨rfl, rfl⟩) | (go_at_call 42; refine HF.out.mono ?_; rintro e w1 ⟨rfl, hb⟩))
      go_ret
      exact ⟨L, rfl, by rw [HN.out]; exact DStep.of_below H.out ((below_alloc (Below.refl w.heap.size w) _).trans (hb.mono (by simp)))⟩
    | some f =>
      rw [hf] at HF
      obtain ⟨hl, hwhy⟩ := findP_some hf
      rw [hwhy] at HF ⊢
      have hna : nameBad a = false := by
        unfold findP at hf
        split at hf
        · cases hf
        · rename_i hx; simpa using hx
      have has : assoc D.dir a = some f := by simpa [findP, hna] using hf
      have hlen : (doD D.dir (renC a b)).length ≤ 4096 := by
        have : doD D.dir (renC a b) = putD (delD D.dir a) b f := by simp [doD, renC, has]
        rw [this]
        have h1 := len_put (l := delD D.dir a) (s := b) (g := f)
        have h2 := len_del_some has
        have h3 := H.out.ok.n1
        omega
      have hok : OkChg D.dir (renC a b) := ⟨.inr (.inl rfl), fun h => (by cases h), fun _ => by simp [renC, has], (name_len hna).2, (name_len HNB.out).2, fun h => (by cases h), hlen⟩
      have HX := Aside0.mk (show renD' D a b = renD D a b by unfold renD'; rw [e1, if_pos hwhy])
      have HOK := Aside0.mk hok
      have HLEN := Aside0.mk hlen
      clear hwhy hf hl hna has hok hlen e1
      simp only [optp, fptr] at HF
      go_enter Tryd.func35, Tryd.ntmps35
      go_wp2_with (first | (go_at_call 40; refine hn.out.mono ?_; rintro e w' ⟨rfl, rfl⟩) | (go_at_call 42; refine HF.out.mono ?_; rintro e w1 ⟨rfl, hb⟩) | (go_at_call 41; refine (disk_turn (c := renC a b) (RR := L.row) (FF := D.file) H.out ((below_alloc (Below.refl w.heap.size w) _).trans (hb.mono (by simp))) HOK.out HLEN.out HCH.out (fun _ _ => rfl) (fun _ _ => rfl) (fun g hg => (by cases hg))).mono ?_; rintro e w2 ⟨chv', rfl, hst⟩))
      go_ret
      exact ⟨_, rfl, by rw [HX.out]; exact hst⟩
end Go.Proofs.YthacnbbijmgjfaaDoor.Lib0

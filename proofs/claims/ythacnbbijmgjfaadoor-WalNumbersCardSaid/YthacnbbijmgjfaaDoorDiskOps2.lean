/- What the disk's functions do, more of them. -/
import Derived.Test.YthacnbbijmgjfaaDoorDiskOps
import Derived.WalkSpells
import Derived.Carry
set_option linter.unusedVariables false
set_option linter.unusedSimpArgs false
namespace Go.Proofs.YthacnbbijmgjfaaDoor.Lib0
open Go.RowKit Go.Proofs.YthacnbbijmgjfaaDoorW.PrintWords Go.ChangeMaps

set_option maxHeartbeats 1600000 in
set_option maxRecDepth 100000 in
theorem clone_u8 (A : Option Addr) (c : Nat) (l : List UInt8) (w : World) (h : u8.C w A l.length l) (hl : l.length ≤ 1099511627776) :
    Calls Tryd.prog 43 #[.slice A l.length c] w fun e w' => ∃ v, e = .returned v ∧ u8.R 5 w' w.heap.size (fun _ => True) v l ∧ Below w.heap.size w w' := by
  have HC := Aside0.mk h
  have HL := Aside0.mk hl
  have he := fun W n c => Lib.run_eql_slice_nil (P := Tryd.prog) W 23 5 A n c 0 0 Tryd.underlying23
  clear h hl
  cases A with
  | none =>
    have h0 : l = [] := by
      rcases l with _ | ⟨b, l⟩
      · rfl
      · obtain ⟨ad, e, _⟩ := HC.out.2.2 (by simp)
        cases e
    subst h0
    go_enter Tryd.func43, Tryd.ntmps43
    go_wp2
    go_ret
    exact ⟨_, rfl, Kd.R_nil _ _ _ _ _, Below.refl _ _⟩
  | some ad =>
    go_enter Tryd.func43, Tryd.ntmps43
    go_wp2_with (at_builtin; refine u8_append (.tmp 5) (.tmp 6) 23 5 (.slice (some ⟨w.heap.size, 0, none⟩) 0 0) [] l _ _ _ w.heap.size rfl rfl Tryd.underlying23 info_u8 rfl rfl (R_empty u8 5 w) (Kd.C_below HC.out (below_alloc (Below.refl _ _) _)) ?c1 ?c2 ?_)
    case c1 => simp
    case c2 => have := HL.out; simp; omega
    intro v1 w1 hr hb1 hg hat
    have HR := Aside0.mk hr
    have HB := Aside0.mk ((below_alloc (Below.refl w.heap.size w) (.cells #[] 5)).trans hb1)
    clear hr hb1 hg hat
    go_wp2
    go_ret
    exact ⟨v1, rfl, HR.out, HB.out⟩

theorem run_typeAssert_map_sl {P : Program} (w : World) (t xT k e : TypeId) (v : Value) (h : P.underlying t = some (.map k e)) : (Instr.typeAssert (.iface t v) xT t false).run P w = .ok v w := by
  simp [Instr.typeAssert, run_underlying h, go_sem, Result.andThen]
theorem run_maps_clone_sl {P : Program} (w : World) {r : Nat} {es : Array MapEntry} {clock : Nat} (t : TypeId) (hb : w.heap[r]? = some (.map es clock)) :
    (Extern.MapsClone.clone #[.iface t (.map (some r))]).run P w = .ok (.iface t (.map (some w.heap.size))) (w.alloc (.map es clock)) := by
  have e : Extern.MapsClone.clone #[.iface t (.map (some r))] = (getObj r >>= fun o => match o with
      | .map entries clock => (newObj (.map entries clock) >>= fun n => pure (.iface t (.map (some n))))
      | _ => stuck "maps.clone: a map expected") := rfl
  rw [e]
  simp [MapKept.run_getObj_map hb, Result.andThen, go_sem]
set_option maxHeartbeats 1600000 in
set_option maxRecDepth 100000 in
theorem clone_dir {w : World} {b : Nat} {l : Dir} (h : DirIs w b l) :
    Calls Tryd.prog 38 #[.map (some b)] w fun e w' => ∃ b', e = .returned (.map (some b')) ∧ DirIs w' b' l ∧ w.heap.size ≤ b' ∧ Below w.heap.size w w' := by
  have he := fun W => run_eql_map_nil (P := Tryd.prog) W 63 _ _ (some b) Tryd.underlying63
  go_enter Tryd.func38, Tryd.ntmps38
  obtain ⟨es, clock, hb, hm⟩ := h
  go_wp2_with fail
  rw [run_callFunc_extern Tryd.func51 (by kernel_rfl) (by kernel_rfl) (by kernel_rfl) (e := Extern.MapsClone.clone) (by kernel_rfl), run_maps_clone_sl w 63 hb]
  simp only [Result.andThen]
  rw [Oper.upon_value]
  go_wp2
  rw [run_typeAssert_map_sl _ 63 _ _ _ _ Tryd.underlying63]
  simp only [Result.andThen]
  rw [Oper.upon_value]
  go_wp2
  go_ret
  exact ⟨w.heap.size, rfl, ⟨es, clock, heap_alloc_new _ _, hm⟩, Nat.le_refl _, below_alloc (Below.refl _ _) _⟩

/-- A disk without files. -/
def newD : ADisk := ⟨[], [], [], -1, fun _ => ⟨[], 0⟩, true⟩
set_option maxHeartbeats 1600000 in
set_option maxRecDepth 100000 in
theorem disk_New (w : World) :
    Calls Tryd.prog 18 #[] w fun e w' => ∃ d L, e = .returned (dptr d) ∧ DiskAt w' w.heap.size d L newD ∧ Below w.heap.size w w' := by
  have hmm := fun W => run_makeMap (P := Tryd.prog) 63 W
  go_enter Tryd.func18, Tryd.ntmps18
  go_wp2
  go_ret
  have e0 : ∀ (l : Nat), MapOf [] 0 [] := fun _ => ⟨rfl, fun _ h => (by cases h), List.nodup_nil, List.nodup_nil, fun _ h => (by cases h)⟩
  have hno : ∀ f, ¬ live newD f := fun f hf => by
    rcases hf with h | h | ⟨c, h, _⟩ <;> cases h
  refine ⟨w.heap.size + 2, ⟨w.heap.size, w.heap.size + 1, .slice none 0 0, fun _ => .slice none 0 0⟩, rfl, ⟨?_, by omega, ⟨#[], 0, ?_, e0 0⟩, Nat.le_refl _, ⟨#[], 0, ?_, e0 0⟩, by simp, by simp, Kd.R_nil _ _ _ _ _, fun f hf => (hno f hf).elim, fun f g hf _ _ => (hno f hf).elim, ⟨by decide, by decide, fun f hf => (hno f hf).elim, List.nodup_nil, fun _ => rfl, fun _ => trivial, List.nodup_nil, by decide⟩⟩, ?_⟩
  · rw [show w.heap.size + 2 = ((w.alloc (.map #[] 0)).alloc (.map #[] 0)).heap.size by simp]
    exact heap_alloc_new _ _
  · rw [Below.heap_alloc _ _ _ (by simp; omega), Below.heap_alloc _ _ _ (by simp)]
    exact heap_alloc_new w _
  · rw [Below.heap_alloc _ _ _ (by simp)]
    have := heap_alloc_new (w.alloc (.map #[] 0)) (.map #[] 0)
    simpa using this
  · exact below_alloc (below_alloc (below_alloc (Below.refl _ _) _) _) _

set_option maxHeartbeats 1600000 in
set_option maxRecDepth 100000 in
theorem disk_Quota {w : World} {base d : Nat} {L : Lay} {D : ADisk} (h : DiskAt w base d L D) (q : Int) (hq : -9223372036854775808 ≤ q ∧ q ≤ 9223372036854775807) :
    Calls Tryd.prog 24 #[dptr d, .int .i64 q] w fun e w' => e = .returned (.tuple #[]) ∧ DStep w base d L D w' L { D with quota := q } := by
  have hc3 := h.c3
  have hfr : w.frozen? ⟨d, 3, none⟩ = false := frozen_of_heap h.self
  have H := Aside0.mk h
  have HQ := Aside0.mk hq
  clear h hq
  unfold dptr
  go_enter Tryd.func24, Tryd.ntmps24
  go_wp2
  go_end0
  refine ⟨rfl, ?_⟩
  exact H.out.set_self (Keep.of_set w ⟨d, 3, none⟩ _) (by rw [heap_at_setCell H.out.self]; rfl) (.inl ⟨rfl, rfl⟩) (.inl ⟨rfl, rfl⟩) (fun f hf => hf) H.out.ok.n2 H.out.ok.replay H.out.ok.okc H.out.ok.inj HQ.out

theorem findP_some {D : ADisk} {s : Name} {f : Nat} (h : findP D s = some f) : live D f ∧ findWhy D s = 0 := by
  unfold findP at h
  split at h
  · cases h
  · rename_i hb
    refine ⟨.inl (List.mem_map.2 ⟨_, assoc_mem h, rfl⟩), ?_⟩
    simp [findWhy, hb, h]
theorem findP_none {D : ADisk} {s : Name} (h : findP D s = none) : findWhy D s = 20 ∨ findWhy D s = 25 := by
  unfold findWhy
  split
  · exact .inl rfl
  · rename_i hb
    have : assoc D.dir s = none := by simpa [findP, hb] using h
    rw [if_pos this]
    exact .inr rfl
/-- What Read tells. -/
def readB (D : ADisk) (s : Name) : List UInt8 := match findP D s with | some f => (D.file f).b | none => []
set_option maxHeartbeats 1600000 in
set_option maxRecDepth 100000 in
theorem disk_Read {w : World} {base d : Nat} {L : Lay} {D : ADisk} (h : DiskAt w base d L D) (s : Name) :
    Calls Tryd.prog 27 #[dptr d, .string s] w fun e w' => ∃ v, e = .returned (.tuple #[v, .int .i64 (findWhy D s)]) ∧ u8.R 5 w' w.heap.size (fun _ => True) v (readB D s) ∧ Below w.heap.size w w' := by
  have HF := Aside0.mk (disk_find h s)
  have H := Aside0.mk h
  clear h
  unfold dptr at *
  cases hf : findP D s with
  | none =>
    rw [hf] at HF
    have HR := Aside0.mk (show readB D s = [] by simp [readB, hf])
    have hw := findP_none hf
    have hne : (findWhy D s != 0) = true := by rcases hw with h | h <;> rw [h] <;> rfl
    clear hw hf
    generalize findWhy D s = why at *
    go_enter Tryd.func27, Tryd.ntmps27
    go_wp2_with (go_at_call 42; refine HF.out.mono ?_; rintro e w1 ⟨rfl, hb⟩)
    go_ret2
    exact ⟨_, rfl, by rw [HR.out]; exact Kd.R_nil _ _ _ _ _, hb⟩
  | some f =>
    rw [hf] at HF
    obtain ⟨hl, hwhy⟩ := findP_some hf
    have HR := Aside0.mk (show readB D s = (D.file f).b by simp [readB, hf])
    rw [hwhy] at HF ⊢
    clear hwhy hf
    simp only [optp, fptr] at HF
    go_enter Tryd.func27, Tryd.ntmps27
    go_wp2_with fail
    refine HF.out.mono ?_
    rintro e w1 ⟨rfl, hb⟩
    have hd1 := (DStep.of_below H.out hb).at_
    have hff := hd1.fil f hl
    have hbig := H.out.ok.big f hl
    obtain ⟨A, c, hv, hle, hC⟩ := Kd.R_reads hff.2.2
    have hcell : w1.cell? ⟨f, 0, none⟩ = some (.slice A (D.file f).b.length c) := by rw [← hv]; exact cell_of_heap hff.2.1 rfl
    have HC := Aside0.mk (clone_u8 A c (D.file f).b w1 hC (by omega))
    have HB := Aside0.mk hb
    clear hff hd1 hbig hC hv hle hb hl
    go_wp2_with (go_at_call 43; refine HC.out.mono ?_; rintro e w2 ⟨v, rfl, hr, hb2⟩)
    go_ret2
    exact ⟨v, rfl, by rw [HR.out]; exact Kd.R_lower hr HB.out.size, HB.out.trans (hb2.mono HB.out.size)⟩

def syncD (D : ADisk) (s : Name) : ADisk := match findP D s with | some f => { D with file := updN D.file f ⟨(D.file f).b, (D.file f).b.length⟩ } | none => D
set_option maxHeartbeats 1600000 in
set_option maxRecDepth 100000 in
theorem disk_Sync {w : World} {base d : Nat} {L : Lay} {D : ADisk} (h : DiskAt w base d L D) (s : Name) :
    Calls Tryd.prog 34 #[dptr d, .string s] w fun e w' => ∃ L', e = .returned (.int .i64 (findWhy D s)) ∧ DStep w base d L D w' L' (syncD D s) := by
  have HF := Aside0.mk (disk_find h s)
  have H := Aside0.mk h
  clear h
  unfold dptr at *
  cases hf : findP D s with
  | none =>
    rw [hf] at HF
    have HR := Aside0.mk (show syncD D s = D by simp [syncD, hf])
    have hw := findP_none hf
    have hne : (findWhy D s == 0) = false := by rcases hw with h | h <;> rw [h] <;> rfl
    clear hw hf
    generalize findWhy D s = why at *
    go_enter Tryd.func34, Tryd.ntmps34
    go_wp2_with (go_at_call 42; refine HF.out.mono ?_; rintro e w1 ⟨rfl, hb⟩)
    go_ret
    exact ⟨L, rfl, by rw [HR.out]; exact DStep.of_below H.out hb⟩
  | some f =>
    rw [hf] at HF
    obtain ⟨hl, hwhy⟩ := findP_some hf
    have HR := Aside0.mk (show syncD D s = { D with file := updN D.file f ⟨(D.file f).b, (D.file f).b.length⟩ } by simp [syncD, hf])
    rw [hwhy] at HF ⊢
    clear hwhy hf
    simp only [optp, fptr] at HF
    go_enter Tryd.func34, Tryd.ntmps34
    go_wp2_with fail
    refine HF.out.mono ?_
    rintro e w1 ⟨rfl, hb⟩
    have hd1 := (DStep.of_below H.out hb).at_
    have hff := hd1.fil f hl
    obtain ⟨A, c, hv, hle, hC⟩ := Kd.R_reads hff.2.2
    have hcell : w1.cell? ⟨f, 0, none⟩ = some (.slice A (D.file f).b.length c) := by rw [← hv]; exact cell_of_heap hff.2.1 rfl
    have hcell1 : w1.cell? ⟨f, 1, none⟩ = some (.int .i64 (D.file f).safe) := cell_of_heap hff.2.1 rfl
    have hfr : w1.frozen? ⟨f, 1, none⟩ = false := frozen_of_heap hff.2.1
    have HD1 := Aside0.mk hd1
    have HFF := Aside0.mk hff
    have HB := Aside0.mk hb
    have HL := Aside0.mk hl
    clear hff hd1 hC hv hle hb hl
    go_wp2
    go_ret
    refine ⟨{ L with row := updN L.row f (L.row f) }, rfl, ?_⟩
    rw [HR.out]
    refine (DStep.of_below H.out HB.out).trans (HD1.out.set_file (v' := L.row f) (x' := ⟨(D.file f).b, (D.file f).b.length⟩) HL.out ((Keep.of_set w1 ⟨f, 1, none⟩ _).mono (fun k hk => .inl (.inl hk))) ?_ ?_ (.inl rfl) ?_ (Nat.le_refl _))
    · rw [heap_at_setCell HFF.out.2.1]; rfl
    · refine R_moved rfl HFF.out.2.2 (fun k hk => ?_)
      obtain ⟨cells, hcc⟩ := own_block_typed HFF.out.2.2 hk
      exact Below.heap_setCell _ _ _ _ (ne_of_types hcc HFF.out.2.1 (by decide))
    · exact (HD1.out.ok.big f HL.out).1
end Go.Proofs.YthacnbbijmgjfaaDoor.Lib0

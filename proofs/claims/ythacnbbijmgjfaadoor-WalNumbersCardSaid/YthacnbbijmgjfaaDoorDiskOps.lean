/- What the disk's functions do. -/
import Derived.Test.YthacnbbijmgjfaaDoorDiskAt
import Derived.Deep.RegionLaw
set_option linter.unusedVariables false
set_option linter.unusedSimpArgs false
namespace Go.Proofs.YthacnbbijmgjfaaDoor.Lib0
open Go.RowKit Go.Proofs.YthacnbbijmgjfaaDoorW.PrintWords Go.ChangeMaps

def dptr (d : Nat) : Value := .pointer (some ⟨d, 0, none⟩)
theorem DiskAt.c0 {w : World} {base d : Nat} {L : Lay} {D : ADisk} (h : DiskAt w base d L D) : w.cell? ⟨d, 0, none⟩ = some (.map (some L.mb)) := cell_of_heap h.self rfl
theorem DiskAt.c1 {w : World} {base d : Nat} {L : Lay} {D : ADisk} (h : DiskAt w base d L D) : w.cell? ⟨d, 1, none⟩ = some (.map (some L.sb)) := cell_of_heap h.self rfl
theorem DiskAt.c2 {w : World} {base d : Nat} {L : Lay} {D : ADisk} (h : DiskAt w base d L D) : w.cell? ⟨d, 2, none⟩ = some L.chv := cell_of_heap h.self rfl
theorem DiskAt.c3 {w : World} {base d : Nat} {L : Lay} {D : ADisk} (h : DiskAt w base d L D) : w.cell? ⟨d, 3, none⟩ = some (.int .i64 D.quota) := cell_of_heap h.self rfl

/-- What find tells. -/
def findWhy (D : ADisk) (s : Name) : Int := if nameBad s then 20 else if assoc D.dir s = none then 25 else 0
def findP (D : ADisk) (s : Name) : Option Nat := if nameBad s then none else assoc D.dir s
set_option maxHeartbeats 1600000 in
set_option maxRecDepth 100000 in
theorem disk_find {w : World} {base d : Nat} {L : Lay} {D : ADisk} (h : DiskAt w base d L D) (s : Name) :
    Calls Tryd.prog 42 #[dptr d, .string s] w fun e w' => e = .returned (.tuple #[optp (findP D s), .int .i64 (findWhy D s)]) ∧ Below w.heap.size w w' := by
  have hc0 := h.c0
  have hlook := run_lookup_dir (P := Tryd.prog) Tryd.underlying63 Tryd.underlying9 zero_ptr h.dir s
  have hn := Aside0.mk (disk_names w.heap.size 0 1 s (w.alloc (.cells #[.string s] 9)) (cell_alloc_at rfl))
  clear h
  unfold dptr
  cases hb : nameBad s with
  | true =>
    have e1 : findP D s = none := by simp [findP, hb]
    have e2 : findWhy D s = 20 := by simp [findWhy, hb]
    rw [e1, e2]
    rw [hb] at hn
    clear e1 e2 hb
    generalize optp (assoc D.dir s) = r at *
    go_enter Tryd.func42, Tryd.ntmps42
    go_wp2_with (go_at_call 40; refine hn.out.mono ?_; rintro e w' ⟨rfl, rfl⟩)
    go_ret2
    exact ⟨rfl, below_alloc (Below.refl _ _) _⟩
  | false =>
    rw [hb] at hn
    cases ha : assoc D.dir s with
    | none =>
      have e1 : findP D s = none := by simp [findP, hb, ha]
      have e2 : findWhy D s = 25 := by simp [findWhy, hb, ha]
      rw [e1, e2]
      rw [ha] at hlook
      simp only [optp] at hlook
      clear e1 e2 hb ha
      go_enter Tryd.func42, Tryd.ntmps42
      go_wp2_with (go_at_call 40; refine hn.out.mono ?_; rintro e w' ⟨rfl, rfl⟩)
      go_ret2
      exact ⟨rfl, below_alloc (Below.refl _ _) _⟩
    | some f =>
      have e1 : findP D s = some f := by simp [findP, hb, ha]
      have e2 : findWhy D s = 0 := by simp [findWhy, hb, ha]
      rw [e1, e2]
      rw [ha] at hlook
      simp only [optp, fptr] at hlook
      clear e1 e2 hb ha
      go_enter Tryd.func42, Tryd.ntmps42
      go_wp2_with (go_at_call 40; refine hn.out.mono ?_; rintro e w' ⟨rfl, rfl⟩)
      go_ret2
      exact ⟨rfl, below_alloc (Below.refl _ _) _⟩

theorem info_chg : (Tryd.prog.info? 75).map (fun i => (i.zero, i.size, i.bytes)) = some (some (.agg #[.int .i64 0, .string ByteArray.empty, .string ByteArray.empty, .pointer none]), 4, 48) := by kernel_rfl
section
variable {P : Program} {ops : Array Oper} {o : Oper} {a : Act} {Q : Exit → Act → World → Prop} {Kc : Act → World → Prop}
/-- append(changes, c), a step of a region that draws. -/
theorem kchg_step {W : World} (s x : Operand) (t e : TypeId) (v : Value) (xs : List Chg) (c : Chg) (vf : Value) (base : Nat) (hvf : vf = optp c.f) (hw : Region.wanted o (yielded ops a.tmps) = true)
    (ho : o.op = .call { callee := .builtin .append, args := #[s, x], argTypes := #[t, t] }) (ht : P.underlying t = some (.slice e))
    (hinfo : (P.info? e).map (fun i => (i.zero, i.size, i.bytes)) = some (some (.agg #[.int .i64 0, .string ByteArray.empty, .string ByteArray.empty, .pointer none]), 4, 48))
    (hs : a.eval s = v) (hx : a.eval x = .slice (some ⟨W.heap.size, 0, none⟩) 1 1) (HO : kchg.R e W base (fun _ => True) v xs) (hbase : base ≤ W.heap.size) (hl : xs.length ≤ 1099511627776)
    (h : ∀ v1 w1, kchg.R e w1 base (fun _ => True) v1 (xs ++ [c]) → Below base W w1 → W.grownBy w1 v.ownBlock → (v1.ownBlock = v.ownBlock ∨ ∃ b, v1.ownBlock = some b ∧ W.heap.size ≤ b) → Kc (a.put o.dst v1) w1) :
    if Region.wanted o (yielded ops a.tmps) = true then Oper.wp P o a (W.alloc (.cells #[.int .i64 c.kind, .string c.name, .string c.dst, vf] e)) Kc Q else Kc (a.put o.dst undef) (W.alloc (.cells #[.int .i64 c.kind, .string c.name, .string c.dst, vf] e)) := by
  subst hvf
  exact Kd.R_append_step kchg (w0 := W) base hw s x t e _ 48 ho ht hinfo rfl (by decide) (by decide) v xs c c.cells (fun _ => True) (fun _ => False) hs hx (kchg_M c) (fun _ hk => hk.elim) (fun _ _ => trivial) HO (Below.refl _ _) hbase (by omega) h
end
theorem frozen_of_heap {w : World} {b i : Nat} {cs : Array Value} {e : TypeId} (h : w.heap[b]? = some (.cells cs e (0, 0))) : w.frozen? ⟨b, i, none⟩ = false := by
  unfold World.frozen?
  simp [h]
theorem disk_cell_after {w w3 : World} {base d : Nat} {cs : Array Value} {v : Value} {l : List Chg} (hd : w.heap[d]? = some (.cells cs 66 (0, 0))) (hr : kchg.R 75 w base (fun _ => True) v l) (hg : w.drew.grownBy w3 v.ownBlock) :
    w3.heap[d]? = some (.cells cs 66 (0, 0)) := by
  rw [hg.block d (Array.getElem?_eq_some_iff.1 hd).1 (fun e => ?_)]
  · exact hd
  · obtain ⟨cells, hcc⟩ := own_block_typed hr e.symm
    exact ne_of_types hd hcc (by decide) rfl
theorem turn_end {w0 w w1 w3 : World} {base d : Nat} {L : Lay} {D : ADisk} {c : Chg} {o : Obj} {v3 : Value} {RR : Nat → Value} {FF : Nat → FileS} (h0 : DiskAt w0 base d L D) (hb : Below w0.heap.size w0 w) (okc : OkChg D.dir c) (hlen : (doD D.dir c).length ≤ 4096)
    (hR : ∀ f, live D f → RR f = L.row f) (hF : ∀ f, live D f → FF f = D.file f)
    (hg : ∀ g, c.f = some g → live D g ∨ (base ≤ g ∧ w0.heap.size ≤ g ∧ w.heap[g]? = some (.cells #[RR g, .int .i64 (FF g).safe] 78 (0, 0)) ∧ u8.R 5 w base (fun _ => True) (RR g) (FF g).b ∧ (RR g).ownBlock = none ∧ (FF g).b.length ≤ 16777216 ∧ (FF g).safe ≤ (FF g).b.length))
    (W1 : (w.alloc o).drew.grownBy w1 (some L.mb)) (D1 : DirIs w1 L.mb (doD D.dir c)) (HDX : w1.heap[d]? = some (.cells #[.map (some L.mb), .map (some L.sb), L.chv, .int .i64 D.quota] 66 (0, 0)))
    (R3 : kchg.R 75 w3 base (fun _ => True) v3 (D.chg ++ [c])) (G3 : w1.drew.grownBy w3 L.chv.ownBlock) (A3 : v3.ownBlock = L.chv.ownBlock ∨ ∃ b, v3.ownBlock = some b ∧ w1.drew.heap.size ≤ b)
    (HCHG : kchg.R 75 w1 base (fun _ => True) L.chv D.chg) :
    DStep w0 base d L D (w3.setCell ⟨d, 2, none⟩ v3) { L with chv := v3, row := RR } { D with dir := doD D.dir c, chg := D.chg ++ [c], file := FF } := by
  have hw3 := disk_cell_after HDX HCHG G3
  have hk1 : Keep (fun k => k = d ∨ k = L.mb ∨ L.chv.ownBlock = some k) w w1 := ((Keep.of_alloc (fun k => L.mb = k) w o).trans (G := fun k => some L.mb = some k) (Keep.of_grown_drew W1) (fun k hk => .inl (by injection hk))).mono (fun k hk => .inl (.inr (.inl hk.symm)))
  have hk2 : Keep (fun k => k = d ∨ k = L.mb ∨ L.chv.ownBlock = some k) w w3 := hk1.trans (G := fun k => L.chv.ownBlock = some k) (Keep.of_grown_drew G3) (fun k hk => .inl (.inr (.inr hk)))
  have hk3 : Keep (fun k => k = d ∨ k = L.mb ∨ L.chv.ownBlock = some k) w (w3.setCell ⟨d, 2, none⟩ v3) := hk2.trans (G := fun k => k = d) (Keep.of_set w3 ⟨d, 2, none⟩ v3) (fun k hk => .inl (.inl hk))
  have hsz : w.heap.size ≤ w1.heap.size := hk1.size
  have hd3 : ∀ k, k ≠ d → (w3.setCell ⟨d, 2, none⟩ v3).heap[k]? = w3.heap[k]? := fun k hk => Below.heap_setCell _ _ _ _ hk
  refine h0.turned hb okc hlen hR hF hg hk3 ?_ ?_ ?_ ?_
  · rw [heap_at_setCell hw3]; rfl
  · obtain ⟨es, cl, hm, hM⟩ := D1
    have hne : L.mb ≠ d := (ne_of_map HDX hm).symm
    refine ⟨es, cl, ?_, hM⟩
    rw [hd3 _ hne, G3.block L.mb (Array.getElem?_eq_some_iff.1 hm).1 (fun e => ?_)]
    · exact hm
    · obtain ⟨cells, hcc⟩ := own_block_typed HCHG e.symm
      exact ne_of_map hcc hm rfl
  · refine R_moved rfl R3 (fun k hk => hd3 k ?_)
    rintro rfl
    obtain ⟨cells, hcc⟩ := own_block_typed R3 hk
    rw [hw3] at hcc
    injection hcc with hcc
    injection hcc with _ hcc
    exact absurd hcc (by decide)
  · rcases A3 with A3 | ⟨b, A3, hb3⟩
    · exact .inl A3
    · exact .inr ⟨b, A3, Nat.le_trans hb.size (Nat.le_trans hsz hb3)⟩
set_option maxHeartbeats 1600000 in
set_option maxRecDepth 100000 in
theorem disk_turn {w0 w : World} {base d : Nat} {L : Lay} {D : ADisk} (h0 : DiskAt w0 base d L D) (hb : Below w0.heap.size w0 w) {c : Chg} (okc : OkChg D.dir c) (hlen : (doD D.dir c).length ≤ 4096) (hch : D.chg.length ≤ 1099511627776) {RR : Nat → Value} {FF : Nat → FileS}
    (hR : ∀ f, live D f → RR f = L.row f) (hF : ∀ f, live D f → FF f = D.file f)
    (hg : ∀ g, c.f = some g → live D g ∨ (base ≤ g ∧ w0.heap.size ≤ g ∧ w.heap[g]? = some (.cells #[RR g, .int .i64 (FF g).safe] 78 (0, 0)) ∧ u8.R 5 w base (fun _ => True) (RR g) (FF g).b ∧ (RR g).ownBlock = none ∧ (FF g).b.length ≤ 16777216 ∧ (FF g).safe ≤ (FF g).b.length)) :
    Calls Tryd.prog 41 #[dptr d, .agg c.cells.toArray] w fun e w' => ∃ chv', e = .returned (.tuple #[]) ∧
      DStep w0 base d L D w' { L with chv := chv', row := RR } { D with dir := doD D.dir c, chg := D.chg ++ [c], file := FF } := by
  have h : DiskAt w base d L D := h0.moved (fun k hk => hb.block k (h0.fp_lt k hk))
  have hdlt : d < w.heap.size := h.fp_lt d (.inl rfl)
  have hd1 : DiskAt (w.alloc (.cells c.cells.toArray 75)) base d L D := h.moved (fun k hk => Below.heap_alloc _ _ _ (h.fp_lt k hk))
  have hc0 := h.c0
  have hc2 := h.c2
  obtain ⟨kind, name, dst, f⟩ := c
  simp only [Chg.cells] at *
  have HDO := Aside0.mk (fun W (hW : DirIs W L.mb D.dir) => disk_do L.mb D.dir ⟨kind, name, dst, f⟩ W hW okc)
  simp only [Chg.cells] at HDO
  have H1 := Aside0.mk hd1
  have H := Aside0.mk h
  have HOK := Aside0.mk okc
  have HL := Aside0.mk hlen
  have HCH := Aside0.mk hch
  have HB := Aside0.mk hb
  have H0 := Aside0.mk h0
  have HR := Aside0.mk hR
  have HF := Aside0.mk hF
  have HG := Aside0.mk hg
  clear hd1 h okc hlen hch hb h0 hR hF hg
  obtain ⟨vf, hvf⟩ : ∃ vf, vf = optp f := ⟨_, rfl⟩
  rw [← hvf] at HDO H1
  have HVF := Aside0.mk hvf
  rw [← hvf]
  clear hvf
  unfold dptr
  go_enter Tryd.func41, Tryd.ntmps41
  go_wp2
  go_region_with ((go_at_call 39; refine (HDO.out _ (by exact H1.out.dir.moved rfl)).mono ?_; rintro e w1 ⟨rfl, hd1, hg1⟩))
  all_goals
    have W1 := Aside0.mk hg1
    have D1 := Aside0.mk hd1
    have hbx : w1.heap[w.heap.size]? = some (.cells #[.int .i64 kind, .string name, .string dst, vf] 75) := by
      rw [hg1.block w.heap.size (by simp) (by intro e; injection e with e; have := H.out.dir.lt; omega)]
      exact heap_alloc_new w _
    have hdx : w1.heap[d]? = some (.cells #[.map (some L.mb), .map (some L.sb), L.chv, .int .i64 D.quota] 66 (0, 0)) := by
      rw [hg1.block d (by simp; omega) (by intro e; injection e with e; obtain ⟨es, cl, hm, _⟩ := H.out.dir; exact ne_of_map H.out.self hm e)]
      exact H1.out.self
    have hk0 : w1.cell? ⟨w.heap.size, 0, none⟩ = some (.int .i64 kind) := cell_of_heap hbx rfl
    have hk1 : w1.cell? ⟨w.heap.size, 1, none⟩ = some (.string name) := cell_of_heap hbx rfl
    have hk2 : w1.cell? ⟨w.heap.size, 2, none⟩ = some (.string dst) := cell_of_heap hbx rfl
    have hk3 : w1.cell? ⟨w.heap.size, 3, none⟩ = some vf := cell_of_heap hbx rfl
    have hd2 : w1.cell? ⟨d, 2, none⟩ = some L.chv := cell_of_heap hdx rfl
    have HDX := Aside0.mk hdx
    have hdlt1 : d < w1.heap.size := (Array.getElem?_eq_some_iff.1 hdx).1
    have HCHG : Aside0 (kchg.R 75 w1 base (fun _ => True) L.chv D.chg) := ⟨R_moved rfl H.out.chg (fun k hk => by
      obtain ⟨cells, hcc⟩ := own_block_typed H.out.chg hk
      have hlt := (Array.getElem?_eq_some_iff.1 hcc).1
      rw [hg1.block k (by simp; omega) (by intro e; injection e with e; obtain ⟨es, cl, hm, _⟩ := H.out.dir; exact ne_of_map hcc hm e)]
      exact Below.heap_alloc _ _ _ hlt)⟩
    have HBS : Aside0 (base ≤ w1.heap.size) := ⟨by have := hg1.size; simp at this; have := H.out.b0; omega⟩
    clear hg1 hd1 hbx hdx hc0 hc2
    go_wp2
    go_region_law (refine kchg_step (W := w1.drew) (.tmp 14) (.tmp 16) 64 75 L.chv D.chg ⟨kind, name, dst, f⟩ vf base HVF.out (by rfl) (by rfl) Tryd.underlying64 info_chg (by rfl) (by rfl) (by exact R_moved rfl HCHG.out (fun _ _ => rfl)) (by exact HBS.out) HCH.out ?_; intro v1 w3 hr3 hb3 hg3 ha3; obtain ⟨A3, c3, hv3, hl3, hC3⟩ := Kd.R_reads hr3; rw [List.length_append, List.length_singleton] at hv3; subst hv3; have hw3 := disk_cell_after HDX.out HCHG.out hg3; have hs1 : w3.cell? ⟨d, 2, none⟩ = some L.chv := cell_of_heap hw3 rfl; have hs2 : w3.frozen? ⟨d, 2, none⟩ = false := frozen_of_heap hw3; have HW3 := Aside0.mk hw3; have R3 := Aside0.mk hr3; have G3 := Aside0.mk hg3; have A3' := Aside0.mk ha3; clear hw3 hr3 hb3 hg3 ha3 hl3 hC3)
    all_goals
      go_wp2
      go_end0
      exact ⟨_, rfl, turn_end H0.out HB.out HOK.out HL.out HR.out HF.out HG.out W1.out D1.out HDX.out R3.out G3.out A3'.out HCHG.out⟩
end Go.Proofs.YthacnbbijmgjfaaDoor.Lib0

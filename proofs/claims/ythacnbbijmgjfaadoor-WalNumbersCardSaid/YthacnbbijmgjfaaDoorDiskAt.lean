/- How a disk lies in memory; what leaves it as it is; what its parts' changes make of it. -/
import Derived.Test.YthacnbbijmgjfaaDoorDisk
set_option linter.unusedVariables false
set_option linter.unusedSimpArgs false
namespace Go.Proofs.YthacnbbijmgjfaaDoor.Lib0
open Go.RowKit Go.Proofs.YthacnbbijmgjfaaDoorW.PrintWords Go.ChangeMaps

/-- Blocks of w outside F are as they were. -/
structure Keep (F : Nat → Prop) (w w' : World) : Prop where
  os : w'.os = w.os
  tape : w'.tape = w.tape
  output : w'.output = w.output
  size : w.heap.size ≤ w'.heap.size
  block : ∀ k, k < w.heap.size → ¬ F k → w'.heap[k]? = w.heap[k]?
theorem Keep.refl (F : Nat → Prop) (w : World) : Keep F w w := ⟨rfl, rfl, rfl, Nat.le_refl _, fun _ _ _ => rfl⟩
theorem Keep.trans {F G : Nat → Prop} {a b c : World} (h : Keep F a b) (g : Keep G b c) (hs : ∀ k, G k → F k ∨ a.heap.size ≤ k) : Keep F a c :=
  ⟨g.os.trans h.os, g.tape.trans h.tape, g.output.trans h.output, Nat.le_trans h.size g.size, fun k hk hf =>
    (g.block k (Nat.lt_of_lt_of_le hk h.size) (fun hg => (hs k hg).elim hf (fun h' => by omega))).trans (h.block k hk hf)⟩
theorem Keep.mono {F G : Nat → Prop} {a b : World} (h : Keep F a b) (hs : ∀ k, F k → G k ∨ a.heap.size ≤ k) : Keep G a b :=
  ⟨h.os, h.tape, h.output, h.size, fun k hk hg => h.block k hk (fun hf => (hs k hf).elim hg (fun h' => by omega))⟩
theorem Keep.of_grown {w w' : World} {row : Option Nat} (h : w.grownBy w' row) : Keep (fun k => row = some k) w w' := ⟨h.os, h.tape, h.output, h.size, fun k hk hn => h.block k hk (fun e => hn e.symm)⟩
theorem Keep.of_grown_drew {w w' : World} {row : Option Nat} (h : w.drew.grownBy w' row) : Keep (fun k => row = some k) w w' := ⟨h.os, h.tape, h.output, h.size, fun k hk hn => h.block k hk (fun e => hn e.symm)⟩
theorem Keep.of_below {B : Nat} {w w' : World} (h : Below B w w') : Keep (fun k => B ≤ k) w w' := ⟨h.os, h.tape, h.output, h.size, fun k _ hn => h.block k (by omega)⟩
theorem Keep.below {F : Nat → Prop} {B : Nat} {w w' : World} (h : Keep F w w') (hF : ∀ k, F k → B ≤ k) (hB : B ≤ w.heap.size) : Below B w w' := ⟨h.os, h.tape, h.output, h.size, fun k hk => h.block k (by omega) (fun hf => by have := hF k hf; omega)⟩
theorem Keep.of_drewN (F : Nat → Prop) (w : World) (n : Nat) : Keep F w (w.drewN n) := ⟨rfl, rfl, rfl, Nat.le_refl _, fun _ _ _ => rfl⟩
theorem Keep.of_alloc (F : Nat → Prop) (w : World) (o : Obj) : Keep F w (w.alloc o) := ⟨rfl, rfl, rfl, by simp, fun k hk _ => Below.heap_alloc _ _ _ hk⟩
theorem Keep.of_set (w : World) (a : Addr) (u : Value) : Keep (fun k => k = a.block) w (w.setCell a u) := ⟨rfl, rfl, rfl, by simp [World.setCell], fun k _ hn => Below.heap_setCell _ _ _ _ hn⟩

structure FileS where
  b : List UInt8
  safe : Nat
structure ADisk where
  dir : Dir
  sdir : Dir
  chg : List Chg
  quota : Int
  file : Nat → FileS
  sane : Bool   -- the directory is what the changes make of the safe one
structure Lay where
  mb : Nat
  sb : Nat
  chv : Value
  row : Nat → Value
def ids (l : Dir) : List Nat := l.map (·.2)
def live (D : ADisk) (f : Nat) : Prop := f ∈ ids D.dir ∨ f ∈ ids D.sdir ∨ ∃ c ∈ D.chg, c.f = some f
def OkChgs : Dir → List Chg → Prop
  | _, [] => True
  | l, c :: cs => OkChg l c ∧ OkChgs (doD l c) cs
structure DOk (D : ADisk) : Prop where
  n1 : D.dir.length ≤ 4096
  n2 : D.sdir.length ≤ 4096
  big : ∀ f, live D f → (D.file f).b.length ≤ 16777216 ∧ (D.file f).safe ≤ (D.file f).b.length
  injd : (ids D.dir).Nodup
  replay : D.sane = true → D.dir = D.chg.foldl doD D.sdir
  okc : D.sane = true → OkChgs D.sdir D.chg
  inj : (ids D.sdir).Nodup
  q : -9223372036854775808 ≤ D.quota ∧ D.quota ≤ 9223372036854775807
structure DiskAt (w : World) (base d : Nat) (L : Lay) (D : ADisk) : Prop where
  self : w.heap[d]? = some (.cells #[.map (some L.mb), .map (some L.sb), L.chv, .int .i64 D.quota] 66 (0, 0))
  b0 : base ≤ d
  dir : DirIs w L.mb D.dir
  b1 : base ≤ L.mb
  sdir : DirIs w L.sb D.sdir
  b2 : base ≤ L.sb
  msb : L.mb ≠ L.sb
  chg : kchg.R 75 w base (fun _ => True) L.chv D.chg
  fil : ∀ f, live D f → base ≤ f ∧ w.heap[f]? = some (.cells #[L.row f, .int .i64 (D.file f).safe] 78 (0, 0)) ∧ u8.R 5 w base (fun _ => True) (L.row f) (D.file f).b
  apart : ∀ f g, live D f → live D g → f ≠ g → (L.row f).ownBlock = none ∨ (L.row f).ownBlock ≠ (L.row g).ownBlock
  ok : DOk D
/-- The blocks of a disk. -/
def FP (d : Nat) (L : Lay) (D : ADisk) (k : Nat) : Prop := k = d ∨ k = L.mb ∨ k = L.sb ∨ L.chv.ownBlock = some k ∨ live D k ∨ ∃ f, live D f ∧ (L.row f).ownBlock = some k
section
variable {w w' : World} {base d : Nat} {L : Lay} {D : ADisk}
theorem DiskAt.fp_base (h : DiskAt w base d L D) : ∀ k, FP d L D k → base ≤ k := by
  rintro k (rfl | rfl | rfl | hk | hk | ⟨f, hf, hk⟩)
  · exact h.b0
  · exact h.b1
  · exact h.b2
  · exact R_base h.chg k hk
  · exact (h.fil k hk).1
  · exact R_base (h.fil f hf).2.2 k hk
/-- What lies in a disk's blocks. -/
theorem DiskAt.fp_kind (h : DiskAt w base d L D) : ∀ k, FP d L D k → (∃ es c, w.heap[k]? = some (.map es c)) ∨ ∃ cs t, w.heap[k]? = some (.cells cs t (0, 0)) ∧ (t = 66 ∨ t = 75 ∨ t = 78 ∨ t = 5) := by
  rintro k (rfl | rfl | rfl | hk | hk | ⟨f, hf, hk⟩)
  · exact .inr ⟨_, _, h.self, .inl rfl⟩
  · obtain ⟨es, c, h1, _⟩ := h.dir
    exact .inl ⟨es, c, h1⟩
  · obtain ⟨es, c, h1, _⟩ := h.sdir
    exact .inl ⟨es, c, h1⟩
  · obtain ⟨inner, ho⟩ := Kd.R_own h.chg
    obtain ⟨cells, hc⟩ := own_typed ho k hk
    exact .inr ⟨_, _, hc, .inr (.inl rfl)⟩
  · exact .inr ⟨_, _, (h.fil k hk).2.1, .inr (.inr (.inl rfl))⟩
  · obtain ⟨inner, ho⟩ := Kd.R_own (h.fil f hf).2.2
    obtain ⟨cells, hc⟩ := own_typed ho k hk
    exact .inr ⟨_, _, hc, .inr (.inr (.inr rfl))⟩
theorem DiskAt.fp_lt (h : DiskAt w base d L D) : ∀ k, FP d L D k → k < w.heap.size := by
  intro k hk
  rcases h.fp_kind k hk with ⟨es, c, h1⟩ | ⟨cs, t, h1, _⟩
  · exact (Array.getElem?_eq_some_iff.1 h1).1
  · exact (Array.getElem?_eq_some_iff.1 h1).1
theorem own_of_block {v : Value} {e : TypeId} {size n : Nat} {xs : List Value} {b : Nat} (h : w.ownsRow b e size v n xs) (hm : ∀ k, v.ownBlock = some k → w'.heap[k]? = w.heap[k]?) : w'.ownsRow b e size v n xs := own_move h hm
theorem R_moved {α : Type} {dd : Kd α} {e : Nat} {ok : Nat → Prop} {v : Value} {l : List α} (hE : dd.E = []) (h : dd.R e w base ok v l) (hm : ∀ k, v.ownBlock = some k → w'.heap[k]? = w.heap[k]?) : dd.R e w' base ok v l := by
  refine Kd.R_mono (Kd.R_move (ok := fun k => ok k ∧ v.ownBlock = some k) ?_ (fun k hk => hm k hk.2)) (fun _ hk => hk.1)
  obtain ⟨h0, inner, ho, hr⟩ := h
  refine ⟨fun k hk => ⟨h0 k hk, hk⟩, inner, ho, hr.imp_ (fun _ _ hp => dd.M_mono (fun k hk => ?_) (dd.M_bound hp))⟩
  obtain ⟨_, _, _, q, hq, _⟩ := hk
  rw [hE] at hq
  cases hq
theorem DiskAt.moved (h : DiskAt w base d L D) (hm : ∀ k, FP d L D k → w'.heap[k]? = w.heap[k]?) : DiskAt w' base d L D where
  self := (hm _ (.inl rfl)).trans h.self
  b0 := h.b0
  dir := h.dir.moved (hm _ (.inr (.inl rfl)))
  b1 := h.b1
  sdir := h.sdir.moved (hm _ (.inr (.inr (.inl rfl))))
  b2 := h.b2
  msb := h.msb
  chg := R_moved rfl h.chg (fun k hk => hm k (.inr (.inr (.inr (.inl hk)))))
  fil := fun f hf => ⟨(h.fil f hf).1, (hm f (.inr (.inr (.inr (.inr (.inl hf)))))).trans (h.fil f hf).2.1, R_moved rfl (h.fil f hf).2.2 (fun k hk => hm k (.inr (.inr (.inr (.inr (.inr ⟨f, hf, hk⟩))))))⟩
  apart := h.apart
  ok := h.ok
theorem DiskAt.kept (h : DiskAt w base d L D) {F : Nat → Prop} (hk : Keep F w w') (hF : ∀ k, F k → ¬ FP d L D k ∨ w.heap.size ≤ k) : DiskAt w' base d L D :=
  h.moved (fun k hf => hk.block k (h.fp_lt k hf) (fun hF' => by
    rcases hF k hF' with h1 | h1
    · exact h1 hf
    · have := h.fp_lt k hf; omega))
/-- Where blocks of another kind lie, no disk does. -/
theorem DiskAt.not_fp (h : DiskAt w base d L D) {k : Nat} {cs : Array Value} {t : TypeId} {fr : Nat × Nat} (hk : w.heap[k]? = some (.cells cs t fr)) (h1 : t ≠ 66) (h2 : t ≠ 75) (h3 : t ≠ 78) (h4 : t ≠ 5) : ¬ FP d L D k := by
  intro hf
  rcases h.fp_kind k hf with ⟨es, c, e⟩ | ⟨cs', t', e, ht⟩
  · rw [hk] at e; cases e
  · rw [hk] at e
    injection e with e
    injection e with _ e _
    subst e
    rcases ht with h' | h' | h' | h' <;> contradiction
end

def updN {α : Type} (g : Nat → α) (f : Nat) (x : α) : Nat → α := fun k => if k = f then x else g k
theorem updN_same {α : Type} (g : Nat → α) (f : Nat) (x : α) : updN g f x f = x := by simp [updN]
theorem updN_other {α : Type} (g : Nat → α) (f : Nat) (x : α) {k : Nat} (h : k ≠ f) : updN g f x k = g k := by simp [updN, h]
/-- One step of a disk: its blocks alone have turned; those that it has now are old ones of its own or new. -/
structure DStep (w : World) (base d : Nat) (L : Lay) (D : ADisk) (w' : World) (L' : Lay) (D' : ADisk) : Prop where
  at_ : DiskAt w' base d L' D'
  keep : Keep (FP d L D) w w'
  sub : ∀ k, FP d L' D' k → FP d L D k ∨ w.heap.size ≤ k
section
variable {w w' w1 : World} {base d : Nat} {L L' L1 : Lay} {D D' D1 : ADisk}
theorem DStep.refl (h : DiskAt w base d L D) : DStep w base d L D w L D := ⟨h, Keep.refl _ _, fun _ hk => .inl hk⟩
theorem DStep.trans (h : DStep w base d L D w1 L1 D1) (g : DStep w1 base d L1 D1 w' L' D') : DStep w base d L D w' L' D' :=
  ⟨g.at_, h.keep.trans g.keep h.sub, fun k hk => (g.sub k hk).elim (h.sub k) (fun h' => .inr (Nat.le_trans h.keep.size h'))⟩
/-- A step that made memory alone. -/
theorem DStep.of_below (h : DiskAt w base d L D) (hb : Below w.heap.size w w1) : DStep w base d L D w1 L D :=
  ⟨h.moved (fun k hk => hb.block k (h.fp_lt k hk)), (Keep.of_below hb).mono (fun k hk => .inr hk), fun _ hk => .inl hk⟩
theorem heap_at_setCell {w : World} {b i : Nat} {cs : Array Value} {t : TypeId} {fr : Nat × Nat} {v : Value} (h : w.heap[b]? = some (.cells cs t fr)) : (w.setCell ⟨b, i, none⟩ v).heap[b]? = some (.cells (cs.setIfInBounds i v) t fr) := by
  simp [World.setCell, Array.getElem?_modify, h]
theorem ne_of_types {k k' : Nat} {cs cs' : Array Value} {t t' : TypeId} {fr fr' : Nat × Nat} (h : w.heap[k]? = some (.cells cs t fr)) (h' : w.heap[k']? = some (.cells cs' t' fr')) (hne : t ≠ t') : k ≠ k' := by
  rintro rfl
  rw [h] at h'
  injection h' with h'
  injection h' with _ h'
  exact hne h'
theorem ne_of_map {k k' : Nat} {cs : Array Value} {t : TypeId} {fr : Nat × Nat} {es : Array MapEntry} {c : Nat} (h : w.heap[k]? = some (.cells cs t fr)) (h' : w.heap[k']? = some (.map es c)) : k ≠ k' := by
  rintro rfl
  rw [h] at h'
  cases h'
theorem own_block_typed {α : Type} {dd : Kd α} {e : Nat} {ok : Nat → Prop} {v : Value} {l : List α} (h : dd.R e w base ok v l) {k : Nat} (hk : v.ownBlock = some k) : ∃ cells, w.heap[k]? = some (.cells cells e (0, 0)) := by
  obtain ⟨inner, ho⟩ := Kd.R_own h
  exact own_typed ho k hk
/-- A file's struct and row have turned, nothing else of the disk. -/
theorem DiskAt.set_file (h : DiskAt w base d L D) {f : Nat} (hf : live D f) {v' : Value} {x' : FileS} (hk : Keep (fun k => k = f ∨ (L.row f).ownBlock = some k) w w')
    (h1 : w'.heap[f]? = some (.cells #[v', .int .i64 x'.safe] 78 (0, 0))) (h2 : u8.R 5 w' base (fun _ => True) v' x'.b)
    (h3 : v'.ownBlock = (L.row f).ownBlock ∨ v'.ownBlock = none ∨ ∃ b, v'.ownBlock = some b ∧ w.heap.size ≤ b) (h4 : x'.b.length ≤ 16777216) (h5 : x'.safe ≤ x'.b.length) :
    DStep w base d L D w' { L with row := updN L.row f v' } { D with file := updN D.file f x' } := by
  have hff := (h.fil f hf).2.1
  have hkeep : ∀ k, k < w.heap.size → k ≠ f → (L.row f).ownBlock ≠ some k → w'.heap[k]? = w.heap[k]? := fun k hl hne hr => hk.block k hl (fun h => h.elim hne hr)
  have hcell : ∀ {k : Nat} {cs : Array Value} {t : TypeId} {fr : Nat × Nat}, w.heap[k]? = some (.cells cs t fr) → t ≠ 78 → t ≠ 5 → w'.heap[k]? = w.heap[k]? := by
    intro k cs t fr hc ht1 ht2
    refine hkeep k (Array.getElem?_eq_some_iff.1 hc).1 (ne_of_types hc hff ht1) (fun hr => ?_)
    obtain ⟨cells, hcc⟩ := own_block_typed (h.fil f hf).2.2 hr
    exact ne_of_types hc hcc ht2 rfl
  have hmap : ∀ {k : Nat} {l : Dir}, DirIs w k l → w'.heap[k]? = w.heap[k]? := by
    rintro k l ⟨es, c, hm, _⟩
    refine hkeep k (Array.getElem?_eq_some_iff.1 hm).1 (ne_of_map hff hm).symm (fun hr => ?_)
    obtain ⟨cells, hcc⟩ := own_block_typed (h.fil f hf).2.2 hr
    exact ne_of_map hcc hm rfl
  have hfile : ∀ g, live D g → g ≠ f → w'.heap[g]? = w.heap[g]? := by
    intro g hg hne
    have hgg := (h.fil g hg).2.1
    refine hkeep g (Array.getElem?_eq_some_iff.1 hgg).1 hne (fun hr => ?_)
    obtain ⟨cells, hcc⟩ := own_block_typed (h.fil f hf).2.2 hr
    exact ne_of_types hgg hcc (by decide) rfl
  have hrow : ∀ g, live D g → g ≠ f → ∀ k, (L.row g).ownBlock = some k → w'.heap[k]? = w.heap[k]? := by
    intro g hg hne k hkk
    obtain ⟨cells, hcc⟩ := own_block_typed (h.fil g hg).2.2 hkk
    refine hkeep k (Array.getElem?_eq_some_iff.1 hcc).1 (fun e => ?_) (fun hr => ?_)
    · subst e
      exact ne_of_types hcc hff (by decide) rfl
    · rcases h.apart g f hg hf hne with h' | h'
      · rw [h'] at hkk; cases hkk
      · exact h' (hkk.trans hr.symm)
  refine ⟨⟨(hcell h.self (by decide) (by decide)).trans h.self, h.b0, h.dir.moved (hmap h.dir), h.b1, h.sdir.moved (hmap h.sdir), h.b2, h.msb, ?_, ?_, ?_, ?_⟩, ?_, ?_⟩
  · refine R_moved rfl h.chg (fun k hkk => ?_)
    obtain ⟨cells, hcc⟩ := own_block_typed h.chg hkk
    exact hcell hcc (by decide) (by decide)
  · intro g hg
    by_cases hgf : g = f
    · subst hgf
      simp only [updN_same]
      exact ⟨(h.fil g hg).1, h1, h2⟩
    · simp only [updN_other _ _ _ hgf]
      exact ⟨(h.fil g hg).1, (hfile g hg hgf).trans (h.fil g hg).2.1, R_moved rfl (h.fil g hg).2.2 (hrow g hg hgf)⟩
  · have key : ∀ g, live D g → g ≠ f → (L.row g).ownBlock = none ∨ (L.row g).ownBlock ≠ v'.ownBlock := by
      intro g hg hne
      rcases h3 with h3 | h3 | ⟨b, h3, hb⟩
      · rw [h3]; exact h.apart g f hg hf hne
      · rw [h3]
        cases hrg : (L.row g).ownBlock with
        | none => exact .inl rfl
        | some k => exact .inr (by simp)
      · rw [h3]
        cases hrg : (L.row g).ownBlock with
        | none => exact .inl rfl
        | some k =>
          right
          intro e
          injection e with e
          subst e
          obtain ⟨cells, hcc⟩ := own_block_typed (h.fil g hg).2.2 hrg
          have := (Array.getElem?_eq_some_iff.1 hcc).1
          omega
    intro g g' hg hg' hne
    by_cases e1 : g = f <;> by_cases e2 : g' = f
    · exact absurd (e1.trans e2.symm) hne
    · subst e1
      simp only [updN_same, updN_other _ _ _ e2]
      rcases key g' hg' e2 with h' | h'
      · cases hv : v'.ownBlock with
        | none => exact .inl rfl
        | some k => right; rw [h']; simp
      · exact .inr h'.symm
    · subst e2
      simp only [updN_same, updN_other _ _ _ e1]
      exact key g hg e1
    · simp only [updN_other _ _ _ e1, updN_other _ _ _ e2]
      exact h.apart g g' hg hg' hne
  · refine ⟨h.ok.n1, h.ok.n2, fun g hg => ?_, h.ok.injd, h.ok.replay, h.ok.okc, h.ok.inj, h.ok.q⟩
    by_cases hgf : g = f
    · subst hgf
      simp only [updN_same]
      exact ⟨h4, h5⟩
    · simp only [updN_other _ _ _ hgf]
      exact h.ok.big g hg
  · refine hk.mono (fun k hkk => .inl ?_)
    rcases hkk with rfl | hkk
    · exact .inr (.inr (.inr (.inr (.inl hf))))
    · exact .inr (.inr (.inr (.inr (.inr ⟨f, hf, hkk⟩))))
  · rintro k (rfl | rfl | rfl | hkk | hkk | ⟨g, hg, hkk⟩)
    · exact .inl (.inl rfl)
    · exact .inl (.inr (.inl rfl))
    · exact .inl (.inr (.inr (.inl rfl)))
    · exact .inl (.inr (.inr (.inr (.inl hkk))))
    · exact .inl (.inr (.inr (.inr (.inr (.inl hkk)))))
    · by_cases hgf : g = f
      · subst hgf
        simp only [updN_same] at hkk
        rcases h3 with h3 | h3 | ⟨b, h3, hb⟩
        · exact .inl (.inr (.inr (.inr (.inr (.inr ⟨g, hg, h3.symm.trans hkk⟩)))))
        · rw [h3] at hkk; cases hkk
        · rw [h3] at hkk; injection hkk with hkk; subst hkk; exact .inr hb
      · simp only [updN_other _ _ _ hgf] at hkk
        exact .inl (.inr (.inr (.inr (.inr (.inr ⟨g, hg, hkk⟩)))))
theorem okchgs_snoc {c : Chg} : ∀ {cs : List Chg} {l : Dir}, OkChgs l cs → OkChg (cs.foldl doD l) c → OkChgs l (cs ++ [c])
  | [], _, _, hc => ⟨hc, trivial⟩
  | _ :: _, _, h, hc => ⟨h.1, okchgs_snoc h.2 hc⟩
theorem mem_putD {l : Dir} {s : Name} {f : Nat} {p : Name × Nat} (h : p ∈ putD l s f) : p ∈ l ∨ p = (s, f) := by
  induction l with
  | nil => simp [putD] at h; exact .inr h
  | cons q l ih =>
    unfold putD at h
    split at h
    · rename_i hs
      rcases List.mem_cons.1 h with rfl | h
      · exact .inr (by rw [hs])
      · exact .inl (List.mem_cons_of_mem _ h)
    · rcases List.mem_cons.1 h with rfl | h
      · exact .inl (by simp)
      · rcases ih h with h | h
        · exact .inl (List.mem_cons_of_mem _ h)
        · exact .inr h
theorem ids_do {l : Dir} {c : Chg} (ok : OkChg l c) {g : Nat} (h : g ∈ ids (doD l c)) : g ∈ ids l ∨ c.f = some g := by
  obtain ⟨p, hp, rfl⟩ := List.mem_map.1 h
  unfold doD at hp
  split at hp
  · rename_i h0
    rcases mem_putD hp with h' | rfl
    · exact .inl (List.mem_map.2 ⟨p, h', rfl⟩)
    · right
      obtain ⟨g, hg⟩ := Option.isSome_iff_exists.1 (ok.made h0)
      rw [hg]; rfl
  · split at hp
    · rename_i h1
      obtain ⟨g, hg⟩ := Option.isSome_iff_exists.1 (ok.ren h1)
      rw [hg] at hp
      left
      rcases mem_putD hp with h' | rfl
      · exact List.mem_map.2 ⟨p, delD_sub p h', rfl⟩
      · exact List.mem_map.2 ⟨_, assoc_mem hg, rfl⟩
    · left
      split at hp
      · exact List.mem_map.2 ⟨p, delD_sub p hp, rfl⟩
      · exact List.mem_map.2 ⟨p, hp, rfl⟩
theorem ids_put {l : Dir} {s : Name} {g : Nat} (hg : g ∉ ids l) (hn : (ids l).Nodup) : (ids (putD l s g)).Nodup := by
  induction l with
  | nil => simp [putD, ids]
  | cons p l ih =>
    simp only [ids, List.map_cons, List.mem_cons, not_or, List.nodup_cons] at hg hn
    unfold putD
    split
    · simp only [ids, List.map_cons, List.nodup_cons]
      exact ⟨hg.2, hn.2⟩
    · simp only [ids, List.map_cons, List.nodup_cons]
      refine ⟨fun hm => ?_, ih hg.2 hn.2⟩
      obtain ⟨q, hq, e⟩ := List.mem_map.1 hm
      rcases mem_putD hq with h | rfl
      · exact hn.1 (List.mem_map.2 ⟨q, h, e⟩)
      · exact hg.1 e
theorem ids_del_sub {l : Dir} {s : Name} : (ids (delD l s)).Sublist (ids l) := by
  induction l with
  | nil => exact List.Sublist.refl _
  | cons p l ih =>
    unfold delD
    split
    · simp only [ids, List.map_cons]; exact List.sublist_cons_self _ _
    · simp only [ids, List.map_cons]; exact ih.cons_cons _
theorem ids_del {l : Dir} {s : Name} {g : Nat} (h : assoc l s = some g) (hn : (ids l).Nodup) : g ∉ ids (delD l s) := by
  induction l with
  | nil => cases h
  | cons p l ih =>
    simp only [ids, List.map_cons, List.nodup_cons] at hn
    unfold assoc at h
    unfold delD
    split at h
    · rename_i hs
      injection h with h
      rw [if_pos hs, ← h]
      exact hn.1
    · rename_i hs
      rw [if_neg hs]
      simp only [ids, List.map_cons, List.mem_cons, not_or]
      refine ⟨fun e => hn.1 ?_, ih h hn.2⟩
      rw [← e]
      exact List.mem_map.2 ⟨_, assoc_mem h, rfl⟩
theorem ids_nodup_do {l : Dir} {c : Chg} (ok : OkChg l c) (hn : (ids l).Nodup) : (ids (doD l c)).Nodup := by
  unfold doD
  split
  · rename_i h0
    obtain ⟨g, hg⟩ := Option.isSome_iff_exists.1 (ok.made h0)
    rw [hg]
    exact ids_put (ok.fresh h0 g hg) hn
  · split
    · rename_i h1
      obtain ⟨g, hg⟩ := Option.isSome_iff_exists.1 (ok.ren h1)
      rw [hg]
      exact ids_put (ids_del hg hn) (hn.sublist ids_del_sub)
    · split
      · exact hn.sublist ids_del_sub
      · exact hn
theorem ids_nodup_all : ∀ {cs : List Chg} {l : Dir}, OkChgs l cs → (ids l).Nodup → (ids (cs.foldl doD l)).Nodup
  | [], _, _, h => h
  | _ :: cs, l, ok, h => ids_nodup_all (cs := cs) ok.2 (ids_nodup_do ok.1 h)
/-- A change was done and noted. w0: the world before a new file's struct was made. -/
theorem DiskAt.turned {w0 : World} (h : DiskAt w0 base d L D) (hb : Below w0.heap.size w0 w) {c : Chg} (okc : OkChg D.dir c) (hlen : (doD D.dir c).length ≤ 4096) {chv' : Value} {RR : Nat → Value} {FF : Nat → FileS}
    (hR : ∀ f, live D f → RR f = L.row f) (hF : ∀ f, live D f → FF f = D.file f)
    (hg : ∀ g, c.f = some g → live D g ∨ (base ≤ g ∧ w0.heap.size ≤ g ∧ w.heap[g]? = some (.cells #[RR g, .int .i64 (FF g).safe] 78 (0, 0)) ∧ u8.R 5 w base (fun _ => True) (RR g) (FF g).b ∧ (RR g).ownBlock = none ∧ (FF g).b.length ≤ 16777216 ∧ (FF g).safe ≤ (FF g).b.length))
    (hk : Keep (fun k => k = d ∨ k = L.mb ∨ L.chv.ownBlock = some k) w w')
    (h1 : w'.heap[d]? = some (.cells #[.map (some L.mb), .map (some L.sb), chv', .int .i64 D.quota] 66 (0, 0)))
    (h2 : DirIs w' L.mb (doD D.dir c)) (h3 : kchg.R 75 w' base (fun _ => True) chv' (D.chg ++ [c]))
    (h4 : chv'.ownBlock = L.chv.ownBlock ∨ ∃ b, chv'.ownBlock = some b ∧ w0.heap.size ≤ b) :
    DStep w0 base d L D w' { L with chv := chv', row := RR } { D with dir := doD D.dir c, chg := D.chg ++ [c], file := FF } := by
  have hw : DiskAt w base d L D := h.moved (fun k hk => hb.block k (h.fp_lt k hk))
  have hkeep : ∀ k, k < w.heap.size → k ≠ d → k ≠ L.mb → L.chv.ownBlock ≠ some k → w'.heap[k]? = w.heap[k]? := fun k hl a b c => hk.block k hl (fun h => by rcases h with h | h | h <;> contradiction)
  have hcell : ∀ {k : Nat} {cs : Array Value} {t : TypeId} {fr : Nat × Nat}, w.heap[k]? = some (.cells cs t fr) → t ≠ 66 → t ≠ 75 → w'.heap[k]? = w.heap[k]? := by
    intro k cs t fr hc ht1 ht2
    obtain ⟨es, cl, hm, _⟩ := hw.dir
    refine hkeep k (Array.getElem?_eq_some_iff.1 hc).1 (ne_of_types hc hw.self ht1) (ne_of_map hc hm) (fun hr => ?_)
    obtain ⟨cells, hcc⟩ := own_block_typed hw.chg hr
    exact ne_of_types hc hcc ht2 rfl
  have live' : ∀ f, live { D with dir := doD D.dir c, chg := D.chg ++ [c], file := FF } f → live D f ∨ c.f = some f := by
    rintro f (hf | hf | ⟨c', hc', hf⟩)
    · rcases ids_do okc hf with h' | h'
      · exact .inl (.inl h')
      · exact .inr h'
    · exact .inl (.inr (.inl hf))
    · rcases List.mem_append.1 hc' with hc' | hc'
      · exact .inl (.inr (.inr ⟨c', hc', hf⟩))
      · rw [List.mem_singleton] at hc'
        subst hc'
        exact .inr hf
  have hfil : ∀ f, live D f → base ≤ f ∧ w'.heap[f]? = some (.cells #[RR f, .int .i64 (FF f).safe] 78 (0, 0)) ∧ u8.R 5 w' base (fun _ => True) (RR f) (FF f).b := by
    intro f hf
    rw [hR f hf, hF f hf]
    have := hw.fil f hf
    refine ⟨this.1, (hcell this.2.1 (by decide) (by decide)).trans this.2.1, R_moved rfl this.2.2 (fun k hkk => ?_)⟩
    obtain ⟨cells, hcc⟩ := own_block_typed this.2.2 hkk
    exact hcell hcc (by decide) (by decide)
  have hsb : w'.heap[L.sb]? = w.heap[L.sb]? := by
    obtain ⟨es, cl, hm, _⟩ := hw.sdir
    refine hkeep _ (Array.getElem?_eq_some_iff.1 hm).1 (ne_of_map hw.self hm).symm hw.msb.symm (fun hr => ?_)
    obtain ⟨cells, hcc⟩ := own_block_typed hw.chg hr
    exact ne_of_map hcc hm rfl
  have hnew : ∀ f, c.f = some f → ¬ live D f → base ≤ f ∧ w'.heap[f]? = some (.cells #[RR f, .int .i64 (FF f).safe] 78 (0, 0)) ∧ u8.R 5 w' base (fun _ => True) (RR f) (FF f).b ∧ (RR f).ownBlock = none ∧ w0.heap.size ≤ f ∧ (FF f).b.length ≤ 16777216 ∧ (FF f).safe ≤ (FF f).b.length := by
    intro f hf hnl
    rcases hg f hf with h' | ⟨g1, g2, g3, g4, g5, g6, g7⟩
    · exact absurd h' hnl
    · exact ⟨g1, (hcell g3 (by decide) (by decide)).trans g3, R_moved rfl g4 (fun k hkk => by rw [g5] at hkk; cases hkk), g5, g2, g6, g7⟩
  refine ⟨⟨h1, h.b0, h2, h.b1, h.sdir.moved (hsb.trans (hb.block _ h.sdir.lt)), h.b2, h.msb, h3, ?_, ?_, ?_⟩, ?_, ?_⟩
  · intro f hf
    by_cases hl : live D f
    · exact hfil f hl
    · obtain ⟨g1, g2, g3, _⟩ := hnew f ((live' f hf).resolve_left hl) hl
      exact ⟨g1, g2, g3⟩
  · intro f g hf hg' hne
    by_cases l1 : live D f <;> by_cases l2 : live D g
    · simp only [hR f l1, hR g l2]
      exact h.apart f g l1 l2 hne
    · have n2 := (hnew g ((live' g hg').resolve_left l2) l2).2.2.2.1
      simp only [n2]
      cases (RR f).ownBlock with
      | none => exact .inl rfl
      | some k => exact .inr (by simp)
    · exact .inl (hnew f ((live' f hf).resolve_left l1) l1).2.2.2.1
    · exact .inl (hnew f ((live' f hf).resolve_left l1) l1).2.2.2.1
  · refine ⟨hlen, h.ok.n2, fun f hf => ?_, ids_nodup_do okc h.ok.injd, fun hs => by simp only [List.foldl_append, List.foldl_cons, List.foldl_nil, ← h.ok.replay hs], fun hs => okchgs_snoc (h.ok.okc hs) (by rw [← h.ok.replay hs]; exact okc), h.ok.inj, h.ok.q⟩
    by_cases hl : live D f
    · simp only [hF f hl]
      exact h.ok.big f hl
    · obtain ⟨_, _, _, _, _, g6, g7⟩ := hnew f ((live' f hf).resolve_left hl) hl
      exact ⟨g6, g7⟩
  · refine Keep.trans (F := FP d L D) ((Keep.of_below hb).mono (fun k hk => .inr hk)) hk (fun k hkk => .inl ?_)
    rcases hkk with rfl | rfl | hkk
    · exact .inl rfl
    · exact .inr (.inl rfl)
    · exact .inr (.inr (.inr (.inl hkk)))
  · rintro k (rfl | rfl | rfl | hkk | hkk | ⟨f, hf, hkk⟩)
    · exact .inl (.inl rfl)
    · exact .inl (.inr (.inl rfl))
    · exact .inl (.inr (.inr (.inl rfl)))
    · rcases h4 with h4 | ⟨b, h4, hb'⟩
      · exact .inl (.inr (.inr (.inr (.inl (h4.symm.trans hkk)))))
      · rw [h4] at hkk; injection hkk with hkk; subst hkk; exact .inr hb'
    · by_cases hl : live D k
      · exact .inl (.inr (.inr (.inr (.inr (.inl hl)))))
      · exact .inr (hnew k ((live' k hkk).resolve_left hl) hl).2.2.2.2.1
    · have hkk : (RR f).ownBlock = some k := hkk
      by_cases hl : live D f
      · rw [show RR f = L.row f from hR f hl] at hkk
        exact .inl (.inr (.inr (.inr (.inr (.inr ⟨f, hl, hkk⟩)))))
      · have := (hnew f ((live' f hf).resolve_left hl) hl).2.2.2.1
        rw [this] at hkk
        cases hkk
/-- The disk's own struct, and maybe the safe directory, have turned. -/
theorem DiskAt.set_self (h : DiskAt w base d L D) {sb' : Nat} {chv' : Value} {sdir' : Dir} {chg' : List Chg} {q' : Int} (hk : Keep (fun k => k = d) w w')
    (h1 : w'.heap[d]? = some (.cells #[.map (some L.mb), .map (some sb'), chv', .int .i64 q'] 66 (0, 0)))
    (h2 : sb' = L.sb ∧ sdir' = D.sdir ∨ w.heap.size ≤ sb' ∧ DirIs w' sb' sdir')
    (h3 : chv' = L.chv ∧ chg' = D.chg ∨ chv' = .slice none 0 0 ∧ chg' = [])
    (hl : ∀ f, live { D with sdir := sdir', chg := chg', quota := q' } f → live D f) (n2 : sdir'.length ≤ 4096) (hrep : D.sane = true → D.dir = chg'.foldl doD sdir') (hokc : D.sane = true → OkChgs sdir' chg') (hinj : (ids sdir').Nodup) (hq : -9223372036854775808 ≤ q' ∧ q' ≤ 9223372036854775807) :
    DStep w base d L D w' { L with sb := sb', chv := chv' } { D with sdir := sdir', chg := chg', quota := q' } := by
  have hne : ∀ k, k < w.heap.size → k ≠ d → w'.heap[k]? = w.heap[k]? := fun k hk' hn => hk.block k hk' hn
  have hcell : ∀ {k : Nat} {cs : Array Value} {t : TypeId} {fr : Nat × Nat}, w.heap[k]? = some (.cells cs t fr) → t ≠ 66 → w'.heap[k]? = w.heap[k]? := fun hc ht => hne _ (Array.getElem?_eq_some_iff.1 hc).1 (ne_of_types hc h.self ht)
  have hmap : ∀ {k : Nat} {l : Dir}, DirIs w k l → w'.heap[k]? = w.heap[k]? := by
    rintro k l ⟨es, c, hm, _⟩
    exact hne k (Array.getElem?_eq_some_iff.1 hm).1 (ne_of_map h.self hm).symm
  have hsb : DirIs w' sb' sdir' ∧ base ≤ sb' ∧ L.mb ≠ sb' ∧ (sb' = L.sb ∨ w.heap.size ≤ sb') := by
    rcases h2 with ⟨rfl, rfl⟩ | ⟨a, b⟩
    · exact ⟨h.sdir.moved (hmap h.sdir), h.b2, h.msb, .inl rfl⟩
    · have := h.dir.lt
      have := h.b1
      exact ⟨b, by omega, by omega, .inr a⟩
  refine ⟨⟨h1, h.b0, h.dir.moved (hmap h.dir), h.b1, hsb.1, hsb.2.1, hsb.2.2.1, ?_, fun f hf => ?_, fun f g hf hg => h.apart f g (hl f hf) (hl g hg), ⟨h.ok.n1, n2, fun f hf => h.ok.big f (hl f hf), h.ok.injd, hrep, hokc, hinj, hq⟩⟩, hk.mono (fun k hk' => .inl (.inl hk')), ?_⟩
  · rcases h3 with ⟨rfl, rfl⟩ | ⟨rfl, rfl⟩
    · refine R_moved rfl h.chg (fun k hkk => ?_)
      obtain ⟨cells, hcc⟩ := own_block_typed h.chg hkk
      exact hcell hcc (by decide)
    · exact Kd.R_nil _ _ _ _ _
  · have := h.fil f (hl f hf)
    refine ⟨this.1, (hcell this.2.1 (by decide)).trans this.2.1, R_moved rfl this.2.2 (fun k hkk => ?_)⟩
    obtain ⟨cells, hcc⟩ := own_block_typed this.2.2 hkk
    exact hcell hcc (by decide)
  · rintro k (rfl | rfl | rfl | hkk | hkk | ⟨f, hf, hkk⟩)
    · exact .inl (.inl rfl)
    · exact .inl (.inr (.inl rfl))
    · rcases hsb.2.2.2 with h' | h'
      · exact .inl (.inr (.inr (.inl h')))
      · exact .inr h'
    · rcases h3 with ⟨rfl, rfl⟩ | ⟨rfl, rfl⟩
      · exact .inl (.inr (.inr (.inr (.inl hkk))))
      · cases hkk
    · exact .inl (.inr (.inr (.inr (.inr (.inl (hl k hkk))))))
    · exact .inl (.inr (.inr (.inr (.inr (.inr ⟨f, hl f hf, hkk⟩)))))
end
end Go.Proofs.YthacnbbijmgjfaaDoor.Lib0

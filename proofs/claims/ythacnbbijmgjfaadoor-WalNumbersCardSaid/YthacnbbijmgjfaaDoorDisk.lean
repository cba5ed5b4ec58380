/- The disk: how it lies in memory, and what its functions do. -/
import Derived.Test.YthacnbbijmgjfaaDoorMap
import Derived.Outline
import Derived.Deep.QuietTactic
import Derived.BigQuiet
import Derived.StillTailTactics
import Derived.Deep.LoopGhost
set_option linter.unusedVariables false
set_option linter.unusedSimpArgs false
namespace Go.Proofs.YthacnbbijmgjfaaDoor.Lib0
open Go.RowKit Go.Proofs.YthacnbbijmgjfaaDoorW.PrintWords Go.ChangeMaps

def kptr : Kd (Option Nat) := Kd.scalar optp (fun x => by cases x <;> rfl)
structure Chg where
  kind : Int
  name : Name
  dst : Name
  f : Option Nat
def kchg : Kd Chg := Kd.iso (Kd.pair (Kd.int .i64) (Kd.pair Kd.string (Kd.pair Kd.string kptr))) (fun c => (c.kind, c.name, c.dst, c.f))
def Chg.cells (c : Chg) : List Value := [.int .i64 c.kind, .string c.name, .string c.dst, optp c.f]
theorem kchg_M {w : World} {base : Nat} {ok : Nat → Prop} (c : Chg) : kchg.M w base ok c c.cells :=
  ⟨[.int .i64 c.kind], [.string c.name, .string c.dst, optp c.f], rfl, rfl, [.string c.name], [.string c.dst, optp c.f], rfl, rfl, [.string c.dst], [optp c.f], rfl, rfl, rfl⟩
theorem kchg_K {w : World} {c : Chg} {cs : List Value} (h : kchg.K w c cs) : cs = c.cells := by
  obtain ⟨a, b, rfl, rfl, a', b', rfl, rfl, a'', b'', rfl, rfl, rfl⟩ := h
  rfl

/-- A change of a directory. -/
def doD (l : Dir) (c : Chg) : Dir :=
  if c.kind = 0 then putD l c.name (c.f.getD 0)
  else if c.kind = 1 then (match assoc l c.name with | some g => putD (delD l c.name) c.dst g | none => l)
  else if c.kind = 2 then delD l c.name else l
structure OkChg (l : Dir) (c : Chg) : Prop where
  kinds : c.kind = 0 ∨ c.kind = 1 ∨ c.kind = 2
  made : c.kind = 0 → c.f.isSome
  ren : c.kind = 1 → (assoc l c.name).isSome
  n1 : c.name.size ≤ 30
  n2 : c.dst.size ≤ 30
  fresh : c.kind = 0 → ∀ g, c.f = some g → g ∉ l.map (·.2)
  len : (doD l c).length ≤ 4096

theorem zero_ptr (w : World) : (zeroValue 73).run Tryd.prog w = .ok (.pointer none) w := by kernel_rfl

set_option maxHeartbeats 1600000 in
set_option maxRecDepth 100000 in
theorem disk_do (mb : Nat) (l : Dir) (c : Chg) (w : World) (h : DirIs w mb l) (ok : OkChg l c) :
    Calls Tryd.prog 39 #[.map (some mb), .agg c.cells.toArray] w fun e w' => e = .returned (.tuple #[]) ∧ DirIs w' mb (doD l c) ∧ w.grownBy w' (some mb) := by
  obtain ⟨ok1, ok2, ok3, ok4, ok5, _, _⟩ := ok
  have hlt := h.lt
  have hd : DirIs (w.alloc (.cells c.cells.toArray 75)) mb l := h.moved (Below.heap_alloc _ _ _ hlt)
  obtain ⟨kind, name, dst, f⟩ := c
  simp only [Chg.cells] at *
  rcases ok1 with h0 | h1 | h2
  · subst h0
    obtain ⟨g, rfl⟩ := Option.isSome_iff_exists.1 (ok2 rfl)
    obtain ⟨o, hrun, hdir⟩ := run_update_dir (P := Tryd.prog) Tryd.underlying63 Tryd.underlying9 hd name (by simp [maxLen]; omega) g
    have HD := Aside0.mk hdir
    clear hd h hdir ok2 ok3
    simp only [optp, fptr] at *
    go_enter Tryd.func39, Tryd.ntmps39
    go_wp2
    go_end0
    exact ⟨rfl, HD.out, World.grownBy.trans (World.grownBy_alloc w _ _) (grown_set _ _ _)⟩
  · subst h1
    obtain ⟨g, hg⟩ := Option.isSome_iff_exists.1 (ok3 rfl)
    have hlook := run_lookup_dir (P := Tryd.prog) Tryd.underlying63 Tryd.underlying9 zero_ptr hd name
    have hg : assoc l name = some g := hg
    rw [hg] at hlook
    rw [show optp (some g) = fptr g from rfl] at hlook
    obtain ⟨o1, hrun1, hdir1⟩ := run_delete_dir (P := Tryd.prog) Tryd.underlying63 Tryd.underlying9 hd name
    obtain ⟨o, hrun, hdir⟩ := run_update_dir (P := Tryd.prog) Tryd.underlying63 Tryd.underlying9 hdir1 dst (by simp [maxLen]; omega) g
    have HD := Aside0.mk (show DirIs _ mb (doD l ⟨1, name, dst, f⟩) by simp only [doD, hg]; exact hdir)
    have HG := Aside0.mk (World.grownBy.trans (World.grownBy_alloc w (.cells [Value.int .i64 1, .string name, .string dst, optp f].toArray 75) (some mb)) ((grown_set _ _ _).trans (grown_set (setBlock (w.alloc (.cells [Value.int .i64 1, .string name, .string dst, optp f].toArray 75)) mb o1) mb o)))
    have hcell : (setBlock (w.alloc (.cells #[Value.int .i64 1, .string name, .string dst, optp f] 75)) mb o1).cell? ⟨w.heap.size, 2, none⟩ = some (.string dst) := by
      rw [cell_off_set (by omega)]; exact cell_alloc_at rfl
    clear hd h hdir hdir1 ok2 ok3 hg
    simp only [fptr] at *
    generalize optp f = vf at *
    go_enter Tryd.func39, Tryd.ntmps39
    go_wp2
    go_end0
    exact ⟨rfl, HD.out, HG.out⟩
  · subst h2
    obtain ⟨o, hrun, hdir⟩ := run_delete_dir (P := Tryd.prog) Tryd.underlying63 Tryd.underlying9 hd name
    have HD := Aside0.mk (show DirIs _ mb (doD l ⟨2, name, dst, f⟩) from hdir)
    clear hd h hdir ok2 ok3
    generalize optp f = vf at *
    go_enter Tryd.func39, Tryd.ntmps39
    go_wp2
    go_end0
    exact ⟨rfl, HD.out, World.grownBy.trans (World.grownBy_alloc w _ _) (grown_set _ _ _)⟩

def nameBad (s : Name) : Bool := decide (s.size = 0 ∨ 30 < s.size)
theorem size_nil (s : ByteArray) : s.toList = [] ↔ s.size = 0 := by
  rw [ByteArray.toList_eq, ← List.length_eq_zero_iff, data_length]
set_option maxHeartbeats 1600000 in
theorem disk_names1 (s : Name) (w : World) : Calls Tryd.prog 53 #[.string s] w fun e w' => e = .returned (.bool (nameBad s)) ∧ w = w' := by
  by_cases h0 : s.size = 0
  · have e1 : s.toList.isEmpty = true := by rw [List.isEmpty_iff]; exact (size_nil s).2 h0
    have HB := Aside0.mk (show nameBad s = true by simp [nameBad, h0])
    clear h0
    go_enter Tryd.func53, Tryd.ntmps53
    go_wp2
    go_ret
    exact ⟨by rw [HB.out]; rfl, rfl⟩
  · have e1 : s.toList.isEmpty = false := by rw [← Bool.not_eq_true, List.isEmpty_iff]; exact fun h => h0 ((size_nil s).1 h)
    have HB := Aside0.mk (show nameBad s = decide (30 < (s.size : Int)) by simp [nameBad, h0]; omega)
    clear h0
    go_enter Tryd.func53, Tryd.ntmps53
    go_wp2
    go_ret
    exact ⟨by rw [HB.out]; rfl, rfl⟩
theorem str_open {w : World} {A : Option Addr} {n : Nat} {l : List ByteArray} (h : Kd.string.C w A n l) (hn : 0 < l.length) :
    ∃ b o, A = some ⟨b, o, none⟩ ∧ ∀ k (hk : k < l.length), w.cell? ⟨b, o + k, none⟩ = some (.string l[k]) := by
  obtain ⟨ad, rfl, hc⟩ := h.2.2 (by have := h.1; omega)
  have hx : ∀ k (hk : k < l.length), w.cell? (ad.add k) = some (.string l[k]) := fun k hk => by
    obtain ⟨c, hl, hk', hcell⟩ := hc k _ (List.getElem?_eq_getElem hk)
    have hk2 : c = [.string l[k]] := hk'
    subst hk2
    have := hcell 0 _ rfl
    have e1 : k * Kd.string.sz + 0 = k := by show k * 1 + 0 = k; omega
    rwa [e1] at this
  have hs : ad.spot = none := by
    have e0 : ad.add 0 = ad := by simp [Addr.add]
    have := hx 0 hn
    rw [e0] at this
    exact cell_plain this
  obtain ⟨b, o, sp⟩ := ad
  simp only at hs
  subst hs
  refine ⟨b, o, rfl, fun k hk => ?_⟩
  have e1 : (⟨b, o, none⟩ : Addr).add k = ⟨b, o + k, none⟩ := by unfold Addr.add; split <;> simp_all
  rw [← e1]
  exact hx k hk
set_option maxHeartbeats 1600000 in
set_option maxRecDepth 100000 in
theorem disk_index (b o c : Nat) (s : Name) (w : World) (h : w.cell? ⟨b, o, none⟩ = some (.string s)) : Calls Tryd.prog 57 #[.slice (some ⟨b, o, none⟩) 1 c, .func (Fn.func 53) #[] #[]] w fun e w' => e = .returned (.int .i64 (if nameBad s = true then 0 else -1)) ∧ w = w' := by
  have HC := Aside0.mk (disk_names1 s w)
  rcases Bool.eq_false_or_eq_true (nameBad s) with hb | hb
  · rw [hb] at HC ⊢
    clear hb
    go_enter Tryd.func57, Tryd.ntmps57
    go_wp2
    go_loop [5, 8] (fun v5 v8 => (v8 = .int .i64 0)) (fun _ i => 1 - (intOf i).toNat)
    case atStart => exact rfl
    case round =>
      subst hrel
      go_wp2_with (go_at_call 53; refine HC.out.mono ?_; rintro e w' ⟨rfl, rfl⟩)
      go_ret
      exact ⟨by simp, rfl⟩
  · rw [hb] at HC ⊢
    clear hb
    go_enter Tryd.func57, Tryd.ntmps57
    go_wp2
    go_loop [5, 8] (fun v5 v8 => (∃ k : Nat, k ≤ 1 ∧ v8 = .int .i64 k)) (fun _ i => 1 - (intOf i).toNat)
    case atStart => exact ⟨0, by omega, rfl⟩
    case round =>
      obtain ⟨k, hk, rfl⟩ := hrel
      by_cases h0 : k = 0
      · subst h0
        go_wp2_with (go_at_call 53; refine HC.out.mono ?_; rintro e w' ⟨rfl, rfl⟩)
        go_round
        case rel => exact ⟨1, by omega, rfl⟩
        case measure => simp [intOf]
      · obtain rfl : k = 1 := by omega
        go_wp2
        go_ret
        exact ⟨by simp, rfl⟩
set_option maxHeartbeats 1600000 in
set_option maxRecDepth 100000 in
theorem disk_contains (b o c : Nat) (s : Name) (w : World) (h : w.cell? ⟨b, o, none⟩ = some (.string s)) : Calls Tryd.prog 52 #[.slice (some ⟨b, o, none⟩) 1 c, .func (Fn.func 53) #[] #[]] w fun e w' => e = .returned (.bool (nameBad s)) ∧ w = w' := by
  have HC := Aside0.mk (disk_index b o c s w h)
  clear h
  rcases Bool.eq_false_or_eq_true (nameBad s) with hb | hb
  all_goals
    rw [hb] at HC ⊢
    simp only [if_true, Bool.false_eq_true, if_false] at HC
    clear hb
    go_enter Tryd.func52, Tryd.ntmps52
    go_wp2_with (go_at_call 57; refine HC.out.mono ?_; rintro e w' ⟨rfl, rfl⟩)
    go_ret
    exact ⟨by simp, rfl⟩
set_option maxHeartbeats 1600000 in
set_option maxRecDepth 100000 in
theorem disk_names (b o c : Nat) (s : Name) (w : World) (h : w.cell? ⟨b, o, none⟩ = some (.string s)) : Calls Tryd.prog 40 #[.slice (some ⟨b, o, none⟩) 1 c] w fun e w' => e = .returned (.bool (!nameBad s)) ∧ w = w' := by
  have HC := Aside0.mk (disk_contains b o c s w h)
  clear h
  generalize nameBad s = t at *
  go_enter Tryd.func40, Tryd.ntmps40
  go_wp2_with (go_at_call 52; refine HC.out.mono ?_; rintro e w' ⟨rfl, rfl⟩)
  go_ret
  exact ⟨rfl, rfl⟩
end Go.Proofs.YthacnbbijmgjfaaDoor.Lib0

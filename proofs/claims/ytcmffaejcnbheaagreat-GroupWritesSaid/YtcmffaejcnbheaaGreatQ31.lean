import Derived.Test.YtcmffaejcnbheaaGreatQ30
import Derived.Deep.RegionHeld3
import Derived.BigRegion
set_option linter.unusedVariables false
set_option linter.unusedSimpArgs false
namespace Go.Proofs.YtcmffaejcnbheaaGreat.Lib0
open Go.RowKit Go.Proofs.YtcmffaejcnbheaaGreatW.PrintWords Go.ChangeMaps
structure ZoneM where
 kind : Int
 rows : Int
 nulls : Int
 minN : Int
 maxN : Int
 minS : ByteArray
 maxS : ByteArray
def ZoneM.cells (z : ZoneM) : List Value := [.int .i64 z.kind, .int .i64 z.rows, .int .i64 z.nulls, .int .i64 z.minN, .int .i64 z.maxN, .string z.minS, .string z.maxS]
def AtZ (base g T : Nat) (W V : World) (cs : Array Value) : Prop := V.heap[g]? = some (.cells cs T) ∧ (∀ q, q ≠ g → V.heap[q]? = W.heap[q]?) ∧ Below base W V
theorem AtZ.start {base g T : Nat} {W : World} {cs : Array Value} (h : W.heap[g]? = some (.cells cs T)) : AtZ base g T W W cs := ⟨h, fun _ _ => rfl, Below.refl _ _⟩
theorem AtZ.set {base g T : Nat} {W V : World} {cs : Array Value} (h : AtZ base g T W V cs) (hb : base ≤ g) (i : Nat) (u : Value) : AtZ base g T W (V.setCell ⟨g, i, none⟩ u) (cs.setIfInBounds i u) :=
 ⟨heap_setCell_same _ _ _ _ _ _ h.1, fun q hq => (Below.heap_setCell _ _ _ _ hq).trans (h.2.1 q hq), h.2.2.setCell (p := ⟨g, i, none⟩) hb u⟩
theorem AtZ.drew {base g T : Nat} {W V : World} {cs : Array Value} (h : AtZ base g T W V cs) : AtZ base g T W V.drew cs := ⟨h.1, h.2.1, h.2.2.trans (below_drew _ _)⟩
theorem AtZ.other {base g T : Nat} {W V : World} {cs : Array Value} (h : AtZ base g T W V cs) {q i : Nat} (hq : q ≠ g) : V.cell? ⟨q, i, none⟩ = W.cell? ⟨q, i, none⟩ := by
 have := h.2.1 q hq
 simp [World.cell?, this]
theorem AtZ.trans {base g T : Nat} {W V U : World} {cs cs' : Array Value} (h : AtZ base g T W V cs) (k : AtZ base g T V U cs') : AtZ base g T W U cs' := ⟨k.1, fun q hq => (k.2.1 q hq).trans (h.2.1 q hq), h.2.2.trans k.2.2⟩
theorem cutL {Pp G : Prop} (h : Aside0 Pp → G) (k : Aside0 Pp) : G := h k
def minT (a b : ByteArray) : ByteArray := if (lessS a b || a.toList == b.toList) = true then a else b
def maxT (a b : ByteArray) : ByteArray := if (!lessS a b) = true then a else b
theorem run_minT (P : Program) (ats : Array TypeId) (ty : TypeId) (a b : ByteArray) (W : World) : (Builtin.min_ ats ty #[.string a, .string b]).run P W = .ok (.string (minT a b)) W := by
 simp [Builtin.min_, Builtin.min2, Op.stringOp, asBool, minT, lessS]
theorem run_maxT (P : Program) (ats : Array TypeId) (ty : TypeId) (a b : ByteArray) (W : World) : (Builtin.max_ ats ty #[.string a, .string b]).run P W = .ok (.string (maxT a b)) W := by
 simp [Builtin.max_, Builtin.max2, Op.stringOp, asBool, maxT, lessS]
def ZoneM.widen1 (z x : ZoneM) : ZoneM := ⟨z.kind, z.rows, z.nulls, min z.minN x.minN, max z.maxN x.maxN, minT z.minS x.minS, maxT z.maxS x.maxS⟩
def ZoneM.widen (z x : ZoneM) (first : Bool) : ZoneM := ZoneM.widen1 (if first then ⟨z.kind, z.rows, z.nulls, x.minN, x.maxN, x.minS, x.maxS⟩ else z) x
set_option maxHeartbeats 1600000 in
set_option maxRecDepth 100000 in
theorem zone_widen_true (g : Nat) (z x : ZoneM) (w : World) (base : Nat) (hb : base ≤ g) (hbw : base ≤ w.heap.size) (hz : w.heap[g]? = some (.cells z.cells.toArray 60)) :
  Calls Tryz.prog 114 #[.pointer (some ⟨g, 0, none⟩), .agg x.cells.toArray, .bool true] w fun e w' => e = .returned (.tuple #[]) ∧ w'.heap[g]? = some (.cells (z.widen x true).cells.toArray 60) ∧ Below base w w' := by
 obtain ⟨k, r, n, a, b, s, t⟩ := z
 obtain ⟨xk, xr, xn, xa, xb, xs, xt⟩ := x
 have hgl : g < w.heap.size := (Array.getElem?_eq_some_iff.1 hz).1
 have hne : w.heap.size ≠ g := by omega
 have hne2 : g ≠ w.heap.size := by omega
 have HB0 := Aside0.mk ((below_alloc (Below.refl w.heap.size w) (.cells #[.int .i64 xk, .int .i64 xr, .int .i64 xn, .int .i64 xa, .int .i64 xb, .string xs, .string xt] 60)).mono hbw)
 unfold ZoneM.cells at *
 dsimp only at *
 go_enter Tryz.func114, Tryz.ntmps114
 go_wp2_with fail
 obtain ⟨W, hW⟩ : ∃ W, W = w.alloc (.cells #[.int .i64 xk, .int .i64 xr, .int .i64 xn, .int .i64 xa, .int .i64 xb, .string xs, .string xt] 60) := ⟨_, rfl⟩
 rw [← hW]
 rw [← hW] at HB0
 have hn := heap_alloc_new w (.cells #[.int .i64 xk, .int .i64 xr, .int .i64 xn, .int .i64 xa, .int .i64 xb, .string xs, .string xt] 60)
 rw [← hW] at hn
 have hzW : W.heap[g]? = some (.cells #[.int .i64 k, .int .i64 r, .int .i64 n, .int .i64 a, .int .i64 b, .string s, .string t] 60) := by rw [hW]; exact (heap_alloc_old w _ hgl).trans hz
 have HZ0 := Aside0.mk (AtZ.start (base := base) hzW)
 have HY3 := Aside0.mk (show W.cell? ⟨w.heap.size, 3, none⟩ = some (.int .i64 xa) from cell_of_heap (i := 3) hn rfl)
 have HY4 := Aside0.mk (show W.cell? ⟨w.heap.size, 4, none⟩ = some (.int .i64 xb) from cell_of_heap (i := 4) hn rfl)
 have HY5 := Aside0.mk (show W.cell? ⟨w.heap.size, 5, none⟩ = some (.string xs) from cell_of_heap (i := 5) hn rfl)
 have HY6 := Aside0.mk (show W.cell? ⟨w.heap.size, 6, none⟩ = some (.string xt) from cell_of_heap (i := 6) hn rfl)
 clear hn hW hz hzW
 have y3 := HY3.out
 have y4 := HY4.out
 have y5 := HY5.out
 have y6 := HY6.out
 have z3 : W.cell? ⟨g, 3, none⟩ = some (.int .i64 a) := cell_of_heap (i := 3) HZ0.out.1 rfl
 have z4 : W.cell? ⟨g, 4, none⟩ = some (.int .i64 b) := cell_of_heap (i := 4) HZ0.out.1 rfl
 have z5 : W.cell? ⟨g, 5, none⟩ = some (.string s) := cell_of_heap (i := 5) HZ0.out.1 rfl
 have z6 : W.cell? ⟨g, 6, none⟩ = some (.string t) := cell_of_heap (i := 6) HZ0.out.1 rfl
 have q3 : W.frozen? ⟨g, 3, none⟩ = false := frozen_of_heap HZ0.out.1
 have q4 : W.frozen? ⟨g, 4, none⟩ = false := frozen_of_heap HZ0.out.1
 have q5 : W.frozen? ⟨g, 5, none⟩ = false := frozen_of_heap HZ0.out.1
 have q6 : W.frozen? ⟨g, 6, none⟩ = false := frozen_of_heap HZ0.out.1
 go_region
 have HZ1 := Aside0.mk ((((HZ0.out.set hb 3 (.int .i64 xa)).set hb 4 (.int .i64 xb)).set hb 5 (.string xs)).set hb 6 (.string xt)).drew
 obtain ⟨V, hV⟩ : ∃ V, V = ((((W.setCell ⟨g, 3, none⟩ (.int .i64 xa)).setCell ⟨g, 4, none⟩ (.int .i64 xb)).setCell ⟨g, 5, none⟩ (.string xs)).setCell ⟨g, 6, none⟩ (.string xt)).drew := ⟨_, rfl⟩
 rw [← hV] at HZ1 ⊢
 clear hV y3 y4 y5 y6 z3 z4 z5 z6 q3 q4 q5 q6 HZ0
 have HZ1 : Aside0 (AtZ base g 60 W V #[.int .i64 k, .int .i64 r, .int .i64 n, .int .i64 xa, .int .i64 xb, .string xs, .string xt]) := HZ1
 have HY3 := Aside0.mk ((HZ1.out.other hne).trans HY3.out)
 have HY4 := Aside0.mk ((HZ1.out.other hne).trans HY4.out)
 have HY5 := Aside0.mk ((HZ1.out.other hne).trans HY5.out)
 have HY6 := Aside0.mk ((HZ1.out.other hne).trans HY6.out)
 obtain ⟨a, ha⟩ : ∃ a', a' = xa := ⟨_, rfl⟩
 obtain ⟨b, hb2⟩ : ∃ a', a' = xb := ⟨_, rfl⟩
 obtain ⟨s, hs⟩ : ∃ a', a' = xs := ⟨_, rfl⟩
 obtain ⟨t, ht⟩ : ∃ a', a' = xt := ⟨_, rfl⟩
 have HE := Aside0.mk (And.intro ha (And.intro hb2 (And.intro hs ht)))
 have HZ1 : Aside0 (AtZ base g 60 W V #[.int .i64 k, .int .i64 r, .int .i64 n, .int .i64 a, .int .i64 b, .string s, .string t]) := by rw [ha, hb2, hs, ht]; exact HZ1
 clear ha hb2 hs ht
 go_wp2_with fail
 have y3 := HY3.out
 have y4 := HY4.out
 have z3 : V.cell? ⟨g, 3, none⟩ = some (.int .i64 a) := cell_of_heap (i := 3) HZ1.out.1 rfl
 have z4 : V.cell? ⟨g, 4, none⟩ = some (.int .i64 b) := cell_of_heap (i := 4) HZ1.out.1 rfl
 have q3 : V.frozen? ⟨g, 3, none⟩ = false := frozen_of_heap HZ1.out.1
 have q4 : V.frozen? ⟨g, 4, none⟩ = false := frozen_of_heap HZ1.out.1
 apply cutL
 ·intro key
  go_region
  all_goals exact key.out
 refine ⟨?_⟩
 have HZ2 := Aside0.mk (((HZ1.out.set hb 3 (.int .i64 (min a xa))).set hb 4 (.int .i64 (max b xb))).drew)
 obtain ⟨U, hU⟩ : ∃ U, U = ((V.setCell ⟨g, 3, none⟩ (.int .i64 (min a xa))).setCell ⟨g, 4, none⟩ (.int .i64 (max b xb))).drew := ⟨_, rfl⟩
 rw [← hU] at HZ2 ⊢
 clear hU y3 y4 z3 z4 q3 q4
 have HZ2 : Aside0 (AtZ base g 60 W U #[.int .i64 k, .int .i64 r, .int .i64 n, .int .i64 (min a xa), .int .i64 (max b xb), .string s, .string t]) := HZ2
 have HY5 := Aside0.mk ((HZ2.out.other hne).trans ((HZ1.out.other hne).symm.trans HY5.out))
 have HY6 := Aside0.mk ((HZ2.out.other hne).trans ((HZ1.out.other hne).symm.trans HY6.out))
 clear HZ1 HY3 HY4
 go_wp2_with fail
 have hmn := run_minT Tryz.prog #[9, 9] 9 s xs
 have hmx := run_maxT Tryz.prog #[9, 9] 9 t xt
 have y5 := HY5.out
 have y6 := HY6.out
 have z5 : U.cell? ⟨g, 5, none⟩ = some (.string s) := cell_of_heap (i := 5) HZ2.out.1 rfl
 have z6 : U.cell? ⟨g, 6, none⟩ = some (.string t) := cell_of_heap (i := 6) HZ2.out.1 rfl
 have q5 : U.frozen? ⟨g, 5, none⟩ = false := frozen_of_heap HZ2.out.1
 have q6 : U.frozen? ⟨g, 6, none⟩ = false := frozen_of_heap HZ2.out.1
 apply cutL
 ·intro key
  go_region
  all_goals exact key.out
 refine ⟨?_⟩
 have HZ3 := Aside0.mk (((HZ2.out.set hb 5 (.string (minT s xs))).set hb 6 (.string (maxT t xt))).drew)
 obtain ⟨X, hX⟩ : ∃ X, X = ((U.setCell ⟨g, 5, none⟩ (.string (minT s xs))).setCell ⟨g, 6, none⟩ (.string (maxT t xt))).drew := ⟨_, rfl⟩
 rw [← hX] at HZ3 ⊢
 clear hX y5 y6 z5 z6 q5 q6 hmn hmx
 have HZ3 : Aside0 (AtZ base g 60 W X #[.int .i64 k, .int .i64 r, .int .i64 n, .int .i64 (min a xa), .int .i64 (max b xb), .string (minT s xs), .string (maxT t xt)]) := HZ3
 have HB9 := Aside0.mk (HB0.out.trans HZ3.out.2.2)
 go_wp2
 go_end0
 exact ⟨rfl, by obtain ⟨rfl, rfl, rfl, rfl⟩ := HE.out; exact HZ3.out.1, HB9.out⟩
set_option maxHeartbeats 1600000 in
set_option maxRecDepth 100000 in
theorem zone_widen_false (g : Nat) (z x : ZoneM) (w : World) (base : Nat) (hb : base ≤ g) (hbw : base ≤ w.heap.size) (hz : w.heap[g]? = some (.cells z.cells.toArray 60)) :
  Calls Tryz.prog 114 #[.pointer (some ⟨g, 0, none⟩), .agg x.cells.toArray, .bool false] w fun e w' => e = .returned (.tuple #[]) ∧ w'.heap[g]? = some (.cells (z.widen x false).cells.toArray 60) ∧ Below base w w' := by
 obtain ⟨k, r, n, a, b, s, t⟩ := z
 obtain ⟨xk, xr, xn, xa, xb, xs, xt⟩ := x
 have hgl : g < w.heap.size := (Array.getElem?_eq_some_iff.1 hz).1
 have hne : w.heap.size ≠ g := by omega
 have hne2 : g ≠ w.heap.size := by omega
 have HB0 := Aside0.mk ((below_alloc (Below.refl w.heap.size w) (.cells #[.int .i64 xk, .int .i64 xr, .int .i64 xn, .int .i64 xa, .int .i64 xb, .string xs, .string xt] 60)).mono hbw)
 unfold ZoneM.cells at *
 dsimp only at *
 go_enter Tryz.func114, Tryz.ntmps114
 go_wp2_with fail
 obtain ⟨W, hW⟩ : ∃ W, W = w.alloc (.cells #[.int .i64 xk, .int .i64 xr, .int .i64 xn, .int .i64 xa, .int .i64 xb, .string xs, .string xt] 60) := ⟨_, rfl⟩
 rw [← hW]
 rw [← hW] at HB0
 have hn := heap_alloc_new w (.cells #[.int .i64 xk, .int .i64 xr, .int .i64 xn, .int .i64 xa, .int .i64 xb, .string xs, .string xt] 60)
 rw [← hW] at hn
 have hzW : W.heap[g]? = some (.cells #[.int .i64 k, .int .i64 r, .int .i64 n, .int .i64 a, .int .i64 b, .string s, .string t] 60) := by rw [hW]; exact (heap_alloc_old w _ hgl).trans hz
 have HZ0 := Aside0.mk (AtZ.start (base := base) hzW)
 have HY3 := Aside0.mk (show W.cell? ⟨w.heap.size, 3, none⟩ = some (.int .i64 xa) from cell_of_heap (i := 3) hn rfl)
 have HY4 := Aside0.mk (show W.cell? ⟨w.heap.size, 4, none⟩ = some (.int .i64 xb) from cell_of_heap (i := 4) hn rfl)
 have HY5 := Aside0.mk (show W.cell? ⟨w.heap.size, 5, none⟩ = some (.string xs) from cell_of_heap (i := 5) hn rfl)
 have HY6 := Aside0.mk (show W.cell? ⟨w.heap.size, 6, none⟩ = some (.string xt) from cell_of_heap (i := 6) hn rfl)
 clear hn hW hz hzW
 obtain ⟨V, hV⟩ : ∃ V, V = W := ⟨_, rfl⟩
 rw [← hV] at HY3 HY4 HY5 HY6 ⊢
 have HZ1 : Aside0 (AtZ base g 60 W V #[.int .i64 k, .int .i64 r, .int .i64 n, .int .i64 a, .int .i64 b, .string s, .string t]) := by rw [hV]; exact HZ0
 clear hV HZ0
 have y3 := HY3.out
 have y4 := HY4.out
 have z3 : V.cell? ⟨g, 3, none⟩ = some (.int .i64 a) := cell_of_heap (i := 3) HZ1.out.1 rfl
 have z4 : V.cell? ⟨g, 4, none⟩ = some (.int .i64 b) := cell_of_heap (i := 4) HZ1.out.1 rfl
 have q3 : V.frozen? ⟨g, 3, none⟩ = false := frozen_of_heap HZ1.out.1
 have q4 : V.frozen? ⟨g, 4, none⟩ = false := frozen_of_heap HZ1.out.1
 apply cutL
 ·intro key
  go_region
  all_goals exact key.out
 refine ⟨?_⟩
 have HZ2 := Aside0.mk (((HZ1.out.set hb 3 (.int .i64 (min a xa))).set hb 4 (.int .i64 (max b xb))).drew)
 obtain ⟨U, hU⟩ : ∃ U, U = ((V.setCell ⟨g, 3, none⟩ (.int .i64 (min a xa))).setCell ⟨g, 4, none⟩ (.int .i64 (max b xb))).drew := ⟨_, rfl⟩
 rw [← hU] at HZ2 ⊢
 clear hU y3 y4 z3 z4 q3 q4
 have HZ2 : Aside0 (AtZ base g 60 W U #[.int .i64 k, .int .i64 r, .int .i64 n, .int .i64 (min a xa), .int .i64 (max b xb), .string s, .string t]) := HZ2
 have HY5 := Aside0.mk ((HZ2.out.other hne).trans ((HZ1.out.other hne).symm.trans HY5.out))
 have HY6 := Aside0.mk ((HZ2.out.other hne).trans ((HZ1.out.other hne).symm.trans HY6.out))
 clear HZ1 HY3 HY4
 go_wp2_with fail
 have hmn := run_minT Tryz.prog #[9, 9] 9 s xs
 have hmx := run_maxT Tryz.prog #[9, 9] 9 t xt
 have y5 := HY5.out
 have y6 := HY6.out
 have z5 : U.cell? ⟨g, 5, none⟩ = some (.string s) := cell_of_heap (i := 5) HZ2.out.1 rfl
 have z6 : U.cell? ⟨g, 6, none⟩ = some (.string t) := cell_of_heap (i := 6) HZ2.out.1 rfl
 have q5 : U.frozen? ⟨g, 5, none⟩ = false := frozen_of_heap HZ2.out.1
 have q6 : U.frozen? ⟨g, 6, none⟩ = false := frozen_of_heap HZ2.out.1
 apply cutL
 ·intro key
  go_region
  all_goals exact key.out
 refine ⟨?_⟩
 have HZ3 := Aside0.mk (((HZ2.out.set hb 5 (.string (minT s xs))).set hb 6 (.string (maxT t xt))).drew)
 obtain ⟨X, hX⟩ : ∃ X, X = ((U.setCell ⟨g, 5, none⟩ (.string (minT s xs))).setCell ⟨g, 6, none⟩ (.string (maxT t xt))).drew := ⟨_, rfl⟩
 rw [← hX] at HZ3 ⊢
 clear hX y5 y6 z5 z6 q5 q6 hmn hmx
 have HZ3 : Aside0 (AtZ base g 60 W X #[.int .i64 k, .int .i64 r, .int .i64 n, .int .i64 (min a xa), .int .i64 (max b xb), .string (minT s xs), .string (maxT t xt)]) := HZ3
 have HB9 := Aside0.mk (HB0.out.trans HZ3.out.2.2)
 go_wp2
 go_end0
 exact ⟨rfl, HZ3.out.1, HB9.out⟩
theorem zone_widen (g : Nat) (z x : ZoneM) (first : Bool) (w : World) (base : Nat) (hb : base ≤ g) (hbw : base ≤ w.heap.size) (hz : w.heap[g]? = some (.cells z.cells.toArray 60)) :
  Calls Tryz.prog 114 #[.pointer (some ⟨g, 0, none⟩), .agg x.cells.toArray, .bool first] w fun e w' => e = .returned (.tuple #[]) ∧ w'.heap[g]? = some (.cells (z.widen x first).cells.toArray 60) ∧ Below base w w' := by
 cases first
 ·exact zone_widen_false g z x w base hb hbw hz
 ·exact zone_widen_true g z x w base hb hbw hz
end Go.Proofs.YtcmffaejcnbheaaGreat.Lib0

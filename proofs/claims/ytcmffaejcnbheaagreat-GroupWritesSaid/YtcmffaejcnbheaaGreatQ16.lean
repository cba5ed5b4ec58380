import Derived.Test.YtcmffaejcnbheaaGreatQ15
import Derived.Deep.RegionHeld3
set_option linter.unusedVariables false
set_option linter.unusedSimpArgs false
namespace Go.Proofs.YtcmffaejcnbheaaGreat.Lib0
open Go.RowKit Go.Proofs.YtcmffaejcnbheaaGreatW.PrintWords Go.ChangeMaps
def CrAt (w : World) (rp : Nat) (A : Option Addr) (c : Nat) (l : List UInt8) (p : Int) (why : Int) : Prop :=
 w.heap[rp]? = some (.cells #[.slice A l.length c, .int .i64 p, .int .i64 why] 206 (0, 0))
section
variable {w w' : World} {rp : Nat} {A : Option Addr} {c : Nat} {l : List UInt8} {p why : Int}
theorem CrAt.c0 (h : CrAt w rp A c l p why) : w.cell? ⟨rp, 0, none⟩ = some (.slice A l.length c) := cell_of_heap h rfl
theorem CrAt.c1 (h : CrAt w rp A c l p why) : w.cell? ⟨rp, 1, none⟩ = some (.int .i64 p) := cell_of_heap h rfl
theorem CrAt.c2 (h : CrAt w rp A c l p why) : w.cell? ⟨rp, 2, none⟩ = some (.int .i64 why) := cell_of_heap h rfl
theorem CrAt.fr (h : CrAt w rp A c l p why) (i : Nat) : w.frozen? ⟨rp, i, none⟩ = false := frozen_of_heap h
theorem CrAt.lt (h : CrAt w rp A c l p why) : rp < w.heap.size := (Array.getElem?_eq_some_iff.1 h).1
theorem CrAt.below (h : CrAt w rp A c l p why) (hb : Below w.heap.size w w') : CrAt w' rp A c l p why := (hb.block rp h.lt).trans h
theorem CrAt.set1 (h : CrAt w rp A c l p why) (q : Int) : CrAt (w.setCell ⟨rp, 1, none⟩ (.int .i64 q)) rp A c l q why := by
 unfold CrAt at *
 rw [heap_at_setCell h]
 rfl
theorem CrAt.set2 (h : CrAt w rp A c l p why) (q : Int) : CrAt (w.setCell ⟨rp, 2, none⟩ (.int .i64 q)) rp A c l p q := by
 unfold CrAt at *
 rw [heap_at_setCell h]
 rfl
end
def smallR (l : List UInt8) (p why : Int) : Nat × Int × Int := if why = 0 then (small (getA l p).1, endA p (getA l p), (getA l p).2.2) else (0, p, why)
def SmallS (w : World) (rp : Nat) (A : Option Addr) (c : Nat) (l : List UInt8) (r : Nat × Int × Int) (e : Ending) (w' : World) : Prop :=
 e = .returned (.int .i64 r.1) ∧ CrAt w' rp A c l r.2.1 r.2.2 ∧ Keep1 rp w w'
theorem Keep1.drew (b : Nat) (w : World) : Keep1 b w w.drew := Keep1.of_below (below_drew _ w)
theorem Keep1.drew' {b : Nat} {w w' : World} (h : Keep1 b w w') : Keep1 b w w'.drew := h.trans (Keep1.drew b w')
theorem Keep1.set {b : Nat} {w w' : World} (h : Keep1 b w w') (i : Nat) (u : Value) : Keep1 b w (w'.setCell ⟨b, i, none⟩ u) := h.trans (Keep1.of_set w' ⟨b, i, none⟩ u)
theorem C_set_other {α : Type} {enc : α → Value} {h1 : ∀ x, (enc x).oneCell' = true} {w : World} {A : Option Addr} {n : Nat} {l : List α} (h : (Kd.scalar enc h1).C w A n l) (rp : Nat) (hne : ∀ o x, w.cell? ⟨rp, o, none⟩ ≠ some (enc x)) (i : Nat) (u : Value) : (Kd.scalar enc h1).C (w.setCell ⟨rp, i, none⟩ u) A n l := by
 refine ⟨h.1, h.2.1, fun hn => ?_⟩
 obtain ⟨b, o, rfl, hx⟩ := sc_open h (by have := h.1; omega)
 have hb : b ≠ rp := by
  rintro rfl
  exact hne _ _ (hx 0 (by have := h.1; omega))
 refine ⟨_, rfl, fun j p hp => ?_⟩
 obtain ⟨ad, e, hc⟩ := h.2.2 hn
 cases e
 obtain ⟨cs, hl, hk, hcell⟩ := hc j p hp
 refine ⟨cs, hl, hk, fun q v hv => ?_⟩
 have := hcell q v hv
 rw [← this]
 exact World.cell?_of_block (Below.heap_setCell _ _ _ _ (by rw [add_block]; exact hb))
theorem CrAt.no {w : World} {rp : Nat} {A : Option Addr} {c : Nat} {l : List UInt8} {p why : Int} (h : CrAt w rp A c l p why) (v : Value) (h1 : ∀ n, v ≠ .int .i64 n) (h2 : ∀ a b d, v ≠ .slice a b d) (o : Nat) : w.cell? ⟨rp, o, none⟩ ≠ some v := by
 unfold CrAt at h
 unfold World.cell?
 simp only [h]
 rcases o with _ | _ | _ | o
 ·simp; exact fun he => h2 _ _ _ he.symm
 ·simp; exact fun he => h1 _ he.symm
 ·simp; exact fun he => h1 _ he.symm
 ·simp
set_option maxHeartbeats 1600000 in
set_option maxRecDepth 100000 in
theorem cr_small {base : Nat} {w : World} {rp : Nat} {A : Option Addr} {c : Nat} {l : List UInt8} {p why : Int} (h : CrAt w rp A c l p why) (hC : ∀ W, Below base w W → u8.C W A l.length l) (hc : l.length ≤ c) (hl : l.length ≤ 1099511627776) :
  Calls Tryz.prog 130 #[.pointer (some ⟨rp, 0, none⟩)] w (SmallS w rp A c l (smallR l p why)) := by
 have HS : Aside0 (smallR l p why = if why = 0 then (small (getA l p).1, endA p (getA l p), (getA l p).2.2) else (0, p, why)) := ⟨rfl⟩
 have H := Aside0.mk h
 have HG := Aside0.mk (fun W hb => v_Small A c l p W (hC W hb) hc hl)
 generalize smallR l p why = r at *
 generalize endA p (getA l p) = pe at *
 generalize getA l p = g at *
 obtain ⟨gv, gn, gw⟩ := g
 simp only at HG HS
 generalize small gv = sv at *
 have x0 := h.c0
 have x1 := h.c1
 have x2 := h.c2
 have f1 := h.fr 1
 have f2 := h.fr 2
 clear h hC
 by_cases hw : why = 0
 ·subst hw
  have HS2 := Aside0.mk (show r = (sv, pe, gw) by rw [HS.out]; simp)
  clear HS
  go_enter Tryz.func130, Tryz.ntmps130
  go_wp2_with fail
  go_region_with ((go_at_call 76; refine (HG.out _ (by exact below_drew _ _)).mono ?_; rintro e w' ⟨rfl, rfl⟩))
  all_goals
   clear x0 x1 x2 f1 f2
   go_wp2
   go_ret
   exact ⟨by rw [HS2.out]; rfl, by rw [HS2.out]; first | exact (H.out.set1 pe).set2 gw | exact (H.out.set2 gw).set1 pe, by first | exact (((Keep1.refl rp w).set 1 _).set 2 _).drew' | exact (((Keep1.refl rp w).set 2 _).set 1 _).drew'⟩
 ·have hwb : (why == 0) = false := by rw [beq_eq_false_iff_ne]; exact hw
  have HS2 := Aside0.mk (show r = (0, p, why) by rw [HS.out, if_neg hw])
  go_enter Tryz.func130, Tryz.ntmps130
  go_wp2
  go_ret
  exact ⟨by rw [HS2.out]; rfl, by rw [HS2.out]; exact H.out, Keep1.refl _ _⟩
def numbersR (l : List UInt8) (p why : Int) (n wd : Nat) : List Nat × Int × Int := if why = 0 then ((runsD l p.toNat n wd).1, ((runsD l p.toNat n wd).2.1 : Int), (runsD l p.toNat n wd).2.2) else ([], p, why)
def NumbersS (w : World) (rp : Nat) (A : Option Addr) (c : Nat) (l : List UInt8) (r : List Nat × Int × Int) (e : Ending) (w' : World) : Prop :=
 ∃ A' c', e = .returned (.slice A' r.1.length c') ∧ r.1.length ≤ c' ∧ kn.C w' A' r.1.length r.1 ∧ CrAt w' rp A c l r.2.1 r.2.2 ∧ Keep1 rp w w'
theorem u64_no (x : Nat) : (∀ n, (Value.int .u64 (x : Int)) ≠ .int .i64 n) ∧ (∀ a b d, (Value.int .u64 (x : Int)) ≠ .slice a b d) := ⟨(by intro n h; cases h), (by intro a b d h; cases h)⟩
theorem str_no (x : ByteArray) : (∀ n, (Value.string x) ≠ .int .i64 n) ∧ (∀ a b d, (Value.string x) ≠ .slice a b d) := ⟨(by intro n h; cases h), (by intro a b d h; cases h)⟩
theorem CrAt.C_set {α : Type} {enc : α → Value} {h1 : ∀ x, (enc x).oneCell' = true} {w : World} {A' : Option Addr} {n : Nat} {l' : List α} (hc : (Kd.scalar enc h1).C w A' n l') (hno : ∀ x, (∀ n, enc x ≠ .int .i64 n) ∧ (∀ a b d, enc x ≠ .slice a b d)) {rp : Nat} {A : Option Addr} {c : Nat} {l : List UInt8} {p why : Int} (h : CrAt w rp A c l p why) (i : Nat) (u : Value) : (Kd.scalar enc h1).C (w.setCell ⟨rp, i, none⟩ u) A' n l' :=
 C_set_other hc rp (fun o x => h.no _ (hno x).1 (hno x).2 o) i u
set_option maxHeartbeats 1600000 in
set_option maxRecDepth 100000 in
theorem cr_numbers {base : Nat} {w : World} {rp : Nat} {A : Option Addr} {c : Nat} {l : List UInt8} {p why : Int} (h : CrAt w rp A c l p why) (hC : ∀ W, Below base w W → u8.C W A l.length l) (hc : l.length ≤ c) (hl : l.length ≤ 1073741824) (hp : why = 0 → 0 ≤ p ∧ p ≤ l.length) (n wd : Nat) (hn : n ≤ 1048576) (hwd : wd ≤ 32) :
  Calls Tryz.prog 131 #[.pointer (some ⟨rp, 0, none⟩), .int .i64 n, .int .i64 wd] w (NumbersS w rp A c l (numbersR l p why n wd)) := by
 have HS : Aside0 (numbersR l p why n wd = if why = 0 then ((runsD l p.toNat n wd).1, ((runsD l p.toNat n wd).2.1 : Int), (runsD l p.toNat n wd).2.2) else ([], p, why)) := ⟨rfl⟩
 have H := Aside0.mk h
 have x0 := h.c0
 have x1 := h.c1
 have x2 := h.c2
 have f1 := h.fr 1
 have f2 := h.fr 2
 by_cases hw : why = 0
 ·subst hw
  have HD := Aside0.mk (runs_Decode A c l p.toNat n wd w.drew (hC _ (below_drew _ _)) hc hl (by have := hp rfl; omega) hn hwd)
  rw [show ((p.toNat : Nat) : Int) = p by have := hp rfl; omega] at HD
  generalize numbersR l p 0 n wd = r at *
  generalize runsD l p.toNat n wd = d at *
  obtain ⟨dl, dp, dw⟩ := d
  simp only at HD HS
  have HS2 := Aside0.mk (show r = (dl, (dp : Int), dw) by rw [HS.out]; simp)
  have HD2 := Aside0.mk (HD.out.mono (R' := fun e w1 => ∃ A1 c1, e = .returned (.tuple #[.slice A1 dl.length c1, .int .i64 dp, .int .i64 dw]) ∧ Aside0 (dl.length ≤ c1 ∧ kn.C w1 A1 dl.length dl ∧ CrAt w1 rp A c l p 0 ∧ Keep1 rp w w1) ∧ w1.frozen? ⟨rp, 1, none⟩ = false ∧ w1.frozen? ⟨rp, 2, none⟩ = false ∧ w1.cell? ⟨rp, 1, none⟩ = some (.int .i64 p) ∧ w1.cell? ⟨rp, 2, none⟩ = some (.int .i64 0)) (by
   rintro e w1 ⟨A1, c1, rfl, hc1, hC1, hb1⟩
   have hb := (below_drew w.heap.size w).trans hb1
   have hh := H.out.below hb
   exact ⟨A1, c1, rfl, ⟨hc1, hC1, hh, Keep1.of_below hb⟩, hh.fr 1, hh.fr 2, hh.c1, hh.c2⟩))
  clear HS h hC hp hc hl hn hwd HD
  go_enter Tryz.func131, Tryz.ntmps131
  go_wp2_with fail
  go_region_with ((go_at_call 160; refine HD2.out.mono ?_; rintro e w1 ⟨A1, c1, rfl, H1, y1, y2, z1, z2⟩))
  all_goals
   have HH := H1.out.2.2.1
   have KK := H1.out.2.2.2
   have Q1 := Aside0.mk (CrAt.C_set (CrAt.C_set H1.out.2.1 u64_no HH 1 (.int .i64 dp)) u64_no (HH.set1 dp) 2 (.int .i64 dw))
   have Q2 := Aside0.mk (CrAt.C_set (CrAt.C_set H1.out.2.1 u64_no HH 2 (.int .i64 dw)) u64_no (HH.set2 dw) 1 (.int .i64 dp))
   have Q3 := Aside0.mk (And.intro HH KK)
   clear x0 x1 x2 f1 f2 y1 y2 z1 z2 HH KK
   go_wp2
   go_ret
   refine ⟨A1, c1, by rw [HS2.out]; rfl, by rw [HS2.out]; exact H1.out.1, ?_, ?_, ?_⟩
   ·rw [HS2.out]; first | exact Q1.out | exact Q2.out
   ·rw [HS2.out]; first | exact (Q3.out.1.set1 dp).set2 dw | exact (Q3.out.1.set2 dw).set1 dp
   ·first | exact ((Q3.out.2.set 1 _).set 2 _) | exact ((Q3.out.2.set 2 _).set 1 _)
 ·have hwb : (why == 0) = false := by rw [beq_eq_false_iff_ne]; exact hw
  have HS2 := Aside0.mk (show numbersR l p why n wd = ([], p, why) by rw [HS.out, if_neg hw])
  clear HS h hC hp hc hl hn hwd
  generalize numbersR l p why n wd = r at *
  go_enter Tryz.func131, Tryz.ntmps131
  go_wp2
  go_ret
  exact ⟨none, 0, by rw [HS2.out]; rfl, by rw [HS2.out]; exact Nat.le_refl _, by rw [HS2.out]; exact kn_nil _, by rw [HS2.out]; exact H.out, Keep1.refl _ _⟩
end Go.Proofs.YtcmffaejcnbheaaGreat.Lib0
namespace Go.Proofs.YtcmffaejcnbheaaGreat.Lib0
open Go.RowKit Go.Proofs.YtcmffaejcnbheaaGreatW.PrintWords Go.ChangeMaps
theorem cell_block_facts (w : World) (O O' : Obj) : ((w.alloc O).alloc O').heap[w.heap.size]? = some O ∧ ((w.alloc O).alloc O').heap[w.heap.size + 1]? = some O' ∧ ((w.alloc O).alloc O').heap.size = w.heap.size + 2 := by
 have h1 := heap_alloc_new w O
 have h2 := heap_alloc_new (w.alloc O) O'
 have h3 : (w.alloc O).heap.size = w.heap.size + 1 := by simp
 rw [h3] at h2
 refine ⟨?_, h2, by simp⟩
 have := (below_alloc (Below.refl (w.alloc O).heap.size (w.alloc O)) O').block w.heap.size (by omega)
 rw [this, h1]
theorem Keep1.far {b : Nat} {w W : World} (h : Keep1 b w W) {p : Addr} (ha : w.heap.size ≤ p.block) (u : Value) : Keep1 b w (W.setCell p u) :=
 ⟨h.os, h.tape, h.output, by simpa [World.setCell] using h.size, fun k hk hn => (Below.heap_setCell _ _ _ _ (by omega)).trans (h.block k hk hn)⟩
theorem set4 {W : World} {rb : Nat} {T : TypeId} {a b c d : Value} (h : W.heap[rb]? = some (.cells #[a, b, c, d] T (0, 0))) (a' b' c' d' : Value) :
  ((((W.setCell ⟨rb, 0, none⟩ a').setCell ⟨rb, 1, none⟩ b').setCell ⟨rb, 2, none⟩ c').setCell ⟨rb, 3, none⟩ d').heap[rb]? = some (.cells #[a', b', c', d'] T (0, 0)) := by
 rw [heap_at_setCell (heap_at_setCell (heap_at_setCell (heap_at_setCell h)))]
 rfl
theorem CrAt.far {w : World} {rp : Nat} {A : Option Addr} {c : Nat} {l : List UInt8} {p why : Int} (h : CrAt w rp A c l p why) {q : Addr} (hq : rp ≠ q.block) (u : Value) : CrAt (w.setCell q u) rp A c l p why := (Below.heap_setCell _ _ _ _ hq).trans h
def noCell : CellM := ⟨ByteArray.empty, 0, 0, ByteArray.empty⟩
def valueR (l : List UInt8) (p form : Int) : CellM × Int × Int :=
 if form = 1 then (⟨ByteArray.empty, 1, zag (getA l p).1, ByteArray.empty⟩, endA p (getA l p), (getA l p).2.2)
 else (⟨ByteArray.empty, 2, 0, str (getT l p 40).1⟩, (getT l p 40).2.1, (getT l p 40).2.2)
def ValueS (w : World) (rp : Nat) (A : Option Addr) (c : Nat) (l : List UInt8) (r : CellM × Int × Int) (e : Ending) (w' : World) : Prop :=
 e = .returned (.agg #[.string r.1.col, .int .i64 r.1.kind, .int .i64 r.1.n, .string r.1.s]) ∧ CrAt w' rp A c l r.2.1 r.2.2 ∧ Keep1 rp w w'
set_option maxHeartbeats 1600000 in
set_option maxRecDepth 100000 in
theorem cr_value {base : Nat} {w : World} {rp : Nat} {A : Option Addr} {c : Nat} {l : List UInt8} {p : Int} (h : CrAt w rp A c l p 0) (hC : ∀ W, Below base w W → u8.C W A l.length l) (hbase : base ≤ w.heap.size) (hc : l.length ≤ c) (hl : l.length ≤ 1099511627776) (form : Int) :
  Calls Tryz.prog 133 #[.pointer (some ⟨rp, 0, none⟩), .int .i64 form] w (ValueS w rp A c l (valueR l p form)) := by
 obtain ⟨O, hO⟩ : ∃ O, O = Obj.cells #[.string ⟨#[]⟩, .int .i64 0, .int .i64 0, .string ⟨#[]⟩] 78 := ⟨_, rfl⟩
 have BO := (below_alloc (below_alloc (Below.refl w.heap.size w) O) O)
 have HS : Aside0 (valueR l p form = if form = 1 then (⟨ByteArray.empty, 1, zag (getA l p).1, ByteArray.empty⟩, endA p (getA l p), (getA l p).2.2) else (⟨ByteArray.empty, 2, 0, str (getT l p 40).1⟩, (getT l p 40).2.1, (getT l p 40).2.2)) := ⟨rfl⟩
 have H := Aside0.mk (h.below BO)
 have H0 := Aside0.mk h
 have x0 := H.out.c0
 have x1 := H.out.c1
 have x2 := H.out.c2
 have f1 := H.out.fr 1
 have f2 := H.out.fr 2
 have hlt := h.lt
 subst hO
 by_cases hf : form = 1
 ·subst hf
  have HG := Aside0.mk (fun W hb => v_GetZag A c l p W (hC W hb) hc hl)
  generalize valueR l p 1 = r at *
  generalize endA p (getA l p) = pe at *
  generalize getA l p = g at *
  obtain ⟨gv, gn, gw⟩ := g
  simp only at HG HS
  generalize zag gv = z at *
  have HS2 := Aside0.mk (show r = (⟨ByteArray.empty, 1, z, ByteArray.empty⟩, pe, gw) by rw [HS.out]; simp)
  have hrb := cell_block_facts w (.cells #[.string ⟨#[]⟩, .int .i64 0, .int .i64 0, .string ⟨#[]⟩] 78) (.cells #[.string ⟨#[]⟩, .int .i64 0, .int .i64 0, .string ⟨#[]⟩] 78)
  have HRB := Aside0.mk hrb
  have HB2 := Aside0.mk BO
  clear HS h hC hrb BO
  go_enter Tryz.func133, Tryz.ntmps133
  go_wp2_with fail
  have BB := below_alloc (below_alloc (Below.refl w.heap.size w) (.cells #[.string ⟨#[]⟩, .int .i64 0, .int .i64 0, .string ⟨#[]⟩] 78)) (.cells #[.string ⟨#[]⟩, .int .i64 1, .int .i64 0, .string ⟨#[]⟩] 78)
  obtain ⟨h1, h2, h3⟩ := cell_block_facts w (.cells #[.string ⟨#[]⟩, .int .i64 0, .int .i64 0, .string ⟨#[]⟩] 78) (.cells #[.string ⟨#[]⟩, .int .i64 1, .int .i64 0, .string ⟨#[]⟩] 78)
  obtain ⟨cb, hcb⟩ : ∃ cb, cb = w.heap.size + 1 := ⟨_, rfl⟩
  obtain ⟨rb, hrb⟩ : ∃ rb, rb = w.heap.size := ⟨_, rfl⟩
  clear x0 x1 x2 f1 f2 H HRB HB2
  generalize (w.alloc (.cells #[.string ⟨#[]⟩, .int .i64 0, .int .i64 0, .string ⟨#[]⟩] 78)).alloc (.cells #[.string ⟨#[]⟩, .int .i64 1, .int .i64 0, .string ⟨#[]⟩] 78) = wB at *
  have HW0 := H0.out.below BB
  have H2 := Aside0.mk HW0
  have BB2 := Aside0.mk BB
  have hn1 : cb ≠ rp := by omega
  have hn2 : rb ≠ rp := by omega
  have hn3 : rb ≠ cb := by omega
  have HSZ := Aside0.mk (And.intro h3 (And.intro hcb hrb))
  rw [← hcb] at h2
  rw [← hrb] at h1
  rw [← hcb, ← hrb]
  have K1 := Aside0.mk h1
  have K2 := Aside0.mk h2
  have y0 : wB.cell? ⟨cb, 2, none⟩ = some (.int .i64 0) := cell_of_heap h2 rfl
  have y1 : wB.frozen? ⟨cb, 2, none⟩ = false := frozen_of_heap h2
  have x0 := HW0.c0
  have x1 := HW0.c1
  have x2 := HW0.c2
  have f1 := HW0.fr 1
  have f2 := HW0.fr 2
  clear h1 h2 h3 hcb hrb BB HW0
  go_region_with ((go_at_call 75; refine (HG.out _ (by exact (BB2.out.mono hbase).trans (below_drew _ _))).mono ?_; rintro e w' ⟨rfl, rfl⟩))
  all_goals
   obtain ⟨W, hW⟩ : ∃ W, W = (((wB.setCell ⟨cb, 2, none⟩ (.int .i64 z)).setCell ⟨rp, 1, none⟩ (.int .i64 pe)).setCell ⟨rp, 2, none⟩ (.int .i64 gw)).drew := ⟨_, rfl⟩
   have L1 : W.heap[rb]? = some (.cells #[.string ⟨#[]⟩, .int .i64 0, .int .i64 0, .string ⟨#[]⟩] 78 (0, 0)) := by
    rw [hW]
    exact (Below.heap_setCell _ _ _ _ hn2).trans ((Below.heap_setCell _ _ _ _ hn2).trans ((Below.heap_setCell _ _ _ _ hn3).trans K1.out))
   have L2 : W.heap[cb]? = some (.cells #[.string ⟨#[]⟩, .int .i64 1, .int .i64 z, .string ⟨#[]⟩] 78 (0, 0)) := by
    rw [hW]
    exact (Below.heap_setCell _ _ _ _ hn1).trans ((Below.heap_setCell _ _ _ _ hn1).trans (heap_at_setCell K2.out))
   have L3 : CrAt W rp A c l pe gw := by
    rw [hW]
    exact CrAt.set2 (CrAt.set1 (show CrAt (wB.setCell ⟨cb, 2, none⟩ (.int .i64 z)) rp A c l p 0 from (Below.heap_setCell _ _ _ _ hn1.symm).trans H2.out) pe) gw
   have L4 : Keep1 rp w W := by
    rw [hW]
    have k1 : Below w.heap.size w (wB.setCell ⟨cb, 2, none⟩ (.int .i64 z)) := BB2.out.setCell (by show w.heap.size ≤ cb; have := HSZ.out; omega) _
    exact (((Keep1.of_below (b := rp) k1).set 1 _).set 2 _).drew'
   rw [← hW]
   have M1 := Aside0.mk L1
   have M3 := Aside0.mk L3
   have M4 := Aside0.mk L4
   have c0 := cell_of_heap (i := 0) L2 rfl
   have c1 := cell_of_heap (i := 1) L2 rfl
   have c2 := cell_of_heap (i := 2) L2 rfl
   have c3 := cell_of_heap (i := 3) L2 rfl
   have d0 := cell_of_heap (i := 0) L1 rfl
   have d1 := cell_of_heap (i := 1) L1 rfl
   have d2 := cell_of_heap (i := 2) L1 rfl
   have d3 := cell_of_heap (i := 3) L1 rfl
   have e0 := frozen_of_heap (i := 0) L1
   have e1 := frozen_of_heap (i := 1) L1
   have e2 := frozen_of_heap (i := 2) L1
   have e3 := frozen_of_heap (i := 3) L1
   have N1 := set4 L1 (.string ⟨#[]⟩) (.int .i64 1) (.int .i64 z) (.string ⟨#[]⟩)
   have N2 := Aside0.mk ((((L3.far (q := ⟨rb, 0, none⟩) hn2.symm (.string ⟨#[]⟩)).far (q := ⟨rb, 1, none⟩) hn2.symm (.int .i64 1)).far (q := ⟨rb, 2, none⟩) hn2.symm (.int .i64 z)).far (q := ⟨rb, 3, none⟩) hn2.symm (.string ⟨#[]⟩))
   have hrw : w.heap.size ≤ rb := by have := HSZ.out; omega
   have N3 := Aside0.mk ((((L4.far (p := ⟨rb, 0, none⟩) hrw (.string ⟨#[]⟩)).far (p := ⟨rb, 1, none⟩) hrw (.int .i64 1)).far (p := ⟨rb, 2, none⟩) hrw (.int .i64 z)).far (p := ⟨rb, 3, none⟩) hrw (.string ⟨#[]⟩))
   have g0 := cell_of_heap (i := 0) N1 rfl
   have g1 := cell_of_heap (i := 1) N1 rfl
   have g2 := cell_of_heap (i := 2) N1 rfl
   have g3 := cell_of_heap (i := 3) N1 rfl
   have G := Aside0.mk (And.intro g0 (And.intro g1 (And.intro g2 g3)))
   clear hW L1 L2 L3 L4 x0 x1 x2 f1 f2 y0 y1 N1 g0 g1 g2 g3 hrw
   go_wp2
   generalize (((W.setCell ⟨rb, 0, none⟩ (.string ⟨#[]⟩)).setCell ⟨rb, 1, none⟩ (.int .i64 1)).setCell ⟨rb, 2, none⟩ (.int .i64 z)).setCell ⟨rb, 3, none⟩ (.string ⟨#[]⟩) = Wf at *
   obtain ⟨g0, g1, g2, g3⟩ := G.out
   refine bodyPost_ret (v := .agg #[.string ⟨#[]⟩, .int .i64 1, .int .i64 z, .string ⟨#[]⟩]) (by simp [results, Tryz.results133, go_sem, g0, g1, g2, g3]) rfl ?_
   rw [HS2.out]
   exact ⟨rfl, N2.out, N3.out⟩
 ·have hfb : (form == 1) = false := by rw [beq_eq_false_iff_ne]; exact hf
  have HG : Aside0 (∀ W, Below base w W → Calls Tryz.prog 77 #[.slice A l.length c, .int .i64 p, .int .i64 40] W fun e w' => e = .returned (.tuple #[.string (str (getT l p 40).1), .int .i64 (getT l p 40).2.1, .int .i64 (getT l p 40).2.2]) ∧ W = w') := ⟨fun W hb => v_GetText A c l p 40 W (hC W hb) hc hl (by omega)⟩
  generalize valueR l p form = r at *
  generalize getT l p 40 = g at *
  obtain ⟨gt, pe, gw⟩ := g
  simp only at HG HS
  generalize str gt = ts at *
  have HS2 := Aside0.mk (show r = (⟨ByteArray.empty, 2, 0, ts⟩, pe, gw) by rw [HS.out]; simp [hf])
  have hrb := cell_block_facts w (.cells #[.string ⟨#[]⟩, .int .i64 0, .int .i64 0, .string ⟨#[]⟩] 78) (.cells #[.string ⟨#[]⟩, .int .i64 0, .int .i64 0, .string ⟨#[]⟩] 78)
  have HRB := Aside0.mk hrb
  have HB2 := Aside0.mk BO
  clear HS h hC hrb BO
  go_enter Tryz.func133, Tryz.ntmps133
  go_wp2_with fail
  have BB := below_alloc (below_alloc (Below.refl w.heap.size w) (.cells #[.string ⟨#[]⟩, .int .i64 0, .int .i64 0, .string ⟨#[]⟩] 78)) (.cells #[.string ⟨#[]⟩, .int .i64 2, .int .i64 0, .string ⟨#[]⟩] 78)
  obtain ⟨h1, h2, h3⟩ := cell_block_facts w (.cells #[.string ⟨#[]⟩, .int .i64 0, .int .i64 0, .string ⟨#[]⟩] 78) (.cells #[.string ⟨#[]⟩, .int .i64 2, .int .i64 0, .string ⟨#[]⟩] 78)
  obtain ⟨cb, hcb⟩ : ∃ cb, cb = w.heap.size + 1 := ⟨_, rfl⟩
  obtain ⟨rb, hrb⟩ : ∃ rb, rb = w.heap.size := ⟨_, rfl⟩
  clear x0 x1 x2 f1 f2 H HRB HB2
  generalize (w.alloc (.cells #[.string ⟨#[]⟩, .int .i64 0, .int .i64 0, .string ⟨#[]⟩] 78)).alloc (.cells #[.string ⟨#[]⟩, .int .i64 2, .int .i64 0, .string ⟨#[]⟩] 78) = wB at *
  have HW0 := H0.out.below BB
  have H2 := Aside0.mk HW0
  have BB2 := Aside0.mk BB
  have hn1 : cb ≠ rp := by omega
  have hn2 : rb ≠ rp := by omega
  have hn3 : rb ≠ cb := by omega
  have HSZ := Aside0.mk (And.intro h3 (And.intro hcb hrb))
  rw [← hcb] at h2
  rw [← hrb] at h1
  rw [← hcb, ← hrb]
  have K1 := Aside0.mk h1
  have K2 := Aside0.mk h2
  have y0 : wB.cell? ⟨cb, 3, none⟩ = some (.string ⟨#[]⟩) := cell_of_heap h2 rfl
  have y1 : wB.frozen? ⟨cb, 3, none⟩ = false := frozen_of_heap h2
  have x0 := HW0.c0
  have x1 := HW0.c1
  have x2 := HW0.c2
  have f1 := HW0.fr 1
  have f2 := HW0.fr 2
  clear h1 h2 h3 hcb hrb BB HW0
  go_region_with ((go_at_call 77; refine (HG.out _ (by exact (BB2.out.mono hbase).trans (below_drew _ _))).mono ?_; rintro e w' ⟨rfl, rfl⟩))
  all_goals
   obtain ⟨W, hW⟩ : ∃ W, W = (((wB.setCell ⟨cb, 3, none⟩ (.string ts)).setCell ⟨rp, 1, none⟩ (.int .i64 pe)).setCell ⟨rp, 2, none⟩ (.int .i64 gw)).drew := ⟨_, rfl⟩
   have L1 : W.heap[rb]? = some (.cells #[.string ⟨#[]⟩, .int .i64 0, .int .i64 0, .string ⟨#[]⟩] 78 (0, 0)) := by
    rw [hW]
    exact (Below.heap_setCell _ _ _ _ hn2).trans ((Below.heap_setCell _ _ _ _ hn2).trans ((Below.heap_setCell _ _ _ _ hn3).trans K1.out))
   have L2 : W.heap[cb]? = some (.cells #[.string ⟨#[]⟩, .int .i64 2, .int .i64 0, .string ts] 78 (0, 0)) := by
    rw [hW]
    exact (Below.heap_setCell _ _ _ _ hn1).trans ((Below.heap_setCell _ _ _ _ hn1).trans (heap_at_setCell K2.out))
   have L3 : CrAt W rp A c l pe gw := by
    rw [hW]
    exact CrAt.set2 (CrAt.set1 (show CrAt (wB.setCell ⟨cb, 3, none⟩ (.string ts)) rp A c l p 0 from (Below.heap_setCell _ _ _ _ hn1.symm).trans H2.out) pe) gw
   have L4 : Keep1 rp w W := by
    rw [hW]
    have k1 : Below w.heap.size w (wB.setCell ⟨cb, 3, none⟩ (.string ts)) := BB2.out.setCell (by show w.heap.size ≤ cb; have := HSZ.out; omega) _
    exact (((Keep1.of_below (b := rp) k1).set 1 _).set 2 _).drew'
   rw [← hW]
   have M1 := Aside0.mk L1
   have M3 := Aside0.mk L3
   have M4 := Aside0.mk L4
   have c0 := cell_of_heap (i := 0) L2 rfl
   have c1 := cell_of_heap (i := 1) L2 rfl
   have c2 := cell_of_heap (i := 2) L2 rfl
   have c3 := cell_of_heap (i := 3) L2 rfl
   have d0 := cell_of_heap (i := 0) L1 rfl
   have d1 := cell_of_heap (i := 1) L1 rfl
   have d2 := cell_of_heap (i := 2) L1 rfl
   have d3 := cell_of_heap (i := 3) L1 rfl
   have e0 := frozen_of_heap (i := 0) L1
   have e1 := frozen_of_heap (i := 1) L1
   have e2 := frozen_of_heap (i := 2) L1
   have e3 := frozen_of_heap (i := 3) L1
   have N1 := set4 L1 (.string ⟨#[]⟩) (.int .i64 2) (.int .i64 0) (.string ts)
   have N2 := Aside0.mk ((((L3.far (q := ⟨rb, 0, none⟩) hn2.symm (.string ⟨#[]⟩)).far (q := ⟨rb, 1, none⟩) hn2.symm (.int .i64 2)).far (q := ⟨rb, 2, none⟩) hn2.symm (.int .i64 0)).far (q := ⟨rb, 3, none⟩) hn2.symm (.string ts))
   have hrw : w.heap.size ≤ rb := by have := HSZ.out; omega
   have N3 := Aside0.mk ((((L4.far (p := ⟨rb, 0, none⟩) hrw (.string ⟨#[]⟩)).far (p := ⟨rb, 1, none⟩) hrw (.int .i64 2)).far (p := ⟨rb, 2, none⟩) hrw (.int .i64 0)).far (p := ⟨rb, 3, none⟩) hrw (.string ts))
   have g0 := cell_of_heap (i := 0) N1 rfl
   have g1 := cell_of_heap (i := 1) N1 rfl
   have g2 := cell_of_heap (i := 2) N1 rfl
   have g3 := cell_of_heap (i := 3) N1 rfl
   have G := Aside0.mk (And.intro g0 (And.intro g1 (And.intro g2 g3)))
   clear hW L1 L2 L3 L4 x0 x1 x2 f1 f2 y0 y1 N1 g0 g1 g2 g3 hrw
   go_wp2
   generalize (((W.setCell ⟨rb, 0, none⟩ (.string ⟨#[]⟩)).setCell ⟨rb, 1, none⟩ (.int .i64 2)).setCell ⟨rb, 2, none⟩ (.int .i64 0)).setCell ⟨rb, 3, none⟩ (.string ts) = Wf at *
   obtain ⟨g0, g1, g2, g3⟩ := G.out
   refine bodyPost_ret (v := .agg #[.string ⟨#[]⟩, .int .i64 2, .int .i64 0, .string ts]) (by simp [results, Tryz.results133, go_sem, g0, g1, g2, g3]) rfl ?_
   rw [HS2.out]
   exact ⟨rfl, N2.out, N3.out⟩
end Go.Proofs.YtcmffaejcnbheaaGreat.Lib0

/- What chapter 6's reference does. -/
import Derived.Test.YthacnbbijmgjfaaDoorAll
import Derived.Test.YthacnbbijmgjfaaDoorDiskOps4
set_option linter.unusedVariables false
set_option linter.unusedSimpArgs false
namespace Go.Proofs.YthacnbbijmgjfaaDoor.Lib0
open Go.RowKit Go.Proofs.YthacnbbijmgjfaaDoorW.PrintWords

attribute [local go_sem] u32_all
set_option maxHeartbeats 800000 in
set_option maxRecDepth 100000 in
theorem ref_get (A : Option Addr) (n c : Nat) (b0 b1 b2 b3 : UInt8) (l : List UInt8) (w : World) (h : u8.C w A n (b0 :: b1 :: b2 :: b3 :: l)) :
    Calls Tryd.prog 55 #[.slice A n c] w fun e w' => e = .returned (.int .u32 (un4 b0 b1 b2 b3)) ∧ ∃ k, w' = w.drewN k := by
  obtain ⟨b, o, rfl, hx⟩ := u8_open h (by simp)
  have x0 := hx 0 (by simp)
  have x1 := hx 1 (by simp)
  have x2 := hx 2 (by simp)
  have x3 := hx 3 (by simp)
  simp only [List.getElem_cons_zero, List.getElem_cons_succ, Nat.add_zero] at x0 x1 x2 x3
  have hn : 4 ≤ n := by have := h.1; simp at this; omega
  have n1 : (1 : Int) < n := by omega
  have n2 : (2 : Int) < n := by omega
  have n3 : (3 : Int) < n := by omega
  have m0 : 0 < n := by omega
  have m1 : 1 < n := by omega
  have m2 : 2 < n := by omega
  have m3 : 3 < n := by omega
  have p0 : (0 : Int) ≤ (b0.toNat : Int) := by omega
  have p1 : (0 : Int) ≤ (b1.toNat : Int) := by omega
  have p2 : (0 : Int) ≤ (b2.toNat : Int) := by omega
  have p3 : (0 : Int) ≤ (b3.toNat : Int) := by omega
  have q0 : (b0.toNat : Int) < 256 := by have := b0.toNat_lt; omega
  have q1 : (b1.toNat : Int) < 256 := by have := b1.toNat_lt; omega
  have q2 : (b2.toNat : Int) < 256 := by have := b2.toNat_lt; omega
  have q3 : (b3.toNat : Int) < 256 := by have := b3.toNat_lt; omega
  clear h hn hx
  go_enter Tryd.func55, Tryd.ntmps55
  go_wp2
  go_quiet (fail)
  go_wp2
  go_ret
  exact ⟨congrArg (fun x => Ending.returned (.int .u32 x)) (or4 b0 b1 b2 b3), ⟨_, rfl⟩⟩
/-- A row of bytes of its own. -/
def Row (T : TypeId) (w : World) (r : List UInt8) (e : Ending) (w' : World) : Prop :=
  ∃ v, e = .returned v ∧ u8.R T w' w.heap.size (fun _ => True) v r ∧ Below w.heap.size w w'
theorem R_lit (w : World) (l : List UInt8) (e : TypeId) (hn : l.length ≤ 1099511627776) : u8.R e (w.alloc (.cells (l.map encB).toArray e)) w.heap.size (fun _ => True) (.slice (some ⟨w.heap.size, 0, none⟩) l.length l.length) l := by
  rw [u8_R_iff]
  exact ⟨by simp, .inr ⟨w.heap.size, l.length, (l.map encB).toArray, rfl, Nat.le_refl _, heap_alloc_new w _, Nat.le_refl _, by simp [maxLen]; omega, by simp, by simp only [Nat.mul_one]; rw [List.take_of_length_le (by simp)]⟩⟩
set_option maxHeartbeats 800000 in
set_option maxRecDepth 100000 in
theorem ref_four (n : Int) (w : World) (h0 : 0 ≤ n) :
    Calls Tryd.prog 44 #[.int .u32 n] w (Row 5 w (le4 n.toNat)) := by
  have HR := Aside0.mk (R_lit w (le4 n.toNat) 5 (by simp [le4]))
  rw [le4_enc n h0] at HR
  go_enter Tryd.func44, Tryd.ntmps44
  go_wp2
  go_ret
  exact ⟨_, rfl, HR.out, below_alloc (Below.refl _ _) _⟩
set_option maxHeartbeats 1600000 in
set_option maxRecDepth 100000 in
theorem ref_Seal (A : Option Addr) (c : Nat) (l : List UInt8) (w : World) (h : u8.C w A l.length l) (hm : l.length ≤ 1048576) :
    Calls Tryd.prog 29 #[.slice A l.length c] w fun e w' => ∃ v, e = .returned (.tuple #[v, .int .i64 0]) ∧ u8.R 5 w' w.heap.size (fun _ => True) v (sealB l) ∧ Below w.heap.size w w' := by
  have HC := Aside0.mk h
  have hm1 : (l.length : Int) ≤ 1048576 := by omega
  have hm2 : decide (1048576 < (l.length : Int)) = false := by simp; omega
  have hm3 : decide (1048576 < l.length) = false := by simp; omega
  have e1 := not_u32 (l.length : Int) (by omega) (by omega)
  have e2 : (4294967295 - (l.length : Int)).toNat = 4294967295 - l.length := by omega
  clear h
  go_enter Tryd.func29, Tryd.ntmps29
  go_wp2_with fail
  refine (ref_four (l.length : Int) w (by omega)).mono ?_
  rintro e w1 ⟨v1, rfl, hr1, hb1⟩
  obtain ⟨A1, c1, rfl, hl1, hC1⟩ := u8_R_len hr1
  have R1 := Aside0.mk hr1
  have B1 := Aside0.mk hb1
  clear hr1 hb1 hl1 hC1
  go_wp2_with fail
  refine (ref_four (4294967295 - (l.length : Int)) w1 (by omega)).mono ?_
  rintro e w2 ⟨v2, rfl, hr2, hb2⟩
  obtain ⟨A2, c2, rfl, hl2, hC2⟩ := u8_R_len hr2
  have R2 := Aside0.mk (Kd.R_below R1.out hb2)
  have B2 := Aside0.mk (B1.out.trans (hb2.mono B1.out.size))
  have C2 := Aside0.mk hC2
  clear hr2 hb2 hl2 hC2
  go_wp2_with (at_builtin; go_loud (refine u8_append (.tmp 13) (.tmp 16) 23 5 (.slice A1 _ c1) _ _ _ _ _ w.heap.size rfl rfl Tryd.underlying23 info_u8 rfl rfl R2.out C2.out B2.out.size ?c1 ?_))
  case c1 => simp [le4]
  intro v3 w3 hr3 hb3 hg3 ha3
  obtain ⟨A3, c3, rfl, _, _⟩ := u8_R_len hr3
  have B3 := Aside0.mk (B2.out.trans hb3)
  have R3 := Aside0.mk hr3
  have C3 := Aside0.mk (Kd.C_below HC.out B3.out)
  clear hr3 hb3 hg3 ha3
  go_wp2_with (at_builtin; go_loud (refine u8_append (.tmp 18) (.tmp 19) 23 5 (.slice A3 _ c3) _ _ _ _ _ w.heap.size rfl rfl Tryd.underlying23 info_u8 rfl rfl R3.out C3.out B3.out.size ?c2 ?_))
  case c2 => simp [le4]; omega
  intro v4 w4 hr4 hb4 hg4 ha4
  obtain ⟨A4, c4, rfl, _, _⟩ := u8_R_len hr4
  have B4 := Aside0.mk (B3.out.trans hb4)
  have R4 := Aside0.mk hr4
  have C4 := Aside0.mk (Kd.C_below HC.out B4.out)
  have HZ := Aside0.mk (show le4 l.length ++ (le4 (4294967295 - l.length) ++ l) ++ le4 (crc l).toNat = sealB l by simp [sealB, List.append_assoc])
  have HZL := Aside0.mk (show (le4 l.length ++ (le4 (4294967295 - l.length) ++ l)).length ≤ 2000000 by simp [le4]; omega)
  generalize le4 l.length ++ (le4 (4294967295 - l.length) ++ l) = z at *
  clear hr4 hb4 hg4 ha4
  go_wp2_with fail
  refine (ref_Crc A c l _ C4.out).mono ?_
  rintro e w' ⟨rfl, rfl⟩
  have hcr := crc_range l
  generalize crc l = cr at *
  go_wp2_with fail
  refine (ref_four cr w4 hcr.1).mono ?_
  rintro e w5 ⟨v5, rfl, hr5, hb5⟩
  obtain ⟨A5, c5, rfl, _, hC5⟩ := u8_R_len hr5
  have R5 := Aside0.mk (Kd.R_below R4.out hb5)
  have B5 := Aside0.mk (B4.out.trans (hb5.mono B4.out.size))
  have C5 := Aside0.mk hC5
  clear hr5 hb5 hC5
  go_wp2_with (at_builtin; go_loud (refine u8_append (.tmp 21) (.tmp 24) 23 5 (.slice A4 _ c4) _ _ _ _ _ w.heap.size rfl rfl Tryd.underlying23 info_u8 rfl rfl R5.out C5.out B5.out.size ?c3 ?_))
  case c3 => have := HZL.out; simp [le4]; omega
  intro v6 w6 hr6 hb6 hg6 ha6
  have R6 := Aside0.mk hr6
  have B6 := Aside0.mk (B5.out.trans hb6)
  clear hr6 hb6 hg6 ha6
  go_wp2
  go_ret2
  refine ⟨v6, rfl, ?_, B6.out⟩
  rw [← HZ.out]
  exact R6.out
end Go.Proofs.YthacnbbijmgjfaaDoor.Lib0

import Derived.Test.YtcmffaejcnbheaaGreatQ02
set_option linter.unusedVariables false
set_option linter.unusedSimpArgs false
namespace Go.Proofs.YtcmffaejcnbheaaGreat.Lib0
open Go.RowKit Go.Proofs.YtcmffaejcnbheaaGreatW.PrintWords Go.ChangeMaps
def putV (n : Nat) : List UInt8 := if n ≤ 127 then [UInt8.ofNat n] else (UInt8.ofNat n ||| 128) :: putV (n / 128)
termination_by n
decreasing_by omega
theorem putV_small {n : Nat} (h : n ≤ 127) : putV n = [UInt8.ofNat n] := by rw [putV, if_pos h]
theorem putV_great {n : Nat} (h : ¬ n ≤ 127) : putV n = (UInt8.ofNat n ||| 128) :: putV (n / 128) := by rw [putV, if_neg h]
theorem putV_len : ∀ (k n : Nat), n < 128 ^ (k + 1) → (putV n).length ≤ k + 1
 | 0, n, h => by rw [putV_small (by omega)]; simp
 | k + 1, n, h => by
  by_cases h1 : n ≤ 127
  ·rw [putV_small h1]; simp
  ·rw [putV_great h1, List.length_cons]
   have := putV_len k (n / 128) (by rw [Nat.pow_succ] at h; omega)
   omega
theorem putV_len10 {n : Nat} (h : n < 18446744073709551616) : (putV n).length ≤ 10 := by
 have h2 : (128 : Nat) ^ (9 + 1) = 1180591620717411303424 := by decide
 exact putV_len 9 n (by omega)
theorem putV_pos (n : Nat) : 0 < (putV n).length := by
 by_cases h : n ≤ 127
 ·rw [putV_small h]; simp
 ·rw [putV_great h]; simp
section
variable {P : Program} {ops : Array Oper} {rest : List Oper} {o : Oper} {a : Act} {Q : Exit → Act → World → Prop}
theorem u8_append1 {W : World} (s x : Operand) (t e : TypeId) (v : Value) (xs : List UInt8) (p : UInt8) (n : Int) (hn : n = (p.toNat : Int)) (base : Nat)
  (hgd : o.guard = none) (ho : o.op = .call { callee := .builtin .append, args := #[s, x], argTypes := #[t, t] })
  (ht : P.underlying t = some (.slice e)) (hinfo : (P.info? e).map (fun i => (i.zero, i.size, i.bytes)) = some (some (.int .u8 0), 1, 1))
  (hs : a.eval s = v) (hx : a.eval x = .slice (some ⟨W.heap.size, 0, none⟩) 1 1)
  (HO : u8.R e W base (fun _ => True) v xs) (hbase : base ≤ W.heap.size) (hl : xs.length ≤ 1099511627776)
  (h : ∀ v1 w1, u8.R e w1 base (fun _ => True) v1 (xs ++ [p]) → Below base W w1 → W.grownBy w1 v.ownBlock → (v1.ownBlock = v.ownBlock ∨ ∃ b, v1.ownBlock = some b ∧ W.heap.size ≤ b) → wpList P ops Q rest (a.put o.dst v1) w1) :
  wpList P ops Q (o :: rest) a (W.alloc (.cells #[.int .u8 n] e)) := by
 subst hn
 exact Kd.R_append u8 (w0 := W) base hgd s x t e (.int .u8 0) 1 ho ht hinfo rfl (by decide) (by decide) v xs p [.int .u8 (p.toNat : Int)] (fun _ => True) (fun _ => False) hs hx rfl (fun _ hk => hk.elim) (fun _ _ => trivial)
  HO (Below.refl _ _) hbase (by omega) h
end
theorem or_u8 (a b : UInt8) : Go.bits .or .u8 (a.toNat : Int) (b.toNat : Int) = ((a ||| b).toNat : Int) := by
 have ha := a.toNat_lt
 have hb := b.toNat_lt
 unfold Go.bits
 simp only [IntKind.wrap_u8]
 show (((BitVec.ofInt 8 (a.toNat : Int) ||| BitVec.ofInt 8 (b.toNat : Int)).toNat : Nat) : Int) % 256 = _
 rw [BitVec.ofInt_natCast, BitVec.ofInt_natCast, BitVec.toNat_or, BitVec.toNat_ofNat, BitVec.toNat_ofNat, Nat.mod_eq_of_lt ha, Nat.mod_eq_of_lt hb, UInt8.toNat_or]
 have : a.toNat ||| b.toNat < 2 ^ 8 := Nat.or_lt_two_pow ha hb
 omega
set_option maxHeartbeats 1600000 in
set_option maxRecDepth 100000 in
theorem v_Put (A : Option Addr) (c : Nat) (l : List UInt8) (n : Nat) (w : World) (h : u8.C w A l.length l) (hl : l.length ≤ 1099511627000) (hn : n < 18446744073709551616) :
  Calls Tryz.prog 26 #[.slice A l.length c, .int .u64 n] w (Row 5 w (l ++ putV n)) := by
 have HC := Aside0.mk h
 have HL := Aside0.mk hl
 have HP := Aside0.mk (putV_len10 hn)
 have HN := Aside0.mk hn
 clear h hl hn
 go_enter Tryz.func26, Tryz.ntmps26
 go_wp2_with (at_builtin; go_loud (refine u8_append (.tmp 6) (.tmp 7) 24 5 (.slice (some ⟨w.heap.size, 0, none⟩) 0 0) [] l _ _ _ w.heap.size rfl rfl Tryz.underlying24 info_u8 rfl rfl (R_empty u8 5 w) (Kd.C_below HC.out (below_alloc (Below.refl _ _) _)) ?c1 ?c2 ?_))
 case c1 => simp
 case c2 => have := HL.out; simp; omega
 intro v1 w1 hr1 hb1 hg1 ha1
 have R1 := Aside0.mk hr1
 have B1 := Aside0.mk ((below_alloc (Below.refl w.heap.size w) (.cells #[] 5)).trans hb1)
 clear hr1 hb1 hg1 ha1
 go_wp2_with fail
 go_loopw [1, 5] (fun v1 v5 wr => ∃ (m : Nat) (acc : List UInt8), v1 = .int .u64 m ∧ Aside0 (m ≤ n) ∧ Aside0 (acc ++ putV m = l ++ putV n) ∧ Aside0 (u8.R 5 wr w.heap.size (fun _ => True) v5 acc) ∧ Aside0 (Below w.heap.size w wr)) (fun v _ _ => (intOf v).toNat)
 case atStart => exact ⟨n, l, rfl, ⟨Nat.le_refl _⟩, ⟨rfl⟩, ⟨by simpa using R1.out⟩, B1⟩
 case round =>
  obtain ⟨m, acc, rfl, HM, HA, HR, HB⟩ := hrel
  obtain ⟨A5, c5, rfl, _, _⟩ := u8_R_len HR.out
  have HLA := Aside0.mk (show acc.length ≤ 1099511627776 by have := congrArg List.length HA.out; rw [List.length_append, List.length_append] at this; have := HL.out; have := HP.out; omega)
  obtain ⟨y, hy⟩ : ∃ y, y = UInt8.ofNat m := ⟨_, rfl⟩
  have hyb : (m : Int) % 256 = (y.toNat : Int) := by rw [hy, UInt8.toNat_ofNat']; omega
  by_cases hm : m ≤ 127
  ·have hm2 : ¬ (127 : Int) < m := by omega
   have hyb2 : (m : Int) = (y.toNat : Int) := by omega
   have HE := Aside0.mk (show l ++ putV n = acc ++ [y] by rw [← HA.out, putV_small hm, hy])
   have HYB := Aside0.mk hyb
   have HYB2 := Aside0.mk hyb2
   clear hy hyb hyb2
   go_wp2_with (at_builtin; go_loud (refine u8_append1 (.tmp 19) (.tmp 22) 24 5 (.slice A5 acc.length c5) acc y _ ?c3 w.heap.size rfl rfl Tryz.underlying24 info_u8 rfl rfl HR.out HB.out.size HLA.out ?_))
   case c3 => first | exact HYB.out | exact HYB2.out
   intro v2 w2 hr2 hb2 hg2 ha2
   go_wp2
   go_ret
   exact ⟨_, rfl, by rw [HE.out]; exact hr2, HB.out.trans hb2⟩
  ·have hm2 : (127 : Int) < m := by omega
   obtain ⟨z, hz⟩ : ∃ z, z = y ||| 128 := ⟨_, rfl⟩
   have hor : Go.bits .or .u8 ((m : Int) % 256) 128 = (z.toNat : Int) := by rw [hyb, hz, ← or_u8]; rfl
   have HE := Aside0.mk (show (acc ++ [z]) ++ putV (m / 128) = l ++ putV n by rw [← HA.out, putV_great hm, hz, hy]; simp)
   clear hy hyb hz
   go_wp2_with (at_builtin; go_loud (refine u8_append1 (.tmp 11) (.tmp 15) 24 5 (.slice A5 acc.length c5) acc z _ rfl w.heap.size rfl rfl Tryz.underlying24 info_u8 rfl rfl HR.out HB.out.size HLA.out ?_))
   intro v2 w2 hr2 hb2 hg2 ha2
   have R2 := Aside0.mk hr2
   have B2 := Aside0.mk (HB.out.trans hb2)
   clear hr2 hb2 hg2 ha2
   go_wp2
   go_roundw
   case rel => exact ⟨m / 128, acc ++ [z], by first | rfl | (simp; omega) | go_num, ⟨by have := HM.out; omega⟩, HE, R2, B2⟩
   case measure => simp [intOf]; omega
end Go.Proofs.YtcmffaejcnbheaaGreat.Lib0
namespace Go.Proofs.YtcmffaejcnbheaaGreat.Lib0
open Go.RowKit Go.Proofs.YtcmffaejcnbheaaGreatW.PrintWords Go.ChangeMaps
def I64 (n : Int) : Prop := -9223372036854775808 ≤ n ∧ n ≤ 9223372036854775807
def zig (n : Int) : Nat := if 0 ≤ n then (2 * n).toNat else (-2 * n - 1).toNat
def zag (n : Nat) : Int := if n % 2 = 0 then (n / 2 : Nat) else -((n / 2 : Nat) : Int) - 1
theorem zag_zig (n : Int) : zag (zig n) = n := by
 unfold zag zig
 split <;> split <;> omega
theorem zig_lt {n : Int} (h : I64 n) : zig n < 18446744073709551616 := by
 unfold zig
 have := h.1
 have := h.2
 split <;> omega
theorem zag_in {n : Nat} (h : n < 18446744073709551616) : I64 (zag n) := by
 unfold zag I64
 split <;> omega
theorem bits_u64 (op : BinOp) (f : ∀ {w : Nat}, BitVec w → BitVec w → BitVec w) (hop : ∀ a b : Int, Go.bits op .u64 a b = IntKind.u64.wrap ((f (BitVec.ofInt 64 a) (BitVec.ofInt 64 b)).toNat : Int)) (a b : Nat) (ha : a < 18446744073709551616) (hb : b < 18446744073709551616) :
  Go.bits op .u64 (a : Int) (b : Int) = ((f (BitVec.ofNat 64 a) (BitVec.ofNat 64 b)).toNat : Int) := by
 rw [hop, BitVec.ofInt_natCast, BitVec.ofInt_natCast]
 have := (f (BitVec.ofNat 64 a) (BitVec.ofNat 64 b)).isLt
 rw [IntKind.wrap_u64]
 omega
theorem xor_u64 (a b : Nat) (ha : a < 18446744073709551616) (hb : b < 18446744073709551616) : Go.bits .xor .u64 (a : Int) (b : Int) = ((a ^^^ b : Nat) : Int) := by
 rw [bits_u64 .xor (fun x y => x ^^^ y) (fun _ _ => rfl) a b ha hb, BitVec.toNat_xor, BitVec.toNat_ofNat, BitVec.toNat_ofNat, Nat.mod_eq_of_lt ha, Nat.mod_eq_of_lt hb]
theorem and_u64 (a b : Nat) (ha : a < 18446744073709551616) (hb : b < 18446744073709551616) : Go.bits .and .u64 (a : Int) (b : Int) = ((a &&& b : Nat) : Int) := by
 rw [bits_u64 .and (fun x y => x &&& y) (fun _ _ => rfl) a b ha hb, BitVec.toNat_and, BitVec.toNat_ofNat, BitVec.toNat_ofNat, Nat.mod_eq_of_lt ha, Nat.mod_eq_of_lt hb]
theorem or_u64 (a b : Nat) (ha : a < 18446744073709551616) (hb : b < 18446744073709551616) : Go.bits .or .u64 (a : Int) (b : Int) = ((a ||| b : Nat) : Int) := by
 rw [bits_u64 .or (fun x y => x ||| y) (fun _ _ => rfl) a b ha hb, BitVec.toNat_or, BitVec.toNat_ofNat, BitVec.toNat_ofNat, Nat.mod_eq_of_lt ha, Nat.mod_eq_of_lt hb]
theorem xor_ones (a : Nat) (ha : a < 18446744073709551616) : a ^^^ 18446744073709551615 = 18446744073709551615 - a := by
 have h : (BitVec.ofNat 64 a ^^^ BitVec.allOnes 64).toNat = (~~~ (BitVec.ofNat 64 a)).toNat := by rw [BitVec.xor_allOnes]
 rw [BitVec.toNat_xor, BitVec.toNat_not, BitVec.toNat_ofNat, Nat.mod_eq_of_lt ha, BitVec.toNat_allOnes] at h
 have e : (2 : Nat) ^ 64 = 18446744073709551616 := by decide
 rw [e] at h
 simpa using h
theorem zig_bits (n : Int) (h : I64 n) : Go.bits .xor .u64 (IntKind.u64.wrap (IntKind.u64.wrap n * 2)) (IntKind.u64.wrap (n / 9223372036854775808)) = (zig n : Int) := by
 have h1 := h.1
 have h2 := h.2
 by_cases h0 : 0 ≤ n
 ·have e1 : IntKind.u64.wrap (IntKind.u64.wrap n * 2) = (((2 * n).toNat : Nat) : Int) := by rw [IntKind.wrap_u64, IntKind.wrap_u64]; omega
  have e2 : IntKind.u64.wrap (n / 9223372036854775808) = ((0 : Nat) : Int) := by rw [IntKind.wrap_u64]; omega
  rw [e1, e2, xor_u64 _ _ (by omega) (by omega), Nat.xor_zero, zig, if_pos h0]
 ·have e1 : IntKind.u64.wrap (IntKind.u64.wrap n * 2) = (((2 * n + 18446744073709551616).toNat : Nat) : Int) := by rw [IntKind.wrap_u64, IntKind.wrap_u64]; omega
  have e2 : IntKind.u64.wrap (n / 9223372036854775808) = ((18446744073709551615 : Nat) : Int) := by rw [IntKind.wrap_u64]; omega
  rw [e1, e2, xor_u64 _ _ (by omega) (by omega), xor_ones _ (by omega), zig, if_neg h0]
  omega
theorem xor_i64_zero (n : Int) (h : I64 n) : Go.bits .xor .i64 n 0 = n := by
 unfold Go.bits
 show IntKind.i64.wrap (((BitVec.ofInt 64 n ^^^ BitVec.ofInt 64 0).toNat : Nat) : Int) = n
 have e : BitVec.ofInt 64 0 = 0#64 := by decide
 rw [e, BitVec.xor_zero, IntKind.wrap_i64, BitVec.toNat_ofInt]
 have := h.1
 have := h.2
 have e2 : ((2 ^ 64 : Nat) : Int) = 18446744073709551616 := by decide
 rw [e2]
 omega
theorem xor_i64_ones (n : Int) (h : I64 n) : Go.bits .xor .i64 n (-1) = -n - 1 := by
 unfold Go.bits
 show IntKind.i64.wrap (((BitVec.ofInt 64 n ^^^ BitVec.ofInt 64 (-1)).toNat : Nat) : Int) = -n - 1
 have e : BitVec.ofInt 64 (-1) = BitVec.allOnes 64 := by decide
 rw [e, BitVec.xor_allOnes, IntKind.wrap_i64, BitVec.toNat_not, BitVec.toNat_ofInt]
 have := h.1
 have := h.2
 have e2 : ((2 ^ 64 : Nat) : Int) = 18446744073709551616 := by decide
 have e3 : (2 : Nat) ^ 64 = 18446744073709551616 := by decide
 rw [e2, e3]
 omega
theorem zag_bits (n : Nat) (h : n < 18446744073709551616) : Go.bits .xor .i64 ((n : Int) / 2) (wrap64 (-wrap64 (Go.bits .and .u64 (n : Int) 1))) = zag n := by
 have e : Go.bits .and .u64 (n : Int) 1 = ((n % 2 : Nat) : Int) := by
  have := and_u64 n 1 h (by omega)
  rw [Nat.and_one_is_mod] at this
  exact this
 rw [e]
 unfold zag
 have hi : I64 ((n : Int) / 2) := by unfold I64; omega
 by_cases h2 : n % 2 = 0
 ·rw [if_pos h2, h2]
  have : wrap64 (-wrap64 ((0 : Nat) : Int)) = 0 := by unfold wrap64; omega
  rw [this, xor_i64_zero _ hi]
  omega
 ·have h3 : n % 2 = 1 := by omega
  rw [if_neg h2, h3]
  have : wrap64 (-wrap64 ((1 : Nat) : Int)) = -1 := by unfold wrap64; omega
  rw [this, xor_i64_ones _ hi]
  omega
set_option maxHeartbeats 1600000 in
set_option maxRecDepth 100000 in
theorem v_Zig (n : Int) (hn : I64 n) (w : World) :
  Calls Tryz.prog 63 #[.int .i64 n] w fun e w' => e = .returned (.int .u64 (zig n)) ∧ w = w' := by
 go_enter Tryz.func63, Tryz.ntmps63
 go_wp2
 go_ret
 exact ⟨congrArg (fun x => Ending.returned (.int .u64 x)) (zig_bits n hn), rfl⟩
set_option maxHeartbeats 1600000 in
set_option maxRecDepth 100000 in
theorem v_Zag (n : Nat) (hn : n < 18446744073709551616) (w : World) :
  Calls Tryz.prog 111 #[.int .u64 n] w fun e w' => e = .returned (.int .i64 (zag n)) ∧ w = w' := by
 go_enter Tryz.func111, Tryz.ntmps111
 go_wp2
 go_ret
 exact ⟨congrArg (fun x => Ending.returned (.int .i64 x)) (zag_bits n hn), rfl⟩
end Go.Proofs.YtcmffaejcnbheaaGreat.Lib0

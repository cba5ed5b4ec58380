/- General words for the walks of this seat: bytes as UInt8, how a row of bytes is read and owned. No statement of the seat. -/
import Derived.Test.YthacnbbijmgjfaaDoorProg
import Derived.Test.YthacnbbijmgjfaaDoorWWords
import Derived.Laws.BitsLemmas
set_option linter.unusedVariables false
set_option linter.unusedSimpArgs false
namespace Go.Proofs.YthacnbbijmgjfaaDoor.Lib0
open Go.RowKit Go.Proofs.YthacnbbijmgjfaaDoorW.PrintWords

/-- Bytes. -/
def u8 : Kd UInt8 := Kd.scalar (fun b : UInt8 => Value.int .u8 (b.toNat : Int)) (fun _ => rfl)
def encB (b : UInt8) : Value := .int .u8 (b.toNat : Int)
def bi (l : List UInt8) : List Int := l.map fun b => (b.toNat : Int)
theorem bi_length (l : List UInt8) : (bi l).length = l.length := by simp [bi]
/-- a string of bytes, the bytes of a string -/
def str (l : List UInt8) : ByteArray := ⟨l.toArray⟩
def byt (s : ByteArray) : List UInt8 := s.data.toList
theorem byt_str (l : List UInt8) : byt (str l) = l := by simp [byt, str]
theorem str_byt (s : ByteArray) : str (byt s) = s := by simp [byt, str]
theorem byt_length (s : ByteArray) : (byt s).length = s.size := by simp [byt]
theorem str_size (l : List UInt8) : (str l).size = l.length := by rw [← byt_length, byt_str]
theorem str_inj {a b : List UInt8} (h : str a = str b) : a = b := by rw [← byt_str a, h, byt_str]

theorem u8_C_iff (w : World) (A : Option Addr) (n : Nat) (l : List UInt8) : u8.C w A n l ↔ (Kd.int .u8).C w A n (bi l) := by
  unfold Kd.C ReadsRow
  simp only [bi_length]
  constructor
  · rintro ⟨h1, h2, h3⟩
    refine ⟨h1, h2, fun hn => ?_⟩
    obtain ⟨ad, e, hc⟩ := h3 hn
    refine ⟨ad, e, fun j p hp => ?_⟩
    simp only [bi, List.getElem?_map, Option.map_eq_some_iff] at hp
    obtain ⟨b, hb, rfl⟩ := hp
    obtain ⟨c, hl, hk, hcell⟩ := hc j b hb
    exact ⟨c, hl, hk, hcell⟩
  · rintro ⟨h1, h2, h3⟩
    refine ⟨h1, h2, fun hn => ?_⟩
    obtain ⟨ad, e, hc⟩ := h3 hn
    refine ⟨ad, e, fun j p hp => ?_⟩
    obtain ⟨c, hl, hk, hcell⟩ := hc j (p.toNat : Int) (by simp [bi, hp])
    exact ⟨c, hl, hk, hcell⟩

theorem u8_at {w : World} {A : Option Addr} {n : Nat} {l : List UInt8} (h : u8.C w A n l) (k : Nat) (hk : k < l.length) :
    ∃ ad, A = some ad ∧ w.cell? (ad.add k) = some (.int .u8 ((l[k]).toNat : Int)) := by
  obtain ⟨ad, e, hc⟩ := h.2.2 (by have := h.1; omega)
  obtain ⟨c, hl, hk', hcell⟩ := hc k _ (List.getElem?_eq_getElem hk)
  refine ⟨ad, e, ?_⟩
  have hk2 : c = [.int .u8 ((l[k]).toNat : Int)] := hk'
  subst hk2
  have := hcell 0 _ rfl
  have e1 : k * u8.sz + 0 = k := by show k * 1 + 0 = k; omega
  rwa [e1] at this
theorem cell_plain {w : World} {a : Addr} {v : Value} (h : w.cell? a = some v) : a.spot = none := by
  unfold World.cell? at h
  split at h
  · split at h
    · simp at h
    · rename_i h1; simpa using h1
  · simp at h
/-- The row's address and its cells, as the walk spells them. -/
theorem u8_open {w : World} {A : Option Addr} {n : Nat} {l : List UInt8} (h : u8.C w A n l) (hn : 0 < l.length) :
    ∃ b o, A = some ⟨b, o, none⟩ ∧ ∀ k (hk : k < l.length), w.cell? ⟨b, o + k, none⟩ = some (.int .u8 ((l[k]).toNat : Int)) := by
  obtain ⟨ad, rfl, hx⟩ := u8_at h 0 hn
  have hs : ad.spot = none := by
    have e0 : ad.add 0 = ad := by simp [Addr.add]
    rw [e0] at hx
    exact cell_plain hx
  obtain ⟨b, o, sp⟩ := ad
  simp only at hs
  subst hs
  refine ⟨b, o, rfl, fun k hk => ?_⟩
  obtain ⟨ad, e, hx⟩ := u8_at h k hk
  cases e
  have e1 : (⟨b, o, none⟩ : Addr).add k = ⟨b, o + k, none⟩ := by unfold Addr.add; split <;> simp_all
  rwa [e1] at hx
theorem u8_len {w : World} {A : Option Addr} {n : Nat} {l : List UInt8} (h : u8.C w A n l) : l.length ≤ 9223372036854775807 := by have := h.1; have := h.2.1; omega
theorem u8_C_lit (w : World) (l : List UInt8) (e : TypeId) (hn : l.length ≤ 9223372036854775807) : u8.C (w.alloc (.cells (l.map encB).toArray e)) (some ⟨w.heap.size, 0, none⟩) l.length l := by
  refine ⟨rfl, hn, fun _ => ⟨_, rfl, fun j p hp => ⟨[encB p], rfl, rfl, fun i u hu => ?_⟩⟩⟩
  have hi : i = 0 := by
    rcases i with _ | i
    · rfl
    · simp at hu
  subst hi
  simp only [List.getElem?_cons_zero, Option.some.injEq] at hu
  subst hu
  have e1 : (⟨w.heap.size, 0, none⟩ : Addr).add (j * u8.sz + 0) = ⟨w.heap.size, j, none⟩ := by
    rw [add_plain]; show (⟨w.heap.size, j * 1 + 0, none⟩ : Addr) = _; simp
  rw [e1]
  have hh := heap_alloc_new w (.cells (l.map encB).toArray e)
  unfold World.cell?
  simp only [hh]
  simp [hp]
section
variable {P : Program} {ops : Array Oper} {rest : List Oper} {o : Oper} {a : Act} {Q : Exit → Act → World → Prop}
/-- append(v, ys...) of bytes. -/
theorem u8_append {W : World} (s x : Operand) (t e : TypeId) (v : Value) (xs ys : List UInt8) (A : Option Addr) (m c : Nat) (base : Nat)
    (hgd : o.guard = none) (ho : o.op = .call { callee := .builtin .append, args := #[s, x], argTypes := #[t, t] })
    (ht : P.underlying t = some (.slice e)) (hinfo : (P.info? e).map (fun i => (i.zero, i.size, i.bytes)) = some (some (.int .u8 0), 1, 1))
    (hs : a.eval s = v) (hx : a.eval x = .slice A m c)
    (HO : u8.R e W base (fun _ => True) v xs) (HR : u8.C W A m ys) (hbase : base ≤ W.heap.size) (hl : xs.length + m ≤ 140737488355328)
    (h : ∀ v1 w1, u8.R e w1 base (fun _ => True) v1 (xs ++ ys) → Below base W w1 → W.grownBy w1 v.ownBlock → (v1.ownBlock = v.ownBlock ∨ ∃ b, v1.ownBlock = some b ∧ W.heap.size ≤ b) → wpList P ops Q rest (a.put o.dst v1) w1) :
    wpList P ops Q (o :: rest) a W :=
  Kd.R_append_row encB 0 (w0 := W) base hgd s x t e (.int .u8 0) 1 ho ht hinfo rfl (by decide) v xs ys A m c (fun _ => True) hs hx (fun _ _ => trivial) HO HR (Below.refl _ _) hbase (by omega) h
end
/-- Whose own row lies from base on: what is written to it leaves what was below. -/
theorem R_base {α : Type} {d : Kd α} {e : Nat} {w : World} {base : Nat} {ok : Nat → Prop} {v : Value} {l : List α} (h : d.R e w base ok v l) : ∀ k, v.ownBlock = some k → base ≤ k := by
  obtain ⟨inner, ho⟩ := Kd.R_own h
  exact own_base ho
theorem below_grew {α : Type} {d : Kd α} {e : Nat} {w0 w w1 : World} {base : Nat} {ok : Nat → Prop} {v : Value} {l : List α} (hb : Below base w0 w) (h : d.R e w base ok v l) (hg : w.grownBy w1 v.ownBlock) (hs : base ≤ w.heap.size) : Below base w0 w1 :=
  hb.grown hg hs (R_base h)
/-- Cuts of a slice that is read: the operation's run, and what the cut reads as. -/
theorem sl_drop {α : Type} {P : Program} (d : Kd α) (t e : TypeId) {sz by_ : Nat} {z : Option Value} (kl : IntKind) (ht : P.underlying t = some (.slice e)) (hinfo : (P.info? e).map (fun i => (i.zero, i.size, i.bytes)) = some (z, sz, by_)) (hsz : sz = d.sz) (A : Option Addr) (xs : List α) (c : Nat) (m : Int) (h0 : 0 ≤ m) (hm : m ≤ xs.length) (hc : xs.length ≤ c) :
    ∃ A' c', (∀ W : World, (Instr.slice t (.slice A xs.length c) (some (.int kl m)) none none).run P W = .ok (.slice A' (xs.drop m.toNat).length c') W) ∧ (xs.drop m.toNat).length ≤ c' ∧ ∀ W, d.C W A xs.length xs → d.C W A' (xs.drop m.toNat).length (xs.drop m.toNat) := by
  obtain ⟨i0, hi, hzz⟩ := Option.map_eq_some_iff.1 hinfo
  simp only [Prod.mk.injEq] at hzz
  obtain ⟨m, rfl⟩ := Int.eq_ofNat_of_zero_le h0
  simp only [Int.toNat_natCast]
  refine ⟨_, c - m, fun W => ?_, by rw [List.length_drop]; omega, fun W h => Kd.C_drop h (by omega) hc⟩
  have := cut_from t e kl ht hi d.sz (hzz.2.1.trans hsz) A xs.length c (m : Int) (by omega) (by omega) W
  rw [this]; simp
theorem sl_take {α : Type} {P : Program} (d : Kd α) (t e : TypeId) {sz by_ : Nat} {z : Option Value} (kl : IntKind) (ht : P.underlying t = some (.slice e)) (hinfo : (P.info? e).map (fun i => (i.zero, i.size, i.bytes)) = some (z, sz, by_)) (hsz : sz = d.sz) (A : Option Addr) (xs : List α) (c : Nat) (m : Int) (h0 : 0 ≤ m) (hm : m ≤ xs.length) (hc : xs.length ≤ c) :
    (∀ W : World, (Instr.slice t (.slice A xs.length c) none (some (.int kl m)) none).run P W = .ok (.slice A (xs.take m.toNat).length c) W) ∧ (xs.take m.toNat).length ≤ c ∧ ∀ W, d.C W A xs.length xs → d.C W A (xs.take m.toNat).length (xs.take m.toNat) := by
  obtain ⟨i0, hi, hzz⟩ := Option.map_eq_some_iff.1 hinfo
  obtain ⟨m, rfl⟩ := Int.eq_ofNat_of_zero_le h0
  simp only [Int.toNat_natCast]
  refine ⟨fun W => ?_, by rw [List.length_take]; omega, fun W h => Kd.C_take h (by omega)⟩
  have := cut_to t e kl ht hi A xs.length c (m : Int) (by omega) (by omega) hc W
  rw [this]; simp; omega
theorem sl_mid {α : Type} {P : Program} (d : Kd α) (t e : TypeId) {sz by_ : Nat} {z : Option Value} (kl kh : IntKind) (ht : P.underlying t = some (.slice e)) (hinfo : (P.info? e).map (fun i => (i.zero, i.size, i.bytes)) = some (z, sz, by_)) (hsz : sz = d.sz) (A : Option Addr) (xs : List α) (c : Nat) (lo hi : Int) (h0 : 0 ≤ lo) (h1 : lo ≤ hi) (hm : hi ≤ xs.length) (hc : xs.length ≤ c) :
    ∃ A' c', (∀ W : World, (Instr.slice t (.slice A xs.length c) (some (.int kl lo)) (some (.int kh hi)) none).run P W = .ok (.slice A' ((xs.take hi.toNat).drop lo.toNat).length c') W) ∧ ((xs.take hi.toNat).drop lo.toNat).length ≤ c' ∧ ∀ W, d.C W A xs.length xs → d.C W A' ((xs.take hi.toNat).drop lo.toNat).length ((xs.take hi.toNat).drop lo.toNat) := by
  obtain ⟨i0, hi0, hzz⟩ := Option.map_eq_some_iff.1 hinfo
  simp only [Prod.mk.injEq] at hzz
  obtain ⟨lo, rfl⟩ := Int.eq_ofNat_of_zero_le h0
  obtain ⟨hi, rfl⟩ := Int.eq_ofNat_of_zero_le (Int.le_trans h0 h1)
  simp only [Int.toNat_natCast]
  refine ⟨_, c - lo, fun W => ?_, by rw [List.length_drop, List.length_take]; omega, fun W h => Kd.C_mid h (by omega) (by omega) hc⟩
  have := cut_mid t e kl kh ht hi0 d.sz (hzz.2.1.trans hsz) A xs.length c (lo : Int) (hi : Int) (by omega) h1 hm hc W
  rw [this]; simp; omega
/-- []byte{}: a row of nothing. -/
theorem R_empty {α : Type} (d : Kd α) (e : Nat) (w : World) : d.R e (w.alloc (.cells #[] e)) w.heap.size (fun _ => True) (.slice (some ⟨w.heap.size, 0, none⟩) 0 0) [] :=
  ⟨fun _ _ => trivial, [], ⟨by simp, .inr ⟨w.heap.size, 0, #[], rfl, Nat.le_refl _, heap_alloc_new w _, Nat.le_refl _, by simp [maxLen], by simp, by simp⟩⟩, Reps.none _ _⟩
/-- What '^x' meets in the model. -/
theorem u32_all : (if IntKind.u32.signed = true then (-1 : Int) else IntKind.u32.max) = 4294967295 := by rfl
theorem info_u8 : (Tryd.prog.info? 5).map (fun i => (i.zero, i.size, i.bytes)) = some (some (.int .u8 0), 1, 1) := by kernel_rfl
theorem grown_alloc {w w1 : World} {o : Obj} {row : Option Nat} (h : (w.alloc o).grownBy w1 row) : w.grownBy w1 row := World.grownBy.trans (World.grownBy_alloc w o row) h
theorem u8_R_len {e : Nat} {w : World} {base : Nat} {ok : Nat → Prop} {v : Value} {l : List UInt8} (h : u8.R e w base ok v l) : ∃ A c, v = .slice A l.length c ∧ l.length ≤ c ∧ u8.C w A l.length l := Kd.R_reads h
end Go.Proofs.YthacnbbijmgjfaaDoor.Lib0

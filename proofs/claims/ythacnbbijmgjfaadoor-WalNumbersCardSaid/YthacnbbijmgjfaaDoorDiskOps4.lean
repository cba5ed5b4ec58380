/- What the disk's functions do: Turn, Append. -/
import Derived.Test.YthacnbbijmgjfaaDoorDiskOps3
set_option linter.unusedVariables false
set_option linter.unusedSimpArgs false
namespace Go.Proofs.YthacnbbijmgjfaaDoor.Lib0
open Go.RowKit Go.Proofs.YthacnbbijmgjfaaDoorW.PrintWords Go.ChangeMaps

theorem u8_inner {l : List UInt8} {inner : List Value} {w : World} {base : Nat} {ok : Nat → Prop} (h : Reps (u8.M w base ok) u8.sz l inner) : inner = l.map encB := by
  have hl : inner.length = l.length := by have := h.1; simpa [u8, Kd.scalar] using this
  refine List.ext_getElem (by simpa using hl) (fun i h1 h2 => ?_)
  have h3 : i < l.length := by omega
  have := h.2 i _ (List.getElem?_eq_getElem h3)
  have h4 : ((inner.drop (i * u8.sz)).take u8.sz) = [encB l[i]] := this
  have h5 : i * u8.sz = i := by show i * 1 = i; omega
  rw [h5, show u8.sz = 1 from rfl] at h4
  have h6 := congrArg (fun x : List Value => x[0]?) h4
  simp only [List.getElem?_take, List.getElem?_drop] at h6
  simp at h6
  rw [List.getElem?_eq_getElem h1] at h6
  simp at h6
  simpa using h6
theorem u8_R_iff {e : Nat} {w : World} {base : Nat} {v : Value} {l : List UInt8} : u8.R e w base (fun _ => True) v l ↔ w.ownsRow base e 1 v l.length (l.map encB) := by
  constructor
  · rintro ⟨_, inner, ho, hr⟩
    rw [u8_inner hr] at ho
    exact ho
  · intro h
    refine ⟨fun _ _ => trivial, _, h, ?_⟩
    refine ⟨by simp [u8, Kd.scalar], fun j p hp => ?_⟩
    show ((l.map encB).drop (j * 1)).take 1 = [encB p]
    rw [Nat.mul_one]
    have hj := (List.getElem?_eq_some_iff.1 hp).1
    rw [List.drop_eq_getElem_cons (by simpa using hj)]
    have := (List.getElem?_eq_some_iff.1 hp).2
    simp [this]
/-- A byte of an own row is stored. -/
theorem u8_R_set {e : Nat} {w : World} {base g n c : Nat} {l : List UInt8} (h : u8.R e w base (fun _ => True) (.slice (some ⟨g, 0, none⟩) n c) l) (i : Nat) (hi : i < l.length) (x : UInt8) :
    u8.R e (w.setCell ⟨g, i, none⟩ (encB x)) base (fun _ => True) (.slice (some ⟨g, 0, none⟩) n c) (l.set i x) := by
  rw [u8_R_iff] at h ⊢
  obtain ⟨h1, h2⟩ := h
  rcases h2 with ⟨h2, _⟩ | ⟨g', cap, cur, hv, hb, hh, r1, r2, r3, r4⟩
  · cases h2
  · simp only [Value.slice.injEq, Option.some.injEq, Addr.mk.injEq, and_true] at hv
    obtain ⟨rfl, rfl, rfl⟩ := hv
    refine ⟨by simp, .inr ⟨g, c, cur.setIfInBounds i (encB x), by simp, hb, heap_at_setCell hh, by simpa using r1, r2, by simpa using r3, ?_⟩⟩
    simp only [List.length_set, Nat.mul_one] at r4 ⊢
    rw [Array.toList_setIfInBounds, List.take_set, r4, List.map_set]
theorem u8_row_open {e : Nat} {w : World} {base : Nat} {v : Value} {l : List UInt8} (h : u8.R e w base (fun _ => True) v l) (hn : 0 < l.length) : ∃ g c, v = .slice (some ⟨g, 0, none⟩) l.length c ∧ base ≤ g ∧ l.length ≤ c ∧ ∃ cur, w.heap[g]? = some (.cells cur e (0, 0)) ∧ ∀ i (hi : i < l.length), cur[i]? = some (encB l[i]) := by
  obtain ⟨h1, h2⟩ := u8_R_iff.1 h
  rcases h2 with ⟨_, h2⟩ | ⟨g, cap, cur, hv, hb, hh, r1, r2, r3, r4⟩
  · omega
  · refine ⟨g, cap, hv, hb, r1, cur, hh, fun i hi => ?_⟩
    have : (cur.toList.take (l.length * 1))[i]? = (l.map encB)[i]? := by rw [r4]
    rw [List.getElem?_take_of_lt (by omega)] at this
    rw [← Array.getElem?_toList, this]
    simp [hi]
theorem xor_u8 (a b : UInt8) : Go.bits .xor .u8 (a.toNat : Int) (b.toNat : Int) = ((a ^^^ b).toNat : Int) := by
  have ha := a.toNat_lt
  have hb := b.toNat_lt
  unfold Go.bits
  simp only [IntKind.wrap_u8]
  show (((BitVec.ofInt 8 (a.toNat : Int) ^^^ BitVec.ofInt 8 (b.toNat : Int)).toNat : Nat) : Int) % 256 = _
  rw [BitVec.ofInt_natCast, BitVec.ofInt_natCast, BitVec.toNat_xor, BitVec.toNat_ofNat, BitVec.toNat_ofNat, Nat.mod_eq_of_lt ha, Nat.mod_eq_of_lt hb, UInt8.toNat_xor]
  have : a.toNat ^^^ b.toNat < 2 ^ 8 := Nat.xor_lt_two_pow ha hb
  omega

/-- What Turn tells, and what it makes of a disk. -/
def turnOk (D : ADisk) (s : Name) (i : Int) : Bool := match assoc D.dir s with | some f => decide (0 ≤ i ∧ i < (D.file f).b.length) | none => false
def turnB (b : List UInt8) (i : Nat) (x : UInt8) : List UInt8 := b.set i (b.getD i 0 ^^^ x)
def turnD (D : ADisk) (s : Name) (i : Int) (x : UInt8) : ADisk := match assoc D.dir s with
  | some f => if 0 ≤ i ∧ i < (D.file f).b.length then { D with file := updN D.file f ⟨turnB (D.file f).b i.toNat x, (D.file f).safe⟩ } else D
  | none => D
set_option maxHeartbeats 1600000 in
set_option maxRecDepth 100000 in
theorem disk_Turn {w : World} {base d : Nat} {L : Lay} {D : ADisk} (h : DiskAt w base d L D) (s : Name) (i : Int) (x : UInt8) :
    Calls Tryd.prog 28 #[dptr d, .string s, .int .i64 i, .int .u8 (x.toNat : Int)] w (DPost w base d L D (.bool (turnOk D s i)) (turnD D s i x)) := by
  have hc0 := h.c0
  have hlook := run_lookup_dir (P := Tryd.prog) Tryd.underlying63 Tryd.underlying9 zero_ptr h.dir s
  have H := Aside0.mk h
  unfold dptr
  cases ha : assoc D.dir s with
  | none =>
    have e1 : turnOk D s i = false := by simp [turnOk, ha]
    have HX := Aside0.mk (show turnD D s i x = D by simp [turnD, ha])
    rw [ha] at hlook
    rw [e1]
    rw [show optp none = Value.pointer none from rfl] at hlook
    clear h ha e1
    go_enter Tryd.func28, Tryd.ntmps28
    go_wp2
    go_ret
    exact ⟨L, rfl, by rw [HX.out]; exact DStep.refl H.out⟩
  | some f =>
    have hl : live D f := .inl (List.mem_map.2 ⟨_, assoc_mem ha, rfl⟩)
    rw [ha] at hlook
    rw [show optp (some f) = Value.pointer (some ⟨f, 0, none⟩) from rfl] at hlook
    have hff := h.fil f hl
    have hbig := h.ok.big f hl
    by_cases hi : 0 ≤ i ∧ i < (D.file f).b.length
    · have e1 : turnOk D s i = true := by simp [turnOk, ha, hi]
      have HX := Aside0.mk (show turnD D s i x = { D with file := updN D.file f ⟨turnB (D.file f).b i.toNat x, (D.file f).safe⟩ } by simp [turnD, ha, hi])
      rw [e1]
      obtain ⟨hi0, hi1⟩ := hi
      obtain ⟨i, rfl⟩ := Int.eq_ofNat_of_zero_le hi0
      have hi2 : i < (D.file f).b.length := by omega
      obtain ⟨g, c, hv, hbg, hle, cur, hg, hcur⟩ := u8_row_open hff.2.2 (by omega)
      have hcell : w.cell? ⟨f, 0, none⟩ = some (.slice (some ⟨g, 0, none⟩) (D.file f).b.length c) := by rw [← hv]; exact cell_of_heap hff.2.1 rfl
      have hcb : w.cell? ⟨g, i, none⟩ = some (.int .u8 (((D.file f).b[i]).toNat : Int)) := cell_of_heap hg (hcur i hi2)
      have hfr : w.frozen? ⟨g, i, none⟩ = false := frozen_of_heap hg
      have hlen : (D.file f).b.length ≤ 9223372036854775807 := by omega
      have HXOR := Aside0.mk (xor_u8 (D.file f).b[i] x)
      have hx0 : (0 : Int) ≤ x.toNat := by omega
      have hx1 : (x.toNat : Int) < 256 := by have := x.toNat_lt; omega
      have HFF := Aside0.mk hff
      have HV := Aside0.mk hv
      have HG := Aside0.mk hg
      have HL := Aside0.mk hl
      have HB := Aside0.mk hbig
      have HGB := Aside0.mk (show turnB (D.file f).b i x = (D.file f).b.set i ((D.file f).b[i] ^^^ x) by unfold turnB; rw [List.getD_eq_getElem?_getD, List.getElem?_eq_getElem hi2]; rfl)
      generalize hy : (D.file f).b[i] = y at *
      have hy0 : (0 : Int) ≤ y.toNat := by omega
      have hy1 : (y.toNat : Int) < 256 := by have := y.toNat_lt; omega
      clear h ha e1 hff hbig hv hg hcur hl hy hi0 hi1
      go_enter Tryd.func28, Tryd.ntmps28
      go_wp2
      go_ret
      refine ⟨{ L with row := updN L.row f (L.row f) }, rfl, ?_⟩
      rw [HX.out, Int.toNat_natCast, HXOR.out]
      refine H.out.set_file (v' := L.row f) (x' := ⟨turnB (D.file f).b i x, (D.file f).safe⟩) HL.out ((Keep.of_set w ⟨g, i, none⟩ _).mono (fun k hk => .inl (.inr (by rw [HV.out]; simp only [Value.ownBlock]; rw [hk])))) ?_ ?_ (.inl rfl) ?_ ?_
      · rw [Below.heap_setCell _ _ _ _ (fun e => ne_of_types HFF.out.2.1 HG.out (by decide) e)]
        exact HFF.out.2.1
      · simp only
        rw [HGB.out, HV.out]
        have h2 := HFF.out.2.2
        rw [HV.out] at h2
        exact u8_R_set h2 i hi2 _
      · simp [turnB]; exact HB.out.1
      · simp [turnB]; exact HB.out.2
    · have e1 : turnOk D s i = false := by simp [turnOk, ha]; omega
      have HX := Aside0.mk (show turnD D s i x = D by simp [turnD, ha, hi])
      rw [e1]
      obtain ⟨A, c, hv, hle, hC⟩ := Kd.R_reads hff.2.2
      have hcell : w.cell? ⟨f, 0, none⟩ = some (.slice A (D.file f).b.length c) := by rw [← hv]; exact cell_of_heap hff.2.1 rfl
      clear h ha e1 hff hbig hv hle hC hl
      by_cases h0 : i < 0
      · clear hi
        go_enter Tryd.func28, Tryd.ntmps28
        go_wp2
        go_ret
        exact ⟨L, rfl, by rw [HX.out]; exact DStep.refl H.out⟩
      · have h1 : ((D.file f).b.length : Int) ≤ i := by omega
        have h2 : 0 ≤ i := by omega
        clear hi h0
        go_enter Tryd.func28, Tryd.ntmps28
        go_wp2
        go_ret
        exact ⟨L, rfl, by rw [HX.out]; exact DStep.refl H.out⟩
end Go.Proofs.YthacnbbijmgjfaaDoor.Lib0

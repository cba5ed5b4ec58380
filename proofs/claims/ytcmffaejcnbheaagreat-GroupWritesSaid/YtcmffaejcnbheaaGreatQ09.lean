import Derived.Test.YtcmffaejcnbheaaGreatQ08
import Derived.Laws.Cover1
set_option linter.unusedVariables false
set_option linter.unusedSimpArgs false
namespace Go.Proofs.YtcmffaejcnbheaaGreat.Lib0
open Go.RowKit Go.Proofs.YtcmffaejcnbheaaGreatW.PrintWords Go.ChangeMaps
set_option maxHeartbeats 1600000 in
set_option maxRecDepth 100000 in
theorem bytes_Equal (A B : Option Addr) (ca cb : Nat) (xs ys : List UInt8) (w : World) (ha : u8.C w A xs.length xs) (hb : u8.C w B ys.length ys) :
  Calls Tryz.prog 40 #[.slice A xs.length ca, .slice B ys.length cb] w fun e w' => e = .returned (.bool (decide (xs = ys))) ∧ w = w' := by
 have h1 := u8_string (P := Tryz.prog) (c := ca) Tryz.underlying24 Tryz.underlying5 Tryz.underlying9 ha
 have h2 := u8_string (P := Tryz.prog) (c := cb) Tryz.underlying24 Tryz.underlying5 Tryz.underlying9 hb
 by_cases he : xs = ys
 ·subst he
  rw [decide_eq_true rfl]
  have hbb : ((str xs).toList == (str xs).toList) = true := by simp
  clear ha hb
  go_enter Tryz.func40, Tryz.ntmps40
  go_wp2
  go_ret
  exact ⟨rfl, rfl⟩
 ·rw [decide_eq_false he]
  have hbb : ((str xs).toList == (str ys).toList) = false := by
   rw [beq_eq_false_iff_ne]
   exact fun h => he (str_inj (toList_inj h))
  clear ha hb he
  go_enter Tryz.func40, Tryz.ntmps40
  go_wp2
  go_ret
  exact ⟨rfl, rfl⟩
def lessS (a b : ByteArray) : Bool := Op.bytesLess a.toList b.toList
def risesS : List ByteArray → Bool
 | a :: b :: t => lessS a b && risesS (b :: t)
 | _ => true
theorem risesS_true : ∀ (d : List ByteArray), (∀ i (h : i + 1 < d.length), lessS d[i] d[i + 1] = true) → risesS d = true
 | [], _ => rfl
 | [_], _ => rfl
 | a :: b :: t, h => by
  have h0 := h 0 (by simp)
  simp only [List.getElem_cons_zero, List.getElem_cons_succ] at h0
  rw [risesS, h0, Bool.true_and]
  exact risesS_true (b :: t) (fun i hi => by have := h (i + 1) (by simp at hi ⊢; omega); simpa using this)
theorem risesS_false : ∀ (d : List ByteArray) (i : Nat) (h : i + 1 < d.length), lessS d[i] d[i + 1] = false → risesS d = false
 | [], i, h, _ => by simp at h
 | [_], i, h, _ => by simp at h
 | a :: b :: t, 0, h, hf => by
  simp only [List.getElem_cons_zero, List.getElem_cons_succ] at hf
  rw [risesS, hf, Bool.false_and]
 | a :: b :: t, i + 1, h, hf => by
  have := risesS_false (b :: t) i (by simp at h ⊢; omega) (by simpa using hf)
  rw [risesS, this, Bool.and_false]
set_option maxHeartbeats 3200000 in
set_option maxRecDepth 100000 in
theorem dict_rising (A : Option Addr) (c : Nat) (d : List ByteArray) (w : World) (h : Kd.string.C w A d.length d) :
  Calls Tryz.prog 157 #[.slice A d.length c] w fun e w' => e = .returned (.bool (risesS d)) ∧ Below w.heap.size w w' := by
 have HC := Aside0.mk h
 have hl63 := h.2.1
 clear h
 obtain ⟨r, hr⟩ : ∃ r, r = risesS d := ⟨_, rfl⟩
 rw [← hr]
 have HRR := Aside0.mk hr
 clear hr
 go_enter Tryz.func157, Tryz.ntmps157
 go_wp2_with fail
 go_loopw [3] (fun v3 wr => ∃ (k : Nat), 1 ≤ k ∧ (k ≤ d.length ∨ d.length = 0) ∧ v3 = .int .i64 k ∧ Aside0 (∀ i (h : i + 1 < d.length), i + 1 < k → lessS d[i] d[i + 1] = true) ∧ Aside0 (Below w.heap.size w wr)) (fun i _ => d.length - (intOf i).toNat)
 case atStart => exact ⟨1, by omega, by omega, rfl, ⟨fun i h1 h2 => by omega⟩, ⟨Below.refl _ _⟩⟩
 case round =>
  obtain ⟨k, hk1, hk, rfl, HA, HB⟩ := hrel
  by_cases hlt : k < d.length
  ·obtain ⟨b, o, rfl, hx⟩ := str_open (Kd.C_below HC.out HB.out) (by omega)
   obtain ⟨j, rfl⟩ : ∃ j, k = j + 1 := ⟨k - 1, by omega⟩
   have hx1 := hx j (by omega)
   have hx2 := hx (j + 1) hlt
   have hlt2 : ((j + 1 : Nat) : Int) < d.length := by omega
   have hjw : IntKind.i64.wrap (((j + 1 : Nat) : Int) - 1) = (j : Int) := by rw [IntWalk.i64_in _ (by omega)]; omega
   have hjw2 : wrap64 (((j + 1 : Nat) : Int) - 1) = (j : Int) := by unfold wrap64; omega
   have hjw3 : ((j + 1 : Nat) : Int) - 1 = (j : Int) := by omega
   have hjl : (j : Int) < d.length := by omega
   have hjw4 : IntKind.i64.wrap (j : Int) = (j : Int) := IntWalk.i64_in _ (by omega)
   have hlt3 : (j : Int) + 1 < d.length := by omega
   have hge3 : (0 : Int) ≤ (j : Int) + 1 := by omega
   have hto3 : ((j : Int) + 1).toNat = j + 1 := by omega
   have hj63 : (j : Int) + 1 < 9223372036854775807 := by omega
   clear hx
   cases hv : lessS d[j] d[j + 1]
   ·have HS := Aside0.mk (show r = false by rw [HRR.out]; exact risesS_false d j hlt hv)
    unfold lessS at hv
    generalize d[j] = x at *
    generalize d[j + 1] = y at *
    have hv2 : (!Op.bytesLess x.toList y.toList) = true := by rw [hv]; rfl
    go_wp2_with fail
    go_quiet (fail)
    have HB2 := Aside0.mk (HB.out.trans ((Drawn0.below (Drawn0.step (Drawn0.refl wr) nq)).mono HB.out.size))
    generalize wr.drewN nq = w2 at *
    go_wp2
    go_ret
    exact ⟨by rw [HS.out]; rfl, HB2.out⟩
   ·have HA2 := Aside0.mk (show ∀ i (h : i + 1 < d.length), i + 1 < j + 1 + 1 → lessS d[i] d[i + 1] = true from fun i h1 h2 => by
     by_cases hij : i = j
     ·subst hij; exact hv
     ·exact HA.out i h1 (by omega))
    unfold lessS at hv
    obtain ⟨x, hxx⟩ : ∃ x, x = d[j] := ⟨_, rfl⟩
    obtain ⟨y, hyy⟩ : ∃ y, y = d[j + 1] := ⟨_, rfl⟩
    rw [← hxx] at hv hx1
    rw [← hyy] at hv hx2
    clear hxx hyy
    have hv2 : (!Op.bytesLess x.toList y.toList) = false := by rw [hv]; rfl
    go_wp2_with fail
    go_quiet (fail)
    have HB2 := Aside0.mk (HB.out.trans ((Drawn0.below (Drawn0.step (Drawn0.refl wr) nq)).mono HB.out.size))
    generalize wr.drewN nq = w2 at *
    go_wp2
    go_roundw
    case rel => exact ⟨j + 1 + 1, by omega, by omega, by go_num, HA2, HB2⟩
    case measure => simp [intOf]; omega
  ·have HS := Aside0.mk (show r = true by rw [HRR.out]; exact risesS_true d (fun i h => HA.out i h (by omega)))
   have hlt2 : ¬ (k : Int) < d.length := by omega
   go_wp2
   go_ret
   exact ⟨by rw [HS.out]; rfl, HB.out⟩
end Go.Proofs.YtcmffaejcnbheaaGreat.Lib0
namespace Go.Proofs.YtcmffaejcnbheaaGreat.Lib0
open Go.RowKit Go.Proofs.YtcmffaejcnbheaaGreatW.PrintWords Go.ChangeMaps
def letterB (b : UInt8) : Bool := !(decide (b.toNat < 97) || decide (122 < b.toNat))
def nameB (s : ByteArray) : Bool := decide (0 < s.size) && decide (s.size ≤ 12) && (byt s).all letterB
set_option maxHeartbeats 1600000 in
set_option maxRecDepth 100000 in
theorem row_Name (s : ByteArray) (w : World) :
  Calls Tryz.prog 95 #[.string s] w fun e w' => e = .returned (.bool (nameB s)) ∧ w = w' := by
 obtain ⟨r, hr⟩ : ∃ r, r = nameB s := ⟨_, rfl⟩
 rw [← hr]
 have HR := Aside0.mk hr
 clear hr
 by_cases h0 : s.size = 0
 ·have he : s.toList.isEmpty = true := by rw [List.isEmpty_iff, ByteArray.toList_eq]; exact List.eq_nil_of_length_eq_zero h0
  have HS := Aside0.mk (show r = false by rw [HR.out, nameB, h0]; rfl)
  go_enter Tryz.func95, Tryz.ntmps95
  go_wp2
  go_ret
  exact ⟨by rw [HS.out]; rfl, rfl⟩
 ·have he : s.toList.isEmpty = false := by rw [← Bool.not_eq_true, List.isEmpty_iff, ByteArray.toList_eq]; exact fun h => h0 (by have := congrArg List.length h; simpa using this)
  by_cases h12 : 12 < s.size
  ·have h12i : (12 : Int) < s.size := by omega
   have HS := Aside0.mk (show r = false by rw [HR.out, nameB, decide_eq_false (show ¬ s.size ≤ 12 by omega), Bool.and_false, Bool.false_and])
   go_enter Tryz.func95, Tryz.ntmps95
   go_wp2
   go_ret
   exact ⟨by rw [HS.out]; rfl, rfl⟩
  ·have h12i : ¬ (12 : Int) < s.size := by omega
   go_enter Tryz.func95, Tryz.ntmps95
   go_wp2_with fail
   go_loopw [13] (fun v13 wr => ∃ (k : Nat), k ≤ s.size ∧ v13 = .int .i64 k ∧ Aside0 (∀ i (h : i < (byt s).length), i < k → letterB (byt s)[i] = true) ∧ wr = w) (fun i _ => s.size - (intOf i).toNat)
   case atStart => exact ⟨0, by omega, rfl, ⟨fun i h1 h2 => by omega⟩, rfl⟩
   case round =>
    obtain ⟨k, hk, rfl, HA, rfl⟩ := hrel
    by_cases hlt : k < s.size
    ·have hlt2 : (k : Int) < s.size := by omega
     have hkb : k < (byt s).length := by rw [byt_length]; exact hlt
     have hgy : (byt s)[k] = s[k] := by simp [byt]; rfl
     have HALL := Aside0.mk (show letterB s[k] = false → r = false from fun hf => by
      rw [HR.out, nameB]
      have : (byt s).all letterB = false := by
       rw [List.all_eq_false]
       exact ⟨(byt s)[k], List.getElem_mem hkb, by rw [hgy, hf]; simp⟩
      rw [this, Bool.and_false])
     have HNX := Aside0.mk (show letterB s[k] = true → ∀ i (h : i < (byt s).length), i < k + 1 → letterB (byt s)[i] = true from fun ht i h1 h2 => by
      by_cases hik : i = k
      ·subst hik; rw [hgy]; exact ht
      ·exact HA.out i h1 (by omega))
     clear hgy
     rcases (show s[k].toNat < 97 ∨ 122 < s[k].toNat ∨ (¬ s[k].toNat < 97 ∧ ¬ 122 < s[k].toNat) by omega) with h1 | h1 | ⟨h1, h2⟩
     ·have h1i : (s[k].toNat : Int) < 97 := by omega
      have HS := Aside0.mk (HALL.out (by unfold letterB; rw [decide_eq_true h1]; rfl))
      go_wp2
      go_ret
      exact ⟨by rw [HS.out]; rfl, rfl⟩
     ·have h1i : (122 : Int) < (s[k].toNat : Int) := by omega
      have h2i : ¬ (s[k].toNat : Int) < 97 := by omega
      have HS := Aside0.mk (HALL.out (by unfold letterB; rw [decide_eq_true h1, Bool.or_true]; rfl))
      go_wp2
      go_ret
      exact ⟨by rw [HS.out]; rfl, rfl⟩
     ·have h1i : ¬ (s[k].toNat : Int) < 97 := by omega
      have h2i : ¬ (122 : Int) < (s[k].toNat : Int) := by omega
      have HS := Aside0.mk (HNX.out (by unfold letterB; rw [decide_eq_false h1, decide_eq_false h2]; rfl))
      go_wp2
      go_roundw
      case rel => exact ⟨k + 1, by omega, by go_num, HS, by first | rfl | trivial⟩
      case measure => simp [intOf]; omega
    ·obtain rfl : k = s.size := by omega
     have HS := Aside0.mk (show r = true by
      rw [HR.out, nameB, decide_eq_true (show 0 < s.size by omega), decide_eq_true (show s.size ≤ 12 by omega), Bool.and_self, Bool.true_and, List.all_eq_true]
      intro x hx
      obtain ⟨i, hi, rfl⟩ := List.mem_iff_getElem.1 hx
      exact HA.out i hi (by rw [byt_length] at hi; exact hi))
     go_wp2
     go_ret
     exact ⟨by rw [HS.out]; rfl, rfl⟩
end Go.Proofs.YtcmffaejcnbheaaGreat.Lib0
namespace Go.Proofs.YtcmffaejcnbheaaGreat.Lib0
open Go.RowKit Go.Proofs.YtcmffaejcnbheaaGreatW.PrintWords Go.ChangeMaps
structure CellM where
 col : ByteArray
 kind : Int
 n : Int
 s : ByteArray
def CellM.cells (c : CellM) : List Value := [.string c.col, .int .i64 c.kind, .int .i64 c.n, .string c.s]
def fineB (c : CellM) : Bool :=
 if c.kind = 1 then nameB c.col && decide (c.s.size = 0)
 else if c.kind = 2 then nameB c.col && (decide (c.n = 0) && decide (c.s.size ≤ 40))
 else false
theorem empty_size (s : ByteArray) : s.toList.isEmpty = decide (s.size = 0) := by
 by_cases h : s.size = 0
 ·rw [decide_eq_true h, List.isEmpty_iff, ByteArray.toList_eq]
  exact List.eq_nil_of_length_eq_zero h
 ·rw [decide_eq_false h, ← Bool.not_eq_true, List.isEmpty_iff, ByteArray.toList_eq]
  exact fun h2 => h (by have := congrArg List.length h2; simpa using this)
end Go.Proofs.YtcmffaejcnbheaaGreat.Lib0
namespace Go.Proofs.YtcmffaejcnbheaaGreat.Lib0
open Go.RowKit Go.Proofs.YtcmffaejcnbheaaGreatW.PrintWords Go.ChangeMaps
def kc : Kd CellM := Kd.iso (Kd.pair Kd.string (Kd.pair (Kd.int .i64) (Kd.pair (Kd.int .i64) Kd.string))) (fun c => (c.col, c.kind, c.n, c.s))
theorem kc_M {w : World} {base : Nat} {ok : Nat → Prop} (c : CellM) : kc.M w base ok c c.cells :=
 ⟨[.string c.col], [.int .i64 c.kind, .int .i64 c.n, .string c.s], rfl, rfl, [.int .i64 c.kind], [.int .i64 c.n, .string c.s], rfl, rfl, [.int .i64 c.n], [.string c.s], rfl, rfl, rfl⟩
theorem kc_K {w : World} {c : CellM} {cs : List Value} (h : kc.K w c cs) : cs = c.cells := by
 obtain ⟨a, b, rfl, rfl, a', b', rfl, rfl, a'', b'', rfl, rfl, rfl⟩ := h
 rfl
theorem kc_open {w : World} {A : Option Addr} {n : Nat} {l : List CellM} (h : kc.C w A n l) (hn : 0 < l.length) :
  ∃ b o, A = some ⟨b, o, none⟩ ∧ ∀ k (hk : k < l.length), w.cell? ⟨b, o + k * 4, none⟩ = some (.string l[k].col) ∧ w.cell? ⟨b, o + k * 4 + 1, none⟩ = some (.int .i64 l[k].kind) ∧ w.cell? ⟨b, o + k * 4 + 2, none⟩ = some (.int .i64 l[k].n) ∧ w.cell? ⟨b, o + k * 4 + 3, none⟩ = some (.string l[k].s) := by
 obtain ⟨ad, rfl, hc⟩ := h.2.2 (by have := h.1; omega)
 have hx : ∀ k (hk : k < l.length) i u, l[k].cells[i]? = some u → w.cell? (ad.add (k * 4 + i)) = some u := fun k hk i u hu => by
  obtain ⟨c, hl, hk', hcell⟩ := hc k _ (List.getElem?_eq_getElem hk)
  have hk2 := kc_K hk'
  subst hk2
  exact hcell i u hu
 have hs : ad.spot = none := by
  have := hx 0 hn 0 _ rfl
  have e0 : ad.add (0 * 4 + 0) = ad := by simp [Addr.add]
  rw [e0] at this
  exact cell_plain this
 obtain ⟨b, o, sp⟩ := ad
 simp only at hs
 subst hs
 have e1 : ∀ k, (⟨b, o, none⟩ : Addr).add k = ⟨b, o + k, none⟩ := fun k => by unfold Addr.add; split <;> simp_all
 refine ⟨b, o, rfl, fun k hk => ⟨?_, ?_, ?_, ?_⟩⟩
 ·have := hx k hk 0 _ rfl
  rwa [e1, Nat.add_zero] at this
 ·have := hx k hk 1 _ rfl
  rwa [e1, ← Nat.add_assoc] at this
 ·have := hx k hk 2 _ rfl
  rwa [e1, ← Nat.add_assoc] at this
 ·have := hx k hk 3 _ rfl
  rwa [e1, ← Nat.add_assoc] at this
end Go.Proofs.YtcmffaejcnbheaaGreat.Lib0

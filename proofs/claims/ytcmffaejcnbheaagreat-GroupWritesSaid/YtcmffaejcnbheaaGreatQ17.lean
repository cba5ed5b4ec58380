import Derived.Test.YtcmffaejcnbheaaGreatQ16
set_option linter.unusedVariables false
set_option linter.unusedSimpArgs false
namespace Go.Proofs.YtcmffaejcnbheaaGreat.Lib0
open Go.RowKit Go.Proofs.YtcmffaejcnbheaaGreatW.PrintWords Go.ChangeMaps
theorem endA_ok {l : List UInt8} {a : Int} (h : (getA l a).2.2 = 0) : 0 ≤ endA a (getA l a) ∧ endA a (getA l a) ≤ l.length := by
 have := (getA_lt l a).2 h
 unfold endA
 rw [if_pos h]
 omega
theorem getT_ok {l : List UInt8} {a : Int} {m : Nat} (h : (getT l a m).2.2 = 0) : 0 ≤ (getT l a m).2.1 ∧ (getT l a m).2.1 ≤ l.length := by
 unfold getT at *
 split at h
 ·exact absurd h (by assumption)
 ·split at h
  ·cases h
  ·split at h
   ·cases h
   ·rename_i h1 h2 h3
    have := endA_ok (l := l) (a := a) (by simpa using h1)
    rw [if_neg h1, if_neg h2, if_neg h3]
    simp only
    omega
theorem decDL_ok (l : List UInt8) : ∀ (m : Nat) (a : Int) (out : List ByteArray), 0 ≤ a ∧ a ≤ l.length → (decDL l m a out).2.2 = 0 → (0 ≤ (decDL l m a out).2.1 ∧ (decDL l m a out).2.1 ≤ l.length) ∧ (decDL l m a out).1.length = out.length + m
 | 0, a, out, ha, _ => by simp [decDL, ha]
 | m + 1, a, out, ha, h => by
  rw [decDL] at *
  split at h
  ·exact absurd h (by assumption)
  ·rename_i h1
   rw [if_neg h1]
   have := decDL_ok l m _ (out ++ [str (getT l a 40).1]) (getT_ok (by simpa using h1)) h
   refine ⟨this.1, ?_⟩
   rw [this.2]; simp; omega
theorem dictR_ok {l : List UInt8} {a : Int} (h : (dictR l a).2.2 = 0) : (0 ≤ (dictR l a).2.1 ∧ (dictR l a).2.1 ≤ l.length) ∧ (dictR l a).1.length ≤ 16 := by
 unfold dictR at *
 split at h
 ·exact absurd h (by assumption)
 ·split at h
  ·cases h
  ·rename_i h1 h2
   rw [if_neg h1, if_neg h2]
   unfold dictE at *
   split at h
   ·exact absurd h (by assumption)
   ·split at h
    ·rename_i h3 h4
     rw [if_neg h3, if_pos h4]
     have := decDL_ok l (small (getA l a).1) (endA a (getA l a)) [] (endA_ok (by simpa using h1)) (by simpa using h3)
     refine ⟨this.1, ?_⟩
     rw [this.2]; simp; omega
    ·cases h
theorem dictR_len (l : List UInt8) (a : Int) : (dictR l a).1.length ≤ 16 := by
 by_cases h : (dictR l a).2.2 = 0
 ·exact (dictR_ok h).2
 ·unfold dictR at *
  split
  ·simp
  ·split
   ·simp
   ·rename_i h1 h2
    rw [if_neg h1, if_neg h2] at h
    unfold dictE at *
    split
    ·simp
    ·split
     ·rename_i h3 h4; rw [if_neg h3, if_pos h4] at h; exact absurd h h3
     ·simp
theorem CrAt.C_keep {α : Type} {enc : α → Value} {h1 : ∀ x, (enc x).oneCell' = true} {w w' : World} {A' : Option Addr} {n : Nat} {l' : List α} (hc : (Kd.scalar enc h1).C w A' n l') (hno : ∀ x, (∀ n, enc x ≠ .int .i64 n) ∧ (∀ a b d, enc x ≠ .slice a b d)) {rp : Nat} {A : Option Addr} {c : Nat} {l : List UInt8} {p why : Int} (h : CrAt w rp A c l p why) (hk : Keep1 rp w w') : (Kd.scalar enc h1).C w' A' n l' := by
 refine ⟨hc.1, hc.2.1, fun hn => ?_⟩
 obtain ⟨b, o, rfl, hx⟩ := sc_open hc (by have := hc.1; omega)
 have hx0 := hx 0 (by have := hc.1; omega)
 have hb : b ≠ rp := by
  rintro rfl
  exact h.no _ (hno _).1 (hno _).2 _ hx0
 have hlt := World.block_lt_of_cell? w _ hx0
 refine ⟨_, rfl, fun j p hp => ?_⟩
 obtain ⟨ad, e, hcc⟩ := hc.2.2 hn
 cases e
 obtain ⟨cs, hl, hkk, hcell⟩ := hcc j p hp
 refine ⟨cs, hl, hkk, fun q v hv => ?_⟩
 have := hcell q v hv
 rw [← this]
 exact World.cell?_of_block (by rw [add_block]; exact hk.block b hlt hb)
def codedR (l : List UInt8) (p : Int) (n : Nat) : List ByteArray × List Nat × Int × Int :=
 ((dictR l p).1, (numbersR l (dictR l p).2.1 (dictR l p).2.2 n (widthL [(dictR l p).1.length - 1])).1, (numbersR l (dictR l p).2.1 (dictR l p).2.2 n (widthL [(dictR l p).1.length - 1])).2.1, (numbersR l (dictR l p).2.1 (dictR l p).2.2 n (widthL [(dictR l p).1.length - 1])).2.2)
def CodedS (w : World) (rp : Nat) (A : Option Addr) (c : Nat) (l : List UInt8) (r : List ByteArray × List Nat × Int × Int) (e : Ending) (w' : World) : Prop :=
 ∃ A1 c1 A2 c2, e = .returned (.tuple #[.slice A1 r.1.length c1, .slice A2 r.2.1.length c2]) ∧ r.1.length ≤ c1 ∧ r.2.1.length ≤ c2 ∧ Kd.string.C w' A1 r.1.length r.1 ∧ kn.C w' A2 r.2.1.length r.2.1 ∧ CrAt w' rp A c l r.2.2.1 r.2.2.2 ∧ Keep1 rp w w'
set_option maxHeartbeats 1600000 in
set_option maxRecDepth 100000 in
theorem cr_coded {base : Nat} {w : World} {rp : Nat} {A : Option Addr} {c : Nat} {l : List UInt8} {p : Int} (h : CrAt w rp A c l p 0) (hC : ∀ W, Below base w W → u8.C W A l.length l) (hbr : base ≤ rp) (hc : l.length ≤ c) (hl : l.length ≤ 1073741824) (n : Nat) (hn : n ≤ 1048576) :
  Calls Tryz.prog 132 #[.pointer (some ⟨rp, 0, none⟩), .int .i64 n] w (CodedS w rp A c l (codedR l p n)) := by
 have H := Aside0.mk h
 have x0 := h.c0
 have x1 := h.c1
 have x2 := h.c2
 have f1 := h.fr 1
 have f2 := h.fr 2
 have HLR := Aside0.mk h.lt
 have HCW := Aside0.mk hC
 have HD := dict_Decode A c l p w.drew (hC _ (below_drew _ _)) hc (by omega)
 have HOK := Aside0.mk (dictR_ok (l := l) (a := p))
 have HLE := Aside0.mk (dictR_len l p)
 have HS : Aside0 (codedR l p n = ((dictR l p).1, (numbersR l (dictR l p).2.1 (dictR l p).2.2 n (widthL [(dictR l p).1.length - 1])).1, (numbersR l (dictR l p).2.1 (dictR l p).2.2 n (widthL [(dictR l p).1.length - 1])).2.1, (numbersR l (dictR l p).2.1 (dictR l p).2.2 n (widthL [(dictR l p).1.length - 1])).2.2)) := ⟨rfl⟩
 generalize codedR l p n = r at *
 generalize dictR l p = d at *
 obtain ⟨dl, dp, dw⟩ := d
 simp only at HD HS HOK HLE
 have HD2 := Aside0.mk (HD.mono (R' := fun e w1 => ∃ A1 c1, e = .returned (.tuple #[.slice A1 dl.length c1, .int .i64 dp, .int .i64 dw]) ∧ Aside0 (dl.length ≤ c1 ∧ Kd.string.C w1 A1 dl.length dl ∧ CrAt w1 rp A c l p 0 ∧ Keep1 rp w w1) ∧ w1.frozen? ⟨rp, 1, none⟩ = false ∧ w1.frozen? ⟨rp, 2, none⟩ = false ∧ w1.cell? ⟨rp, 1, none⟩ = some (.int .i64 p) ∧ w1.cell? ⟨rp, 2, none⟩ = some (.int .i64 0)) (by
  rintro e w1 ⟨A1, c1, rfl, hc1, hC1, hb1⟩
  have hb := (below_drew w.heap.size w).trans hb1
  have hh := H.out.below hb
  exact ⟨A1, c1, rfl, ⟨hc1, hC1, hh, Keep1.of_below hb⟩, hh.fr 1, hh.fr 2, hh.c1, hh.c2⟩))
 have hdl : dl.length ≤ 16 := HLE.out
 clear h hC HD
 go_enter Tryz.func132, Tryz.ntmps132
 go_wp2_with fail
 go_region_with ((go_at_call 161; refine HD2.out.mono ?_; rintro e w1 ⟨A1, c1, rfl, H1, y1, y2, z1, z2⟩))
 all_goals
  obtain ⟨W, hW⟩ : ∃ W, W = ((w1.setCell ⟨rp, 1, none⟩ (.int .i64 dp)).setCell ⟨rp, 2, none⟩ (.int .i64 dw)) := ⟨_, rfl⟩
  rw [← hW]
  have Q1 := Aside0.mk (show Kd.string.C W A1 dl.length dl by rw [hW]; exact CrAt.C_set (CrAt.C_set H1.out.2.1 str_no H1.out.2.2.1 1 (.int .i64 dp)) str_no (H1.out.2.2.1.set1 dp) 2 (.int .i64 dw))
  have Q2 := Aside0.mk (show CrAt W rp A c l dp dw by rw [hW]; exact (H1.out.2.2.1.set1 dp).set2 dw)
  have Q3 := Aside0.mk (show Keep1 rp w W by rw [hW]; exact (H1.out.2.2.2.set 1 _).set 2 _)
  have Q4 := Aside0.mk H1.out.1
  clear hW x0 x1 x2 f1 f2 y1 y2 z1 z2 H1
  go_wp2_with fail
  obtain ⟨x, hx⟩ : ∃ x, x = dl.length - 1 := ⟨_, rfl⟩
  rw [show max ((dl.length : Int) - 1) 0 = (x : Int) by omega]
  have BW := below_alloc (Below.refl W.heap.size W) (.cells #[.int .u64 (x : Int)] 86)
  have hk := sc_C_lit (enc := fun n : Nat => Value.int .u64 (n : Int)) (h1 := fun _ => rfl) W [x] 86 (by simp)
  have hw4 : widthL [x] ≤ 4 := width_of (fun n hn => by simp at hn; subst hn; omega)
  have HWC := bits_Width (some ⟨W.heap.size, 0, none⟩) 1 [x] _ hk (fun n hn => by simp at hn; subst hn; unfold U64; omega)
  rw [show [x].length = 1 from rfl, show ([x].map fun n : Nat => Value.int .u64 (n : Int)).toArray = #[.int .u64 (x : Int)] from rfl] at HWC
  have HWC := Aside0.mk HWC
  have HS2 := Aside0.mk HS.out
  rw [← hx] at HS2
  generalize hww : widthL [x] = wl at *
  generalize W.alloc (.cells #[.int .u64 (x : Int)] 86) = W2 at *
  have C2 := Aside0.mk (Q2.out.below BW)
  have S2 := Aside0.mk (Kd.C_below Q1.out BW)
  have K2 := Aside0.mk (Q3.out.trans (Keep1.of_below BW))
  have HNM := Aside0.mk (cr_numbers (base := base) C2.out (fun W' hb => HCW.out W' ((K2.out.below hbr (by have := HLR.out; omega)).trans hb)) hc hl (fun h => (HOK.out h).1) n wl hn (by omega))
  have HNL := Aside0.mk (show numbersR l dp dw n wl = numbersR l dp dw n wl from rfl)
  generalize numbersR l dp dw n wl = q at *
  clear hk BW hx hww Q1 Q2 Q3
  (with_reducible refine HWC.out.mono ?_)
  rintro e w' ⟨rfl, rfl⟩
  go_wp2_with fail
  (with_reducible refine HNM.out.mono ?_)
  rintro e w3 ⟨A3, c3, rfl, hc3, hC3, hr3, hk3⟩
  have N1 := Aside0.mk (And.intro hc3 (And.intro hC3 (And.intro hr3 (K2.out.trans hk3))))
  have N2 := Aside0.mk (C2.out.C_keep S2.out str_no hk3)
  clear hc3 hC3 hr3 hk3
  go_wp2
  go_ret2
  rw [HS2.out]
  exact ⟨A1, c1, A3, c3, rfl, Q4.out, N1.out.1, N2.out, N1.out.2.1, N1.out.2.2.1, N1.out.2.2.2⟩
end Go.Proofs.YtcmffaejcnbheaaGreat.Lib0
namespace Go.Proofs.YtcmffaejcnbheaaGreat.Lib0
open Go.RowKit Go.Proofs.YtcmffaejcnbheaaGreatW.PrintWords Go.ChangeMaps
def stepC (l : List UInt8) (d : List ByteArray) (form : Int) (x : Nat) (codes : List Nat) (p why : Int) : CellM × Int × List Nat × Int × Int :=
 if x = 1 ∨ why ≠ 0 then (noCell, -1, codes, p, why) else
 if form ≠ 2 then ((valueR l p form).1, -1, codes, (valueR l p form).2.1, (valueR l p form).2.2) else
 if d.length ≤ codes.getD 0 0 then (noCell, -1, codes, p, 12) else
 (⟨ByteArray.empty, 2, 0, d.getD (codes.getD 0 0) ByteArray.empty⟩, (codes.getD 0 0 : Nat), codes.drop 1, p, why)
def readF (l : List UInt8) (d : List ByteArray) (form : Int) : List Nat → List Nat → Int → Int → List CellM → List Int → List CellM × List Int × Int × Int
 | [], _, p, why, cs, ats => (cs, ats, p, why)
 | x :: t, codes, p, why, cs, ats => readF l d form t (stepC l d form x codes p why).2.2.1 (stepC l d form x codes p why).2.2.2.1 (stepC l d form x codes p why).2.2.2.2 (cs ++ [(stepC l d form x codes p why).1]) (ats ++ [(stepC l d form x codes p why).2.1])
def zerosN : List Nat → Nat
 | [] => 0
 | x :: t => (1 - x) + zerosN t
structure ReadM where
 cells : List CellM
 d : List ByteArray
 ats : List Int
 ok : Bool
def codesOf (l : List UInt8) (form p : Int) (left : Nat) : List ByteArray × List Nat × Int × Int := if form = 2 then codedR l p left else ([], [], p, 0)
def readE (l : List UInt8) (form : Int) (nulls : List Nat) (cd : List ByteArray × List Nat × Int × Int) : ReadM :=
 ⟨(readF l cd.1 form nulls cd.2.1 cd.2.2.1 cd.2.2.2 [] []).1, cd.1, (readF l cd.1 form nulls cd.2.1 cd.2.2.1 cd.2.2.2 [] []).2.1,
  decide ((readF l cd.1 form nulls cd.2.1 cd.2.2.1 cd.2.2.2 [] []).2.2.2 = 0) && decide ((readF l cd.1 form nulls cd.2.1 cd.2.2.1 cd.2.2.2 [] []).2.2.1 = l.length)⟩
def readQ (l : List UInt8) (form : Int) (q : List Nat × Int × Int) : ReadM := if q.2.2 ≠ 0 then ⟨[], [], [], false⟩ else readE l form q.1 (codesOf l form q.2.1 (zerosN q.1))
def readR (l : List UInt8) : ReadM :=
 if (smallR l 0 0).1 < 1 ∨ 3 < (smallR l 0 0).1 ∨ 65536 < (smallR l (smallR l 0 0).2.1 (smallR l 0 0).2.2).1 then ⟨[], [], [], false⟩
 else readQ l (smallR l 0 0).1 (numbersR l (smallR l (smallR l 0 0).2.1 (smallR l 0 0).2.2).2.1 (smallR l (smallR l 0 0).2.1 (smallR l 0 0).2.2).2.2 (smallR l (smallR l 0 0).2.1 (smallR l 0 0).2.2).1 1)
theorem decR_len (l : List UInt8) (n wd : Nat) : ∀ (f p : Nat) (out : List Nat), p ≤ l.length → l.length - p < f → out.length ≤ n + 7 → (∀ x ∈ out, U64 x) → (decR l n wd f p out).1 = 0 → n ≤ (decR l n wd f p out).2.2.length
 | 0, p, out, _, hf, _, _, _ => by omega
 | f + 1, p, out, hp, hf, ho, hu, h => by
  rw [decR] at h ⊢
  split at h
  ·rename_i h1
   rw [if_pos h1]; exact h1
  ·rename_i h1
   rw [if_neg h1]
   split at h
   ·exact absurd h (by assumption)
   ·rename_i h2
    rw [if_neg h2]
    split at h
    ·exact absurd h (by assumption)
    ·rename_i h3
     rw [if_neg h3]
     have hg := (getA_lt l p).2 (by simpa using h2)
     have hs := stepR_ok (l := l) (e := p + (getA l p).2.1) (n := n) (wd := wd) (h := (getA l p).1) (out := out) (by omega) hu (by simpa using h3)
     exact decR_len l n wd f _ _ hs.2.1 (by omega) hs.2.2.1 hs.2.2.2 h
theorem decR_rng (l : List UInt8) (n wd : Nat) : ∀ (f p : Nat) (out : List Nat), p ≤ l.length → out.length ≤ n + 7 → (∀ x ∈ out, U64 x) → (decR l n wd f p out).1 = 0 → p ≤ (decR l n wd f p out).2.1 ∧ (decR l n wd f p out).2.1 ≤ l.length
 | 0, p, out, hp, _, _, _ => by simp [decR, hp]
 | f + 1, p, out, hp, ho, hu, h => by
  rw [decR] at h ⊢
  split at h
  ·rename_i h1
   rw [if_pos h1]; exact ⟨Nat.le_refl _, hp⟩
  ·rename_i h1
   rw [if_neg h1]
   split at h
   ·exact absurd h (by assumption)
   ·rename_i h2
    rw [if_neg h2]
    split at h
    ·exact absurd h (by assumption)
    ·rename_i h3
     rw [if_neg h3]
     have hs := stepR_ok (l := l) (e := p + (getA l p).2.1) (n := n) (wd := wd) (h := (getA l p).1) (out := out) (by omega) hu (by simpa using h3)
     have := decR_rng l n wd f _ _ hs.2.1 hs.2.2.1 hs.2.2.2 h
     omega
theorem runsD_ok {l : List UInt8} {p n wd : Nat} (hp : p ≤ l.length) (h : (runsD l p n wd).2.2 = 0) : (runsD l p n wd).1.length = n ∧ widthL (runsD l p n wd).1 ≤ wd ∧ p ≤ (runsD l p n wd).2.1 ∧ (runsD l p n wd).2.1 ≤ l.length := by
 unfold runsD at *
 have hl := decR_len l n wd (l.length + 1) p [] hp (by omega) (by simp) (by simp)
 have hr := decR_rng l n wd (l.length + 1) p [] hp (by simp) (by simp)
 generalize decR l n wd (l.length + 1) p [] = r at *
 unfold endR at *
 split at h
 ·exact absurd h (by assumption)
 ·rename_i h1
  split at h
  ·cases h
  ·rename_i h2
   split at h
   ·cases h
   ·rename_i h3
    rw [if_neg h1, if_neg h2, if_neg h3]
    have h0 : r.1 = 0 := by simpa using h1
    refine ⟨?_, ?_, (hr h0).1, (hr h0).2⟩
    ·have := hl h0
     simp; omega
    ·have h4 : (runsB (r.2.2.take n) wd).2 = 0 := by
      by_cases hx : (runsB (r.2.2.take n) wd).2 = 0
      ·exact hx
      ·exact absurd (.inl hx) h3
     unfold runsB at h4
     split at h4
     ·cases h4
     ·rename_i h5
      simp only
      omega
end Go.Proofs.YtcmffaejcnbheaaGreat.Lib0

/- block.All and wal.Scan: the blocks of bytes, one behind the other. -/
import Derived.Test.YthacnbbijmgjfaaDoorBlock
import Derived.Deep.LoopGhost
set_option linter.unusedVariables false
set_option linter.unusedSimpArgs false
namespace Go.Proofs.YthacnbbijmgjfaaDoor.Lib0
open Go.RowKit Go.Proofs.YthacnbbijmgjfaaDoorW.PrintWords
attribute [local go_sem] u32_all

theorem le4_un4 (a b c d : UInt8) : le4 (un4 a b c d) = [a, b, c, d] := by
  have := a.toNat_lt
  have := b.toNat_lt
  have := c.toNat_lt
  have := d.toNat_lt
  have h : ∀ (x : UInt8) (n : Nat), n % 256 = x.toNat → UInt8.ofNat n = x := fun x n hn => by
    apply UInt8.toNat.inj
    simpa using hn
  unfold le4 un4
  rw [h a _ (by omega), h b _ (by omega), h c _ (by omega), h d _ (by omega)]
theorem openL_ok (l : List UInt8) (a : Int) (h : (openL l a).2.2 = 0) :
    ∃ t, l = sealB (openL l a).1 ++ t ∧ (openL l a).2.1 = a + (openL l a).1.length + 12 ∧ (openL l a).1.length ≤ 1048576 := by
  unfold openL at h ⊢
  split at h
  · rename_i b0 b1 b2 b3 c0 c1 c2 c3 t
    simp only at h ⊢
    have hu := un4_lt b0 b1 b2 b3
    have hu' := un4_lt c0 c1 c2 c3
    split at h
    · simp at h
    rename_i h1
    rw [if_neg h1]
    split at h
    · simp at h
    rename_i h2
    rw [if_neg h2]
    split at h
    · simp at h
    rename_i h3
    rw [if_neg h3]
    obtain ⟨d0, d1, d2, d3, t2, ht⟩ := four_ (t.drop (un4 b0 b1 b2 b3)) (by rw [List.length_drop]; omega)
    simp only [ht] at h ⊢
    split at h
    · simp at h
    rename_i h4
    rw [if_neg h4]
    have hl : (t.take (un4 b0 b1 b2 b3)).length = un4 b0 b1 b2 b3 := by rw [List.length_take]; omega
    refine ⟨t2, ?_, by rw [hl], by rw [hl]; omega⟩
    have e1 := le4_un4 b0 b1 b2 b3
    have e2 := le4_un4 c0 c1 c2 c3
    have e3 := le4_un4 d0 d1 d2 d3
    have h1' : un4 c0 c1 c2 c3 = 4294967295 - un4 b0 b1 b2 b3 := by omega
    have h4' : (crc (t.take (un4 b0 b1 b2 b3))).toNat = un4 d0 d1 d2 d3 := by
      have := crc_range (t.take (un4 b0 b1 b2 b3))
      omega
    simp only [sealB, hl, h4', ← h1', e1, e2, e3]
    have : t = t.take (un4 b0 b1 b2 b3) ++ (d0 :: d1 :: d2 :: d3 :: t2) := by rw [← ht, List.take_append_drop]
    simp only [List.cons_append, List.nil_append, List.append_assoc, List.cons.injEq, true_and]
    exact this
  · simp at h
theorem openL_bound (l : List UInt8) (a : Int) (h : (openL l a).2.2 = 0) : (openL l a).2.1 = a + (openL l a).1.length + 12 ∧ (openL l a).1.length + 12 ≤ l.length := by
  obtain ⟨t, h1, h2, h3⟩ := openL_ok l a h
  refine ⟨h2, ?_⟩
  have := congrArg List.length h1
  simp [sealB, le4] at this
  omega
theorem openB_ok (b : List UInt8) (a : Int) (h : (openB b a).2.2 = 0) : 0 ≤ a ∧ (openB b a).2.1 = a + (openB b a).1.length + 12 ∧ (openB b a).2.1 ≤ b.length := by
  unfold openB at h ⊢
  split at h
  · simp at h
  · rename_i hn
    rw [if_neg hn]
    obtain ⟨h1, h2⟩ := openL_bound _ _ h
    rw [List.length_drop] at h2
    refine ⟨by omega, h1, by omega⟩

/-- The blocks from an offset on, where they end, why. -/
def allF : Nat → List UInt8 → Int → List (List UInt8) × Int × Int
  | 0, _, at_ => ([], at_, 0)
  | k + 1, b, at_ =>
    if at_ < b.length then
      if (openB b at_).2.2 ≠ 0 then ([], at_, (openB b at_).2.2)
      else ((openB b at_).1 :: (allF k b (openB b at_).2.1).1, (allF k b (openB b at_).2.1).2)
    else ([], at_, 0)
def allB (b : List UInt8) : List (List UInt8) × Int × Int := allF (b.length + 1) b 0

/-- rows of bytes -/
abbrev bb : Kd (List UInt8) := Kd.slice 5 u8
theorem info_bb : (Tryd.prog.info? 23).map (fun i => (i.zero, i.size, i.bytes)) = some (some (.slice none 0 0), 1, 24) := by kernel_rfl
def ToldAll (T : TypeId) (w : World) (r : List (List UInt8) × Int × Int) (e : Ending) (w' : World) : Prop :=
  ∃ v, e = .returned (.tuple #[v, .int .i64 r.2.1, .int .i64 r.2.2]) ∧ bb.R T w' w.heap.size (fun _ => True) v r.1 ∧ Below w.heap.size w w'

section
variable {P : Program} {ops : Array Oper} {rest : List Oper} {o : Oper} {a : Act} {Q : Exit → Act → World → Prop}
/-- append(v, x), x a row of its own that is new since W0. -/
theorem bb_append {W W0 : World} (s x : Operand) (t : TypeId) (v u : Value) (xs : List (List UInt8)) (p : List UInt8) (base : Nat)
    (hgd : o.guard = none) (ho : o.op = .call { callee := .builtin .append, args := #[s, x], argTypes := #[t, t] })
    (ht : P.underlying t = some (.slice 23)) (hinfo : (P.info? 23).map (fun i => (i.zero, i.size, i.bytes)) = some (some (.slice none 0 0), 1, 24))
    (hs : a.eval s = v) (hx : a.eval x = .slice (some ⟨W.heap.size, 0, none⟩) 1 1)
    (H0 : bb.R 23 W0 base (fun _ => True) v xs) (HP : u8.R 5 W W0.heap.size (fun _ => True) u p) (hB0 : Below W0.heap.size W0 W) (hbase : base ≤ W0.heap.size) (hl : xs.length ≤ 1099511627776)
    (h : ∀ v1 w1, bb.R 23 w1 base (fun _ => True) v1 (xs ++ [p]) → Below base W w1 → W.grownBy w1 v.ownBlock → (v1.ownBlock = v.ownBlock ∨ ∃ b, v1.ownBlock = some b ∧ W.heap.size ≤ b) → wpList P ops Q rest (a.put o.dst v1) w1) :
    wpList P ops Q (o :: rest) a (W.alloc (.cells #[u] 23)) := by
  obtain ⟨inner, hin⟩ := Kd.R_own H0
  have HP' := Kd.R_lower (Kd.R_new HP hin) hbase
  exact Kd.R_append bb (w0 := W) base hgd s x t 23 (.slice none 0 0) 24 ho ht hinfo rfl (by decide) (by decide) v xs p [u] (fun _ => True) (fun k => True ∧ some k ≠ v.ownBlock) hs hx ⟨u, rfl, HP'⟩ (fun _ hk => hk) (fun _ _ => trivial)
    (Kd.R_below H0 hB0) (Below.refl _ _) (Nat.le_trans hbase hB0.size) (by omega) h
end

set_option maxHeartbeats 1600000 in
set_option maxRecDepth 100000 in
theorem block_All (A : Option Addr) (c : Nat) (l : List UInt8) (w : World) (h : u8.C w A l.length l) (hc : l.length ≤ c) (hl : l.length ≤ 1099511627776) :
    Calls Tryd.prog 30 #[.slice A l.length c] w (ToldAll 23 w (allB l)) := by
  have HC := Aside0.mk h
  have HL := Aside0.mk hl
  have hm := u8_len h
  clear h hl
  go_enter Tryd.func30, Tryd.ntmps30
  go_wp2
  go_loopw [5, 6] (fun v5 v6 wr => ∃ (i : Nat) (k : Nat) (acc : List (List UInt8)), i ≤ l.length ∧ v6 = .int .i64 i ∧ Aside0 (l.length < i + k) ∧ Aside0 (acc.length ≤ i) ∧ Aside0 (acc ++ (allF k l i).1 = (allB l).1) ∧ Aside0 ((allF k l i).2 = (allB l).2) ∧ Aside0 (bb.R 23 wr w.heap.size (fun _ => True) v5 acc) ∧ Aside0 (Below w.heap.size w wr)) (fun _ i _ => l.length - (intOf i).toNat)
  case atStart => exact ⟨0, l.length + 1, [], by omega, rfl, ⟨by omega⟩, ⟨by simp⟩, ⟨rfl⟩, ⟨rfl⟩, ⟨Kd.R_nil _ _ _ _ _⟩, ⟨Below.refl _ _⟩⟩
  case round =>
    obtain ⟨i, k, acc, hi, rfl, HK, HA, H1, H2, HR, HB⟩ := hrel
    cases k with
    | zero => exact absurd HK.out (by omega)
    | succ k =>
    by_cases hlt : i < l.length
    · have hlt' : (i : Int) < l.length := by omega
      have G1 := H1.out
      have G2 := H2.out
      simp only [allF, if_pos hlt'] at G1 G2
      replace H1 := Aside0.mk G1
      replace H2 := Aside0.mk G2
      clear G1 G2
      have OK := Aside0.mk (openB_ok l (i : Int))
      have CR := Aside0.mk (Kd.C_below HC.out HB.out)
      have hc' := block_Open_in A c l (i : Int) wr CR.out hc (by omega) (by omega)
      generalize openB l (i : Int) = r at *
      obtain ⟨body, end_, why⟩ := r
      try dsimp only at *
      have CA := Aside0.mk hc'
      clear hc'
      go_wp2_with fail
      refine CA.out.mono ?_
      rintro e w1 ⟨v1, rfl, hr1, hb1⟩
      obtain ⟨A1, c1, rfl, hl1, hC1⟩ := u8_R_len hr1
      clear hC1 hl1
      have R1 := Aside0.mk hr1
      have B1 := Aside0.mk hb1
      clear hr1 hb1 CA
      have B2 := Aside0.mk (HB.out.trans (B1.out.mono HB.out.size))
      try dsimp only at *
      by_cases hw : why = 0
      · subst hw
        have o1 := OK.out rfl
        try dsimp only at o1
        obtain ⟨o1, o2, o3⟩ := o1
        obtain ⟨j, rfl⟩ := Int.eq_ofNat_of_zero_le (show 0 ≤ end_ by omega)
        have G1 := H1.out
        have G2 := H2.out
        simp only [ne_eq, not_true_eq_false, if_false] at G1 G2
        replace H1 := Aside0.mk G1
        replace H2 := Aside0.mk G2
        have hj : i + 12 ≤ j := by omega
        have hj2 : j ≤ l.length := by omega
        clear G1 G2 OK o1 o2 o3
        go_wp2_with (at_builtin; go_loud (refine bb_append (.tmp 26) (.tmp 28) 57 u5 _ acc body w.heap.size rfl rfl Tryd.underlying57 info_bb rfl rfl HR.out R1.out B1.out HB.out.size ?c1 ?_))
        case c1 => have := HA.out; have := HL.out; omega
        intro v2 w2 hr2 hb2 hg2 ha2
        have R2 := Aside0.mk hr2
        have B3 := Aside0.mk (B2.out.trans hb2)
        clear hr2 hb2 hg2 ha2
        go_wp2
        go_roundw
        case rel => exact ⟨j, k, acc ++ [body], hj2, by first | rfl | go_num, ⟨by have := HK.out; omega⟩, ⟨by have := HA.out; simp; omega⟩, ⟨by rw [List.append_assoc]; exact H1.out⟩, H2, R2, B3⟩
        case measure => simp [intOf]; omega
      · have G1 := H1.out
        have G2 := H2.out
        rw [if_pos hw] at G1 G2
        replace H1 := Aside0.mk G1
        replace H2 := Aside0.mk G2
        have hwb : ((why : Int) != 0) = true := by simpa using hw
        clear G1 G2 OK hw
        go_wp2
        go_ret3
        refine ⟨u5, ?_, ?_, B2.out⟩
        · rw [← H2.out]; rfl
        · rw [← H1.out]
          simpa using Kd.R_below HR.out B1.out
    · obtain rfl : i = l.length := by omega
      have G1 := H1.out
      have G2 := H2.out
      simp only [allF, if_neg (Int.lt_irrefl _)] at G1 G2
      replace H1 := Aside0.mk G1
      replace H2 := Aside0.mk G2
      clear G1 G2
      go_wp2
      go_ret3
      refine ⟨u5, ?_, ?_, HB.out⟩
      · rw [← H2.out]; rfl
      · rw [← H1.out]
        simpa using HR.out

theorem info_str : (Tryd.prog.info? 9).map (fun i => (i.zero, i.size, i.bytes)) = some (some (.string ByteArray.empty), 1, 16) := by kernel_rfl
section
variable {P : Program} {ops : Array Oper} {rest : List Oper} {o : Oper} {a : Act} {Q : Exit → Act → World → Prop}
/-- append(v, s) of texts. -/
theorem str_append {W : World} (s x : Operand) (t e : TypeId) (v : Value) (xs : List ByteArray) (p : ByteArray) (base : Nat)
    (hgd : o.guard = none) (ho : o.op = .call { callee := .builtin .append, args := #[s, x], argTypes := #[t, t] })
    (ht : P.underlying t = some (.slice e)) (hinfo : (P.info? e).map (fun i => (i.zero, i.size, i.bytes)) = some (some (.string ByteArray.empty), 1, 16))
    (hs : a.eval s = v) (hx : a.eval x = .slice (some ⟨W.heap.size, 0, none⟩) 1 1)
    (HO : Kd.string.R e W base (fun _ => True) v xs) (hbase : base ≤ W.heap.size) (hl : xs.length ≤ 1099511627776)
    (h : ∀ v1 w1, Kd.string.R e w1 base (fun _ => True) v1 (xs ++ [p]) → Below base W w1 → W.grownBy w1 v.ownBlock → (v1.ownBlock = v.ownBlock ∨ ∃ b, v1.ownBlock = some b ∧ W.heap.size ≤ b) → wpList P ops Q rest (a.put o.dst v1) w1) :
    wpList P ops Q (o :: rest) a (W.alloc (.cells #[.string p] e)) :=
  Kd.R_append Kd.string (w0 := W) base hgd s x t e (.string ByteArray.empty) 16 ho ht hinfo rfl (by decide) (by decide) v xs p [.string p] (fun _ => True) (fun _ => False) hs hx rfl (fun _ hk => hk.elim) (fun _ _ => trivial)
    HO (Below.refl _ _) hbase (by omega) h
end
/-- An element of a row of rows of bytes. -/
theorem bb_at {w : World} {A : Option Addr} {n : Nat} {l : List (List UInt8)} (h : bb.C w A n l) (k : Nat) (hk : k < l.length) :
    ∃ ad B c, A = some ad ∧ w.cell? (ad.add k) = some (.slice B (l[k]).length c) ∧ (l[k]).length ≤ c ∧ u8.C w B (l[k]).length l[k] := by
  obtain ⟨ad, e, hc⟩ := h.2.2 (by have := h.1; omega)
  obtain ⟨c, hl, hk', hcell⟩ := hc k _ (List.getElem?_eq_getElem hk)
  obtain ⟨B, c', hcc, hle, hC⟩ := hk'
  subst hcc
  refine ⟨ad, B, c', e, ?_, hle, hC⟩
  have := hcell 0 _ rfl
  have e1 : k * bb.sz + 0 = k := by show k * 1 + 0 = k; omega
  rwa [e1] at this
theorem u8_string {P : Program} {w : World} {src dst e : TypeId} {A : Option Addr} {c : Nat} {l : List UInt8} (hs : P.underlying src = some (.slice e)) (he : P.underlying e = some (.int .u8)) (hd : P.underlying dst = some .string)
    (h : u8.C w A l.length l) : (convert src dst (.slice A l.length c)).run P w = .ok (.string (str l)) w := by
  have h2 := (u8_C_iff _ _ _ _).1 h
  rw [Kd.C_string hs he hd h2]
  congr 2
  simp only [strOfNums, str, bi, List.map_map]
  congr 2
  conv => rhs; rw [← List.map_id l]
  apply List.map_congr_left
  intro b _
  simp
def ToldTexts (T : TypeId) (w : World) (r : List ByteArray) (n : Int) (e : Ending) (w' : World) : Prop :=
  ∃ v, e = .returned (.tuple #[v, .int .i64 n]) ∧ Kd.string.R T w' w.heap.size (fun _ => True) v r ∧ Below w.heap.size w w'

theorem allF_le : ∀ (k : Nat) (b : List UInt8) (a : Int), 0 ≤ a → (allF k b a).1.length + a ≤ b.length ∨ (allF k b a).1 = []
  | 0, _, _, _ => .inr rfl
  | k + 1, b, a, h0 => by
    unfold allF
    split
    · split
      · exact .inr rfl
      · rename_i h
        obtain ⟨o1, o2, o3⟩ := openB_ok b a (by simpa using h)
        left
        simp only [List.length_cons]
        rcases allF_le k b (openB b a).2.1 (by omega) with h1 | h1
        · omega
        · rw [h1]; simp; omega
    · exact .inr rfl
theorem allB_le (b : List UInt8) : (allB b).1.length ≤ b.length := by
  rcases allF_le (b.length + 1) b 0 (by omega) with h | h
  · unfold allB; omega
  · unfold allB; rw [h]; simp

set_option maxHeartbeats 1600000 in
set_option maxRecDepth 100000 in
theorem wal_Scan (A : Option Addr) (c : Nat) (l : List UInt8) (w : World) (h : u8.C w A l.length l) (hc : l.length ≤ c) (hl : l.length ≤ 1099511627776) :
    Calls Tryd.prog 13 #[.slice A l.length c] w (ToldTexts 9 w ((allB l).1.map str) (allB l).2.1) := by
  have HC := Aside0.mk (block_All A c l w h hc hl)
  have HL := Aside0.mk (Nat.le_trans (allB_le l) hl)
  clear h hl hc
  go_enter Tryd.func13, Tryd.ntmps13
  go_wp2_with fail
  refine HC.out.mono ?_
  rintro e w1 ⟨v1, rfl, hr1, hb1⟩
  generalize allB l = r at *
  obtain ⟨ll, end_, why⟩ := r
  try dsimp only at *
  obtain ⟨A1, c1, rfl, hl1, hC1⟩ := Kd.R_reads hr1
  have C1 := Aside0.mk hC1
  have B1 := Aside0.mk hb1
  have hm : ll.length ≤ 9223372036854775807 := by have := hC1.2.1; omega
  clear hr1 hb1 hC1 HC
  go_wp2_with fail
  go_loopw [7, 18] (fun v7 v18 wr => ∃ (k : Nat), k ≤ ll.length ∧ v18 = .int .i64 k ∧ Aside0 (Kd.string.R 9 wr w1.heap.size (fun _ => True) v7 ((ll.take k).map str)) ∧ Aside0 (Below w1.heap.size w1 wr)) (fun _ i _ => ll.length - (intOf i).toNat)
  case atStart => exact ⟨0, by omega, rfl, ⟨Kd.R_nil _ _ _ _ _⟩, ⟨Below.refl _ _⟩⟩
  case round =>
    obtain ⟨k, hk, rfl, HR, HB⟩ := hrel
    by_cases hlt : k < ll.length
    · obtain ⟨ad, B, c', rfl, hx, hle, hCx⟩ := bb_at (Kd.C_below C1.out HB.out) k hlt
      have HT := Aside0.mk (show (ll.take (k+1)).map str = (ll.take k).map str ++ [str ll[k]] by rw [List.take_succ_eq_append_getElem hlt, List.map_append]; rfl)
      have hcv := u8_string (P := Tryd.prog) (c := c') Tryd.underlying23 Tryd.underlying5 Tryd.underlying9 hCx
      have HLK := Aside0.mk (show ((ll.take k).map str).length ≤ 1099511627776 by have := HL.out; rw [List.length_map, List.length_take]; omega)
      clear hCx hle
      generalize ll[k] = x at *
      generalize (ll.take k).map str = acc at *
      go_wp2_with (at_builtin; refine str_append (.tmp 22) (.tmp 25) 22 9 u7 acc (str x) w1.heap.size rfl rfl Tryd.underlying22 info_str rfl rfl HR.out HB.out.size HLK.out ?_)
      intro v2 w2 hr2 hb2 hg2 ha2
      have R2 := Aside0.mk hr2
      have B2 := Aside0.mk (HB.out.trans hb2)
      clear hr2 hb2 hg2 ha2 hcv
      go_wp2
      go_roundw
      case rel => exact ⟨k + 1, by omega, by go_num, ⟨by rw [HT.out]; exact R2.out⟩, B2⟩
      case measure => simp [intOf]; omega
    · obtain rfl : k = ll.length := by omega
      go_wp2
      go_ret2
      refine ⟨u7, rfl, ?_, B1.out.trans (HB.out.mono B1.out.size)⟩
      have := HR.out
      rw [List.take_length] at this
      exact Kd.R_lower this B1.out.size
end Go.Proofs.YthacnbbijmgjfaaDoor.Lib0

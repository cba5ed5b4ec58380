import Derived.Test.YtcmffaejcnbheaaGreatQ39
import Derived.Test.YtcmffaejcnbheaaGreatQ42
set_option linter.unusedVariables false
set_option linter.unusedSimpArgs false
namespace Go.Proofs.YtcmffaejcnbheaaGreat.Lib0
open Go.RowKit Go.Proofs.YtcmffaejcnbheaaGreatW.PrintWords Go.ChangeMaps
theorem writeM_ok {M : List RowM} (h : (writeM M).2 = 0) : 0 < M.length ∧ M.length ≤ 16 ∧ checkM M = 0 ∧ writeM M = (bytesM M, 0) := by
 unfold writeM at h ⊢
 split at h
 ·simp at h
 ·rename_i h1
  split at h
  ·rename_i h2
   rw [if_neg h1, if_pos h2]
   exact ⟨by omega, by omega, h2, rfl⟩
  ·rename_i h2
   exact absurd h h2
structure ReadF (l : List UInt8) (ts ss : List Int) (qs : List PartQ) : Prop where
 ss_ : ss.length = ts.length
 n0 : 0 < ts.length
 n16 : ts.length ≤ 16
 ps12 : qs.length ≤ 12
 cs : ∀ q ∈ qs, q.cs.length = ts.length
 op : ∀ q ∈ qs, openR q.l = some (q.form, q.cs)
 wr : writeM (builtM ts ss qs) = (l, 0)
theorem readG_some {l : List UInt8} {ts ss : List Int} {qs : List PartQ} (h : readG l = some (ts, ss, qs)) : ReadF l ts ss qs := by
 unfold readG at h
 split at h
 ·cases h
 ·split at h
  ·cases h
  ·rename_i h0 h1
   split at h
   ·cases h
   ·rename_i qs' q hp
    split at h
    ·cases h
    ·split at h
     ·cases h
     ·rename_i h2 h3
      split at h
      ·cases h
      ·rename_i h4
       injection h with h
       injection h with e1 h
       injection h with e2 e3
       subst e1 e2 e3
       have h5 := writeM_ok (M := builtM (deltaR l 0 16).1 (deltaR l (deltaR l 0 16).2.1 16).1 qs') (by omega)
       rw [builtM_len] at h5
       refine ⟨by omega, h5.1, h5.2.1, partsR_len hp, fun q hq => ?_, partsR_open hp, ?_⟩
       ·have h6 : ¬ ∃ x, x ∈ qs' ∧ decide (x.cs.length ≠ (deltaR l 0 16).1.length) = true := by
         intro hx
         exact h3 (List.any_eq_true.2 hx)
        exact Decidable.byContradiction fun hn => h6 ⟨q, hq, by simp [hn]⟩
       ·exact Prod.ext (Decidable.byContradiction fun hn => h4 (.inr hn)) (Decidable.byContradiction fun hn => h4 (.inl hn))
theorem ReadF.fit {l : List UInt8} {ts ss : List Int} {ps : List PartM} (h : ReadF l ts ss (ps.map PartM.q)) : Fit ts ss ps :=
 ⟨h.ss_, h.n0, h.n16, by have := h.ps12; simpa using this, fun p hp => h.cs p.q (List.mem_map_of_mem hp)⟩
def stL (a b s t : Bool) : List ColM := (if a then [⟨colT 0, 1⟩] else []) ++ (if b then [⟨colT 1, 1⟩] else []) ++ (if s then [⟨colT 2, 2⟩] else []) ++ (if t then [⟨colT 3, 2⟩] else [])
theorem stL_len (a b s t : Bool) : (stL a b s t).length ≤ 12 := by cases a <;> cases b <;> cases s <;> cases t <;> simp [stL]
theorem st_step (S T : List ColM) (nm : ByteArray) (kd : Int) (c : CellM) (cs : List CellM) (h1 : c.col = nm) (h2 : c.kind = kd) (h : (if hasL S nm then (if kindAt S (atL S nm) = kd then some S else none) else some (insL S (atL S nm) ⟨nm, kd⟩)) = some T) : growC S (c :: cs) = growC T cs := by
 rw [growC, h1, h2]
 split at h
 ·rename_i a
  rw [if_pos a]
  split at h
  ·rename_i b
   rw [if_pos b]
   injection h with h
   rw [h]
  ·cases h
 ·rename_i a
  rw [if_neg a]
  injection h with h
  rw [h]
set_option maxRecDepth 100000 in
theorem st_a (a b s t : Bool) (c : CellM) (cs : List CellM) (h1 : c.col = colT 0) (h2 : c.kind = 1) : growC (stL a b s t) (c :: cs) = growC (stL true b s t) cs :=
 st_step _ _ _ _ c cs h1 h2 (by cases a <;> cases b <;> cases s <;> cases t <;> kernel_rfl)
set_option maxRecDepth 100000 in
theorem st_b (a b s t : Bool) (c : CellM) (cs : List CellM) (h1 : c.col = colT 1) (h2 : c.kind = 1) : growC (stL a b s t) (c :: cs) = growC (stL a true s t) cs :=
 st_step _ _ _ _ c cs h1 h2 (by cases a <;> cases b <;> cases s <;> cases t <;> kernel_rfl)
set_option maxRecDepth 100000 in
theorem st_s (a b s t : Bool) (c : CellM) (cs : List CellM) (h1 : c.col = colT 2) (h2 : c.kind = 2) : growC (stL a b s t) (c :: cs) = growC (stL a b true t) cs :=
 st_step _ _ _ _ c cs h1 h2 (by cases a <;> cases b <;> cases s <;> cases t <;> kernel_rfl)
set_option maxRecDepth 100000 in
theorem st_t (a b s t : Bool) (c : CellM) (cs : List CellM) (h1 : c.col = colT 3) (h2 : c.kind = 2) : growC (stL a b s t) (c :: cs) = growC (stL a b s true) cs :=
 st_step _ _ _ _ c cs h1 h2 (by cases a <;> cases b <;> cases s <;> cases t <;> kernel_rfl)
def OneT (i : Nat) (l : List CellM) : Prop := l = [] ∨ ∃ c : CellM, l = [c] ∧ c.col = colT i ∧ c.kind = (if i < 2 then 1 else 2) ∧ fineB c = true ∧ I64 c.n
set_option maxRecDepth 100000 in
theorem colT_name (i : Nat) (h : i < 4) : nameB (colT i) = true := by
 have h0 : nameB (colT 0) = true := by kernel_rfl
 have h1 : nameB (colT 1) = true := by kernel_rfl
 have h2 : nameB (colT 2) = true := by kernel_rfl
 have h3 : nameB (colT 3) = true := by kernel_rfl
 rcases i with _ | _ | _ | _ | i
 ·exact h0
 ·exact h1
 ·exact h2
 ·exact h3
 ·omega
set_option maxRecDepth 100000 in
theorem colT_less (i j : Nat) (h : i < j) (hj : j < 4) : lessS (colT i) (colT j) = true := by
 have h01 : lessS (colT 0) (colT 1) = true := by kernel_rfl
 have h02 : lessS (colT 0) (colT 2) = true := by kernel_rfl
 have h03 : lessS (colT 0) (colT 3) = true := by kernel_rfl
 have h12 : lessS (colT 1) (colT 2) = true := by kernel_rfl
 have h13 : lessS (colT 1) (colT 3) = true := by kernel_rfl
 have h23 : lessS (colT 2) (colT 3) = true := by kernel_rfl
 rcases i with _ | _ | _ | i <;> rcases j with _ | _ | _ | _ | j <;> first | omega | assumption
theorem cut3_size (s : ByteArray) : (cut3 s).size ≤ 3 := by
 unfold cut3
 split
 ·rw [ByteArray.size_extract]; omega
 ·omega
theorem tameC_one (i : Nat) (c : CellM) (hi : i < 4) : OneT i (tameC i c) := by
 unfold tameC
 split
 ·exact .inl rfl
 ·have hn := colT_name i hi
  split
  ·rename_i h2
   have hm := Int.tmod_eq_emod (a := c.n) (b := 10)
   have hb1 : -10 < c.n.tmod 10 := by have := Int.lt_tmod_of_pos c.n (b := 10) (by omega); omega
   have hb2 : c.n.tmod 10 < 10 := Int.tmod_lt_of_pos c.n (b := 10) (by omega)
   refine .inr ⟨_, rfl, rfl, by rw [if_pos h2], ?_, ?_⟩
   ·unfold fineB; simp only [if_true, hn, Bool.true_and]; rfl
   ·show -9223372036854775808 ≤ c.n.tmod 10 ∧ c.n.tmod 10 ≤ 9223372036854775807
    omega
  ·rename_i h2
   refine .inr ⟨_, rfl, rfl, by rw [if_neg h2], ?_, ?_⟩
   ·have := cut3_size c.s
    unfold fineB
    simp only [hn, Bool.true_and]
    rw [if_neg (by decide)]
    simp
    omega
   ·show -9223372036854775808 ≤ (0 : Int) ∧ (0 : Int) ≤ 9223372036854775807
    omega
theorem tameCs_four (l : List CellM) : ∃ x0 x1 x2 x3, OneT 0 x0 ∧ OneT 1 x1 ∧ OneT 2 x2 ∧ OneT 3 x3 ∧ tameCs l 4 = x0 ++ x1 ++ x2 ++ x3 := by
 have h : ∀ i, i < 4 → OneT i (if h : i < l.length then tameC i l[i] else []) := fun i hi => by
  split
  ·exact tameC_one i _ hi
  ·exact .inl rfl
 exact ⟨_, _, _, _, h 0 (by omega), h 1 (by omega), h 2 (by omega), h 3 (by omega), by simp only [tameCs, List.nil_append]⟩
theorem grow_four (a b s t : Bool) {x0 x1 x2 x3 : List CellM} (h0 : OneT 0 x0) (h1 : OneT 1 x1) (h2 : OneT 2 x2) (h3 : OneT 3 x3) : ∃ a' b' s' t', growC (stL a b s t) (x0 ++ x1 ++ x2 ++ x3) = some (stL a' b' s' t') := by
 have e3 : ∀ a b s t, ∃ a' b' s' t', growC (stL a b s t) x3 = some (stL a' b' s' t') := fun a b s t => by
  rcases h3 with rfl | ⟨c, rfl, k1, k2, _⟩
  ·exact ⟨a, b, s, t, by rw [growC]⟩
  ·exact ⟨a, b, s, true, by rw [st_t a b s t c [] k1 k2, growC]⟩
 have e2 : ∀ a b s t, ∃ a' b' s' t', growC (stL a b s t) (x2 ++ x3) = some (stL a' b' s' t') := fun a b s t => by
  rcases h2 with rfl | ⟨c, rfl, k1, k2, _⟩
  ·exact e3 a b s t
  ·rw [List.singleton_append, st_s a b s t c _ k1 k2]; exact e3 _ _ _ _
 have e1 : ∀ a b s t, ∃ a' b' s' t', growC (stL a b s t) (x1 ++ (x2 ++ x3)) = some (stL a' b' s' t') := fun a b s t => by
  rcases h1 with rfl | ⟨c, rfl, k1, k2, _⟩
  ·exact e2 a b s t
  ·rw [List.singleton_append, st_b a b s t c _ k1 k2]; exact e2 _ _ _ _
 rw [List.append_assoc, List.append_assoc]
 rcases h0 with rfl | ⟨c, rfl, k1, k2, _⟩
 ·exact e1 a b s t
 ·rw [List.singleton_append, st_a a b s t c _ k1 k2]; exact e1 _ _ _ _
theorem cellsRB_c (p : Option ByteArray) (c : CellM) (t : List CellM) : cellsRB p (c :: t) = (fineB c && (match p with | none => true | some q => lessS q c.col) && cellsRB (some c.col) t) := rfl
theorem cells_four {x0 x1 x2 x3 : List CellM} (h0 : OneT 0 x0) (h1 : OneT 1 x1) (h2 : OneT 2 x2) (h3 : OneT 3 x3) : cellsRB none (x0 ++ x1 ++ x2 ++ x3) = true ∧ (x0 ++ x1 ++ x2 ++ x3).length ≤ 8 ∧ ∀ c ∈ x0 ++ x1 ++ x2 ++ x3, I64 c.n := by
 have g : ∀ j, j < 4 → ∀ p : Option ByteArray, (p = none ∨ ∃ i, i < j ∧ p = some (colT i)) → (match p with | none => true | some q => lessS q (colT j)) = true := fun j hj p hp => by
  rcases hp with rfl | ⟨i, hi, rfl⟩
  ·rfl
  ·exact colT_less i j hi hj
 rw [List.append_assoc, List.append_assoc]
 have e3 : ∀ p, (p = none ∨ ∃ i, i < 3 ∧ p = some (colT i)) → cellsRB p x3 = true ∧ x3.length ≤ 1 ∧ ∀ c ∈ x3, I64 c.n := fun p hp => by
  rcases h3 with rfl | ⟨c, rfl, k1, k2, k3, k4⟩
  ·exact ⟨rfl, by simp, by simp⟩
  ·refine ⟨?_, by simp, by simpa using k4⟩
   rw [cellsRB_c, k3, k1, g 3 (by omega) p hp]; rfl
 have up : ∀ {i j : Nat} {p : Option ByteArray}, i ≤ j → (p = none ∨ ∃ q, q < i ∧ p = some (colT q)) → (p = none ∨ ∃ q, q < j ∧ p = some (colT q)) := fun h hp => by
  rcases hp with rfl | ⟨q, hq, rfl⟩
  ·exact .inl rfl
  ·exact .inr ⟨q, by omega, rfl⟩
 have st : ∀ (j : Nat) (hj : j < 4) (x y : List CellM) (m : Nat), OneT j x → (∀ p, (p = none ∨ ∃ q, q < j + 1 ∧ p = some (colT q)) → cellsRB p y = true ∧ y.length ≤ m ∧ ∀ c ∈ y, I64 c.n) →
   ∀ p, (p = none ∨ ∃ q, q < j ∧ p = some (colT q)) → cellsRB p (x ++ y) = true ∧ (x ++ y).length ≤ m + 1 ∧ ∀ c ∈ x ++ y, I64 c.n := fun j hj x y m hx hy p hp => by
  rcases hx with rfl | ⟨c, rfl, k1, k2, k3, k4⟩
  ·have := hy p (up (by omega) hp)
   exact ⟨this.1, by have := this.2.1; simp; omega, this.2.2⟩
  ·have := hy (some (colT j)) (.inr ⟨j, by omega, rfl⟩)
   refine ⟨?_, by have := this.2.1; simp; omega, fun d hd => ?_⟩
   ·rw [List.singleton_append, cellsRB_c, k3, k1, g j hj p hp, this.1]; rfl
   ·rcases List.mem_append.1 hd with h | h
    ·rw [List.mem_singleton.1 h]; exact k4
    ·exact this.2.2 d h
 have e := st 0 (by omega) x0 _ 3 h0 (st 1 (by omega) x1 _ 2 h1 (st 2 (by omega) x2 _ 1 h2 e3)) none (.inl rfl)
 exact ⟨e.1, by omega, e.2.2⟩
theorem growsF_tame (M : List RowM) (h : ∀ r ∈ M, rowB r.t r.s r.cs = true ∧ ∃ l, r.cs = tameCs l 4) : ∀ (a b s t : Bool) (k : Nat), ∃ a' b' s' t', growsF (stL a b s t) k M = (stL a' b' s' t', 0, 0) := by
 induction M with
 | nil => exact fun a b s t k => ⟨a, b, s, t, rfl⟩
 | cons r M ih =>
  intro a b s t k
  obtain ⟨h1, l, h2⟩ := h r (by simp)
  obtain ⟨x0, x1, x2, x3, g0, g1, g2, g3, e⟩ := tameCs_four l
  obtain ⟨a', b', s', t', hg⟩ := grow_four a b s t g0 g1 g2 g3
  have hr : growR (stL a b s t) r.cs = (stL a' b' s' t', 0) := by
   unfold growR
   rw [h2, e, hg]
   dsimp only
   rw [if_pos (stL_len _ _ _ _)]
  rw [growsF, if_pos h1, hr, if_pos rfl]
  exact ih (fun q hq => h q (by simp [hq])) a' b' s' t' (k + 1)
theorem risesM_true : ∀ (d : List RowM), (∀ i (h : i + 1 < d.length), lessM d[i] d[i + 1] = true) → risesM d = true
 | [], _ => rfl
 | [_], _ => rfl
 | a :: b :: t, h => by
  have h0 := h 0 (by simp)
  simp only [List.getElem_cons_zero, List.getElem_cons_succ] at h0
  rw [risesM, h0, Bool.true_and]
  exact risesM_true (b :: t) (fun i hi => by have := h (i + 1) (by simp at hi ⊢; omega); simpa using this)
theorem rising17_row (M : List RowM) (n : Nat) (hn : n ≤ 1000) : ∀ r ∈ risingM M n, rowB r.t r.s r.cs = true ∧ (∃ l, r.cs = tameCs l 4) ∧ ∀ c ∈ r.cs, I64 c.n := by
 intro r hr
 obtain ⟨i, hi, rfl⟩ := List.mem_map.1 hr
 rw [List.mem_range] at hi
 obtain ⟨x0, x1, x2, x3, g0, g1, g2, g3, e⟩ := tameCs_four ((M[i]?).elim [] (·.cs))
 obtain ⟨e1, e2, e3⟩ := cells_four g0 g1 g2 g3
 rw [← e] at e1 e2 e3
 have ht := riseT_range M (i + 1)
 refine ⟨?_, ⟨_, rfl⟩, e3⟩
 show (headRB (riseT M (i + 1)) i (tameCs _ 4).length && cellsRB none (tameCs _ 4)) = true
 rw [e1, Bool.and_true]
 unfold headRB
 simp only [Bool.and_eq_true, decide_eq_true_eq]
 omega
theorem risingM_row (M : List RowM) (n : Nat) (hn : n ≤ 16) : ∀ r ∈ risingM M n, rowB r.t r.s r.cs = true ∧ (∃ l, r.cs = tameCs l 4) ∧ ∀ c ∈ r.cs, I64 c.n := rising17_row M n (by omega)
theorem risingM_len (M : List RowM) (n : Nat) : (risingM M n).length = n := by simp [risingM]
theorem risingM_get (M : List RowM) (n i : Nat) (h : i < (risingM M n).length) : (risingM M n)[i] = riseRow M i := by simp [risingM]
theorem risingM_check (M : List RowM) (n : Nat) (hn : n ≤ 16) : checkM (risingM M n) = 0 := by
 have hr := risingM_row M n hn
 have h1 : ¬ (risingM M n).any (fun r => !r.ok) = true := by
  intro h
  obtain ⟨r, h1, h2⟩ := List.any_eq_true.1 h
  have : r.ok = true := (hr r h1).1
  rw [this] at h2
  cases h2
 have h2 : risesM (risingM M n) = true := risesM_true _ (fun i h => by
  rw [risingM_get, risingM_get]
  have hs := stepI_range ((M[i + 1]?).elim 0 (·.t))
  have ht : riseT M (i + 1 + 1) = riseT M (i + 1) + stepI ((M[i + 1]?).elim 0 (·.t)) := rfl
  unfold lessM riseRow
  dsimp only
  rw [ht]
  unfold cmpR orZ cmpZ
  simp only [decide_eq_true_eq]
  split <;> (try split) <;> (try split) <;> (try split) <;> (try split) <;> omega)
 obtain ⟨a, b, s, t, h3⟩ := growsF_tame (risingM M n) (fun r h => ⟨(hr r h).1, (hr r h).2.1⟩) false false false false 0
 unfold checkM
 rw [if_neg h1, if_pos h2, if_pos]
 unfold growsR
 rw [if_pos (by rfl)]
 show (growsF (stL false false false false) 0 (risingM M n)).2.1 = 0
 rw [h3]
theorem risingM_write (M : List RowM) (n : Nat) (h0 : 0 < n) (hn : n ≤ 16) : writeM (risingM M n) = (bytesM (risingM M n), 0) := by
 unfold writeM
 rw [risingM_len, if_neg (by omega), if_pos (risingM_check M n hn)]
theorem bytesM_pos (M : List RowM) : 0 < (bytesM M).length := by
 have := putV_pos (M.map (·.t)).length
 unfold bytesM deltaB
 simp only [List.length_append]
 omega
theorem bytesM_len (M : List RowM) (hl : M.length ≤ 65536) (h : ∀ r ∈ M, rowB r.t r.s r.cs = true) (hi : ∀ r ∈ M, ∀ c ∈ r.cs, I64 c.n) : (bytesM M).length ≤ 1000000000000 := by
 have ht : ∀ x ∈ M.map (·.t), I64 x := fun x hx => by
  obtain ⟨r, hr, rfl⟩ := List.mem_map.1 hx
  have := rowB_head (h r hr)
  unfold I64
  omega
 have hs : ∀ x ∈ M.map (·.s), I64 x := fun x hx => by
  obtain ⟨r, hr, rfl⟩ := List.mem_map.1 hx
  have := rowB_head (h r hr)
  unfold I64
  omega
 have h1 := deltaB_len _ ht (by rw [List.length_map]; omega)
 have h2 := deltaB_len _ hs (by rw [List.length_map]; omega)
 have h3 := growsR_len M
 have h4 := partsB_len M hl hi _ (growsR_names M)
 have h5 := putV_len10 (n := (growsR [] M).1.length) (by omega)
 unfold bytesM
 simp only [List.length_append, List.length_map] at h1 h2 ⊢
 omega
theorem risingM_bytes (M : List RowM) (n : Nat) (hn : n ≤ 16) : (bytesM (risingM M n)).length ≤ 1000000000000 :=
 bytesM_len _ (by rw [risingM_len]; omega) (fun r hr => (risingM_row M n hn r hr).1) (fun r hr => (risingM_row M n hn r hr).2.2)
theorem built_lens {H : List RowH} {L : List (List CellM)} {ts ss : List Int} {qs : List PartQ} (hl : H.length = L.length) (h : rowsM H L = builtM ts ss qs) (hq : qs.length ≤ 12) : H.length = ts.length ∧ ∀ x ∈ L, x.length ≤ 12 := by
 refine ⟨?_, fun x hx => ?_⟩
 ·have := congrArg List.length h
  rw [rowsM_len H L hl, builtM_len] at this
  exact this
 ·rw [← rowsM_cs H L hl, h] at hx
  obtain ⟨r, hr, rfl⟩ := List.mem_map.1 hx
  unfold builtM at hr
  obtain ⟨i, _, rfl⟩ := List.mem_map.1 hr
  exact Nat.le_trans (cellsB_len i qs) hq
def oneA : ByteArray := ⟨#[97]⟩
def knownM : List RowM := [⟨1, 0, [⟨oneA, 1, 5, ⟨#[]⟩⟩]⟩, ⟨1, 1, []⟩]
theorem known_I64 : ∀ r ∈ knownM, ∀ c ∈ r.cs, I64 c.n := by
 intro r hr c hc
 rcases List.mem_cons.1 hr with rfl | hr
 ·rcases List.mem_cons.1 hc with rfl | hc
  ·exact ⟨by decide, by decide⟩
  ·cases hc
 ·rcases List.mem_cons.1 hr with rfl | hr
  ·cases hc
  ·cases hr
set_option maxRecDepth 100000 in
theorem known_write : (writeM knownM).2 = 0 := by kernel_rfl
set_option maxRecDepth 100000 in
theorem known_read0 : (readG (writeM knownM).1).map (fun x => (x.1.length == 2) && eqMs (builtM x.1 x.2.1 x.2.2) knownM) = some true := by kernel_rfl
set_option maxRecDepth 100000 in
theorem known_len : (writeM knownM).1.length ≤ 100 := by
 have h : decide ((writeM knownM).1.length ≤ 100) = true := by kernel_rfl
 exact of_decide_eq_true h
theorem known_read {x : List Int × List Int × List PartQ} (h : readG (writeM knownM).1 = some x) : x.1.length = 2 ∧ eqMs (builtM x.1 x.2.1 x.2.2) knownM = true := by
 have h0 := known_read0
 rw [h] at h0
 simpa using h0
theorem known_some : readG (writeM knownM).1 ≠ none := by
 intro h
 have h0 := known_read0
 rw [h] at h0
 cases h0
end Go.Proofs.YtcmffaejcnbheaaGreat.Lib0
namespace Go.Proofs.YtcmffaejcnbheaaGreat.Lib0
open Go.RowKit Go.Proofs.YtcmffaejcnbheaaGreatW.PrintWords Go.ChangeMaps
set_option maxHeartbeats 3200000 in
set_option maxRecDepth 100000 in
theorem law16_known (w : World) : Calls Tryz.prog 10 #[] w fun e w' => e = .returned (.bool true) ∧ Below w.heap.size w w' := by
 have HW0 := Aside0.mk (group_Write none 0 [] [] w ⟨rfl, by simp, fun h => by simp at h⟩ ⟨rfl, fun i h1 => by simp at h1⟩ (fun r hr => by simp [rowsM] at hr))
 simp only [List.length_nil] at HW0
 rw [show writeR [] [] = ([], 4) from rfl] at HW0
 go_enter Tryz.func10, Tryz.ntmps10
 go_wp2_with fail
 (with_reducible refine HW0.out.mono ?_)
 rintro e w1 ⟨v1, rfl, hr1, hb1⟩
 obtain ⟨A1, c1, rfl⟩ := Kd.R_slice hr1
 have B1 := Aside0.mk hb1
 clear hr1 hb1 HW0
 have HN := Aside0.mk (keep_Num oneA 5 w1)
 unfold oneA at HN
 go_wp2_with fail
 (with_reducible refine HN.out.mono ?_)
 rintro e w2 ⟨rfl, hb2⟩
 have B2 := Aside0.mk hb2
 clear hb2 HN
 have hn3 := heap_alloc_new w2 (.cells #[.string ⟨#[97]⟩, .int .i64 1, .int .i64 5, .string ⟨#[]⟩] 78)
 have B3 := Aside0.mk (below_alloc (Below.refl w2.heap.size w2) (.cells #[.string ⟨#[97]⟩, .int .i64 1, .int .i64 5, .string ⟨#[]⟩] 78))
 have hc3 := C_of (kc_flat.R_new (base := 0) (xs := [⟨⟨#[97]⟩, 1, 5, ⟨#[]⟩⟩]) (cap := 1) (Nat.zero_le _) hn3 (by decide) (by decide) rfl rfl)
 have HA1 := Aside0.mk (show Calls Tryz.prog 34 #[.int .i64 1, .int .i64 0, .slice (some ⟨w2.heap.size, 0, none⟩) 1 1] (w2.alloc (.cells #[.string ⟨#[97]⟩, .int .i64 1, .int .i64 5, .string ⟨#[]⟩] 78)) (AtS (w2.alloc (.cells #[.string ⟨#[97]⟩, .int .i64 1, .int .i64 5, .string ⟨#[]⟩] 78)) 1 0 [⟨⟨#[97]⟩, 1, 5, ⟨#[]⟩⟩]) from keep_At1 1 0 ⟨w2.heap.size, 0, none⟩ 1 [⟨⟨#[97]⟩, 1, 5, ⟨#[]⟩⟩] _ hc3 (by decide))
 clear hn3 hc3
 go_wp2_with fail
 (with_reducible refine HA1.out.mono ?_)
 rintro e w4 ⟨A4, c4, rfl, hc4, hr4, hb4⟩
 have B4 := Aside0.mk hb4
 have R4 := Aside0.mk hr4
 have C4 := Aside0.mk hc4
 clear hb4 hr4 hc4 HA1
 have HA2 := Aside0.mk (keep_At0 1 1 w4)
 go_wp2_with fail
 (with_reducible refine HA2.out.mono ?_)
 rintro e w5 ⟨A5, c5, rfl, hc5, hr5, hb5⟩
 have B5 := Aside0.mk hb5
 have R5 := Aside0.mk hr5
 have C5 := Aside0.mk hc5
 clear hb5 hr5 hc5 HA2
 go_wp2_with fail
 obtain ⟨W, hW⟩ : ∃ W, W = w5.alloc (.cells #[.int .i64 1, .int .i64 0, .slice A4 1 c4, .int .i64 1, .int .i64 1, .slice A5 0 c5] 76) := ⟨_, rfl⟩
 have hn6 := heap_alloc_new w5 (.cells #[.int .i64 1, .int .i64 0, .slice A4 1 c4, .int .i64 1, .int .i64 1, .slice A5 0 c5] 76)
 have hb6 := below_alloc (Below.refl w5.heap.size w5) (.cells #[.int .i64 1, .int .i64 0, .slice A4 1 c4, .int .i64 1, .int .i64 1, .slice A5 0 c5] 76)
 rw [← hW] at hn6 hb6 ⊢
 have hr6 := C_of (kr_flat.R_new (base := 0) (xs := [⟨1, 0, A4, 1, c4⟩, ⟨1, 1, A5, 0, c5⟩]) (cap := 2) (Nat.zero_le _) hn6 (Nat.le_refl 2) (by decide) rfl rfl)
 have ho6 : RowsOn W [⟨1, 0, A4, 1, c4⟩, ⟨1, 1, A5, 0, c5⟩] [[⟨⟨#[97]⟩, 1, 5, ⟨#[]⟩⟩], []] := by
  refine ⟨rfl, fun i h1 h2 => ?_⟩
  rcases i with _ | _ | i
  ·exact ⟨rfl, C4.out, C_of (Kd.R_below (Kd.R_below R4.out B5.out) hb6)⟩
  ·exact ⟨rfl, C5.out, C_of (Kd.R_below R5.out hb6)⟩
  ·simp at h1; omega
 have hk6 : rowsM [⟨1, 0, A4, 1, c4⟩, ⟨1, 1, A5, 0, c5⟩] [[⟨⟨#[97]⟩, 1, 5, ⟨#[]⟩⟩], []] = knownM := rfl
 have BW := Aside0.mk (show Below w.heap.size w W from B1.out.trans ((B2.out.trans ((B3.out.trans ((B4.out.trans ((B5.out.trans (hb6.mono B5.out.size)).mono B4.out.size)).mono B3.out.size)).mono B2.out.size)).mono B1.out.size))
 clear hW hn6 hb6 B1 B2 B3 B4 B5 R4 R5 C4 C5
 obtain ⟨ad, had⟩ : ∃ ad : Addr, ad = ⟨w5.heap.size, 0, none⟩ := ⟨_, rfl⟩
 obtain ⟨H, hH⟩ : ∃ H : List RowH, H = [⟨1, 0, A4, 1, c4⟩, ⟨1, 1, A5, 0, c5⟩] := ⟨_, rfl⟩
 obtain ⟨L, hL⟩ : ∃ L : List (List CellM), L = [[⟨⟨#[97]⟩, 1, 5, ⟨#[]⟩⟩], []] := ⟨_, rfl⟩
 rw [← hH, ← hL] at ho6 hk6
 rw [← hH] at hr6
 rw [← had] at hr6 ⊢
 have HL2 := Aside0.mk (show H.length = 2 by rw [hH]; rfl)
 rw [HL2.out] at hr6
 have hcl : ∀ c ∈ L, c.length ≤ 1099511627776 := by rw [hL]; intro c hc; simp at hc; rcases hc with rfl | rfl <;> decide
 have HWR := Aside0.mk (group_Write (some ad) 2 H L W (by rw [HL2.out]; exact hr6) ho6 (by rw [hk6]; exact known_I64))
 rw [HL2.out, writeR_M ho6.1, hk6, known_write] at HWR
 have HR6 := Aside0.mk hr6
 have HO6 := Aside0.mk ho6
 have HK6 := Aside0.mk hk6
 have HCL := Aside0.mk hcl
 clear hr6 ho6 hk6 hcl had hH hL
 go_wp2_with fail
 (with_reducible refine HWR.out.mono ?_)
 rintro e w7 ⟨v7, rfl, hr7, hb7⟩
 obtain ⟨A7, c7, rfl⟩ := Kd.R_slice hr7
 have R7 := Aside0.mk hr7
 have B7 := Aside0.mk (BW.out.trans (hb7.mono BW.out.size))
 have O7 := Aside0.mk (HO6.out.below hb7)
 have K7 := Aside0.mk (Kd.C_below HR6.out hb7)
 obtain ⟨A', c', e9, hc7, _⟩ := Kd.R_reads hr7
 cases e9
 have HRD := Aside0.mk (group_Read A7 c7 (writeM knownM).1 w7 (C_of hr7) hc7 (by have := known_len; omega))
 clear hr7 hb7 hc7 HWR BW HR6 HO6
 have hkl := known_len
 have HKR := Aside0.mk (fun x (h : readG (writeM knownM).1 = some x) => known_read h)
 have HKS := Aside0.mk known_some
 generalize (writeM knownM).1 = lb at *
 go_wp2_with fail
 (with_reducible refine HRD.out.mono ?_)
 intro e w8 hrd
 rcases hrd with ⟨hnone, _⟩ | ⟨ts, ss, ps, lo, hi, hs, rfl, hg, hlo, hhi, hb8⟩
 ·exact absurd hnone HKS.out
 have HF := Aside0.mk (readG_some hs)
 have HE := Aside0.mk (HKR.out _ hs)
 have HG := Aside0.mk hg.g
 have B8 := Aside0.mk hb8
 clear hs hg hlo hhi hb8 HRD HKR HKS
 have HCT := Aside0.mk (group_Count HG.out)
 rw [HE.out.1] at HCT
 go_wp2_with fail
 (with_reducible refine HCT.out.mono ?_)
 rintro e w9 ⟨rfl, rfl⟩
 go_wp2_with fail
 have HRW := Aside0.mk (group_Rows (.inl HG.out) HF.out.fit B8.out.size)
 (with_reducible refine HRW.out.mono ?_)
 rintro e w10 ⟨H', L', A9, c9, rfl, hr9, ho9, hk9, hg9, hf9⟩
 have B10 := Aside0.mk (FrG.below HG.out.K hf9 (Nat.le_refl _) B8.out.size)
 have hl9 := built_lens ho9.1 hk9 HF.out.ps12
 have BB := Aside0.mk (B8.out.trans B10.out)
 have hcl := HCL.out
 have HKR := Aside0.mk (keep_Rows A9 (some ad) c9 2 H' H L' L w10 (C_of hr9) (by rw [HL2.out]; exact Kd.C_below K7.out BB.out) ho9 (O7.out.below BB.out) (by have := hl9.1; have := HF.out.n16; omega) (by rw [HL2.out]; decide) (fun c hc => by have := hl9.2 c hc; omega) hcl)
 rw [HL2.out, hk9, HK6.out, HE.out.2] at HKR
 have BF := Aside0.mk (B7.out.trans (BB.out.mono B7.out.size))
 clear hr9 ho9 hk9 hg9 hf9 B10 hl9 hcl HRW
 go_wp2_with fail
 (with_reducible refine HKR.out.mono ?_)
 rintro e w11 ⟨rfl, hb11⟩
 have BZ := Aside0.mk (BF.out.trans (hb11.mono BF.out.size))
 clear hb11
 go_wp2
 go_ret
 exact ⟨rfl, BZ.out⟩
end Go.Proofs.YtcmffaejcnbheaaGreat.Lib0

import Derived.Test.YtcmffaejcnbheaaGreatQ47
import Derived.Test.YtcmffaejcnbheaaGreatQ26
set_option linter.unusedVariables false
set_option linter.unusedSimpArgs false
namespace Go.Proofs.YtcmffaejcnbheaaGreat.Lib0
open Go.RowKit Go.Proofs.YtcmffaejcnbheaaGreatW.PrintWords Go.ChangeMaps
theorem lessS_byt (a b : ByteArray) : lessS a b = decide (byt a < byt b) := by
 unfold lessS
 rw [Go.Proofs.bytesLess_eq, ByteArray.toList_eq, ByteArray.toList_eq]
 rfl
theorem lessS_trans {a b c : ByteArray} (h : lessS a b = true) (g : lessS b c = true) : lessS a c = true := by
 rw [lessS_byt, decide_eq_true_eq] at *
 exact List.lt_trans h g
theorem lessS_irrefl (a : ByteArray) : lessS a a = false := by
 rw [lessS_byt, decide_eq_false_iff_not]
 exact List.lt_irrefl _
theorem lessS_tri {a b : ByteArray} (h : lessS a b = false) (g : lessS b a = false) : a = b := by
 rw [lessS_byt, decide_eq_false_iff_not] at *
 have := List.le_antisymm (List.not_lt.1 g) (List.not_lt.1 h)
 have h2 := congrArg str this
 rw [str_byt, str_byt] at h2
 exact h2
def lbF (p : Nat → Bool) : Nat → Nat → Nat → Nat
 | 0, i, _ => i
 | f + 1, i, j => if i < j then (if p ((i + j) / 2) then lbF p f ((i + j) / 2 + 1) j else lbF p f i ((i + j) / 2)) else i
theorem lbF_spec (p : Nat → Bool) (n : Nat) (mono : ∀ a b, a ≤ b → b < n → p b = true → p a = true) : ∀ (f i j : Nat), i ≤ j → j ≤ n → j - i ≤ f → (∀ m, m < i → p m = true) → (∀ m, j ≤ m → m < n → p m = false) →
  lbF p f i j ≤ n ∧ (∀ m, m < lbF p f i j → p m = true) ∧ (∀ m, lbF p f i j ≤ m → m < n → p m = false)
 | 0, i, j, h1, h2, h3, h4, h5 => by
  rw [lbF]
  exact ⟨by omega, h4, fun m h => h5 m (by omega)⟩
 | f + 1, i, j, h1, h2, h3, h4, h5 => by
  rw [lbF]
  split
  ·rename_i hij
   split
   ·rename_i hp
    exact lbF_spec p n mono f _ j (by omega) h2 (by omega) (fun m hm => mono m _ (by omega) (by omega) hp) h5
   ·rename_i hp
    refine lbF_spec p n mono f i _ (by omega) (by omega) (by omega) h4 (fun m h6 h7 => ?_)
    cases hpm : p m
    ·rfl
    ·exact absurd (mono _ m h6 h7 hpm) hp
  ·exact ⟨by omega, h4, fun m h => h5 m (by omega)⟩
theorem bsS_lb (d : List ByteArray) (s : ByteArray) : ∀ f i j, bsS d s f i j = lbF (fun m => lessS (d.getD m ByteArray.empty) s) f i j
 | 0, i, j => rfl
 | f + 1, i, j => by rw [bsS, lbF, bsS_lb d s f, bsS_lb d s f]
def RiseS (d : List ByteArray) : Prop := ∀ i j, (_ : i < j) → (h : j < d.length) → lessS (d[i]'(by omega)) d[j] = true
theorem RiseS.get {d : List ByteArray} (h : RiseS d) {i j : Nat} (hi : i < j) (hj : j < d.length) : lessS (d.getD i ByteArray.empty) (d.getD j ByteArray.empty) = true := by
 have := h i j hi hj
 simpa [List.getD, List.getElem?_eq_getElem hj, List.getElem?_eq_getElem (show i < d.length by omega)] using this
theorem RiseS.rises {d : List ByteArray} (h : RiseS d) : risesS d = true := risesS_true d (fun i hi => h i (i + 1) (by omega) hi)
theorem find_at {d : List ByteArray} (h : RiseS d) {q : Nat} (hq : q < d.length) : findS d d[q] = (q, true) := by
 obtain ⟨h1, h2, h3⟩ := lbF_spec (fun m => lessS (d.getD m ByteArray.empty) d[q]) d.length (fun a b hab hb hp => by
  rcases Nat.lt_or_ge a b with hl | hl
  ·exact lessS_trans (h.get hl hb) hp
  ·obtain rfl : a = b := by omega
   exact hp) d.length 0 d.length (Nat.zero_le _) (Nat.le_refl _) (by omega) (fun m hm => by omega) (fun m h4 h5 => by omega)
 have hdq : d.getD q ByteArray.empty = d[q] := by simp [List.getD, List.getElem?_eq_getElem hq]
 have hr : lbF (fun m => lessS (d.getD m ByteArray.empty) d[q]) d.length 0 d.length = q := by
  rcases Nat.lt_trichotomy (lbF (fun m => lessS (d.getD m ByteArray.empty) d[q]) d.length 0 d.length) q with hl | hl | hl
  ·have h4 := h3 _ (Nat.le_refl _) (by omega)
   have h5 := h.get hl hq
   rw [hdq] at h5
   rw [h5] at h4
   cases h4
  ·exact hl
  ·have h4 := h2 q hl
   rw [hdq, lessS_irrefl] at h4
   cases h4
 unfold findS findB
 rw [bsS_lb, hr, hdq]
 simp [hq]
theorem sort_le (l : List (List UInt8)) : (l.mergeSort fun x y => decide (x ≤ y)).Pairwise (· ≤ ·) := by
 have := List.pairwise_mergeSort (le := fun x y : List UInt8 => decide (x ≤ y)) (fun a b c h1 h2 => by
  simp only [decide_eq_true_eq] at *
  exact List.le_trans h1 h2) (fun a b => by
  simp only [Bool.or_eq_true, decide_eq_true_eq]
  exact List.le_total a b) l
 simpa using this
theorem compact_of (zs : List (List UInt8)) (h : zs.Pairwise (· ≤ ·)) : ∀ m, m ≤ zs.length → (Lib.compactUpTo zs.toArray m).Pairwise (· < ·) ∧ ∀ x, x ∈ Lib.compactUpTo zs.toArray m ↔ x ∈ zs.take m
 | 0, _ => by simp [Lib.compactUpTo]
 | m + 1, hm => by
  obtain ⟨h1, h2⟩ := compact_of zs h m (by omega)
  have hml : m < zs.length := by omega
  have hg : zs.toArray[m]! = zs[m] := by simp [hml]
  rw [Lib.compactUpTo_succ, hg]
  have hmem : ∀ x, x ∈ zs.take (m + 1) ↔ x ∈ zs.take m ∨ x = zs[m] := fun x => by
   rw [List.take_succ_eq_append_getElem hml, List.mem_append, List.mem_singleton]
  by_cases hk : Lib.keeps zs.toArray m = true
  ·rw [if_pos hk]
   refine ⟨?_, fun x => by rw [List.mem_append, List.mem_singleton, hmem, h2]⟩
   rw [List.pairwise_append]
   refine ⟨h1, List.pairwise_singleton _ _, fun a ha b hb => ?_⟩
   rw [List.mem_singleton.1 hb]
   have ha2 := (h2 a).1 ha
   obtain ⟨j, hj, hja⟩ := List.mem_iff_getElem.1 ha2
   rw [List.length_take] at hj
   rw [List.getElem_take] at hja
   have hm0 : 0 < m := by omega
   have hne : zs[m] ≠ zs[m - 1] := by
    have : ¬ m = 0 := by omega
    simp only [Lib.keeps, this, false_or, decide_eq_true_eq] at hk
    rw [hg] at hk
    have hg2 : zs.toArray[m - 1]! = zs[m - 1] := by simp [show m - 1 < zs.length by omega]
    rw [hg2] at hk
    exact hk
   have hle1 : zs[m - 1] ≤ zs[m] := List.pairwise_iff_getElem.1 h (m - 1) m (by omega) hml (by omega)
   have hle2 : a ≤ zs[m - 1] := by
    rw [← hja]
    rcases Nat.lt_or_ge j (m - 1) with hl | hl
    ·exact List.pairwise_iff_getElem.1 h j (m - 1) (by omega) (by omega) hl
    ·have : j = m - 1 := by omega
     subst this
     exact List.le_refl _
   have hlt : zs[m - 1] < zs[m] := by
    rcases Classical.em (zs[m - 1] < zs[m]) with hh | hh
    ·exact hh
    ·exact absurd (List.le_antisymm (List.not_lt.1 hh) hle1) hne
   rcases Classical.em (a < zs[m]) with hh | hh
   ·exact hh
   ·exact absurd (List.le_antisymm (List.le_trans (List.not_lt.1 hh) hle2) hle1) hne
  ·rw [if_neg hk, List.append_nil]
   refine ⟨h1, fun x => ?_⟩
   rw [hmem, h2]
   have hm0 : ¬ m = 0 := by
    intro e
    subst e
    simp [Lib.keeps] at hk
   have hg2 : zs.toArray[m - 1]! = zs[m - 1] := by simp [show m - 1 < zs.length by omega]
   have he : zs[m] = zs[m - 1] := by
    have hk2 : Lib.keeps zs.toArray m = false := by simpa using hk
    simp only [Lib.keeps, hm0, false_or, decide_eq_false_iff_not, ne_eq, Classical.not_not] at hk2
    rw [hg, hg2] at hk2
    simpa using hk2
   constructor
   ·exact .inl
   ·rintro (h | h)
    ·exact h
    ·rw [h, he]
     exact List.mem_iff_getElem.2 ⟨m - 1, by rw [List.length_take]; omega, by rw [List.getElem_take]⟩
theorem dictL_spec (l : List ByteArray) : RiseS (dictL l) ∧ ∀ s, s ∈ dictL l ↔ s ∈ l := by
 have hb : ((sortL l).map byt) = (l.map byt).mergeSort fun x y => decide (x ≤ y) := by
  unfold sortL
  rw [List.map_map]
  conv => rhs; rw [← List.map_id ((l.map byt).mergeSort fun x y => decide (x ≤ y))]
  exact List.map_congr_left (fun x _ => byt_str x)
 have hz := sort_le (l.map byt)
 obtain ⟨h1, h2⟩ := compact_of ((l.map byt).mergeSort fun x y => decide (x ≤ y)) hz _ (Nat.le_refl _)
 have hd : dictL l = (Lib.compactUpTo ((l.map byt).mergeSort fun x y => decide (x ≤ y)).toArray ((l.map byt).mergeSort fun x y => decide (x ≤ y)).length).map str := by
  unfold dictL compL
  rw [hb]
  rfl
 rw [hd]
 refine ⟨fun i j hij hj => ?_, fun s => ?_⟩
 ·rw [List.getElem_map, List.getElem_map, lessS_byt, byt_str, byt_str, decide_eq_true_eq]
  rw [List.length_map] at hj; exact List.pairwise_iff_getElem.1 h1 i j (by omega) hj hij
 ·rw [List.mem_map]
  constructor
  ·rintro ⟨x, hx, rfl⟩
   have := (h2 x).1 hx
   rw [List.take_length, (List.mergeSort_perm _ _).mem_iff, List.mem_map] at this
   obtain ⟨t, ht, rfl⟩ := this
   rw [str_byt]
   exact ht
  ·intro hs
   refine ⟨byt s, (h2 _).2 ?_, str_byt s⟩
   rw [List.take_length, (List.mergeSort_perm _ _).mem_iff]
   exact List.mem_map_of_mem hs
end Go.Proofs.YtcmffaejcnbheaaGreat.Lib0
namespace Go.Proofs.YtcmffaejcnbheaaGreat.Lib0
open Go.RowKit Go.Proofs.YtcmffaejcnbheaaGreatW.PrintWords Go.ChangeMaps
def RiseL (l : List ColM) : Prop := l.Pairwise fun a b => lessS a.name b.name = true
theorem RiseL.get {l : List ColM} (h : RiseL l) {i j : Nat} (hi : i < j) (hj : j < l.length) : lessS (l[i]'(by omega)).name l[j].name = true := List.pairwise_iff_getElem.1 h i j (by omega) hj hi
theorem RiseL.one {l : List ColM} (h : RiseL l) {x y : ColM} (hx : x ∈ l) (hy : y ∈ l) (e : x.name = y.name) : x = y := by
 obtain ⟨i, hi, rfl⟩ := List.mem_iff_getElem.1 hx
 obtain ⟨j, hj, rfl⟩ := List.mem_iff_getElem.1 hy
 rcases Nat.lt_trichotomy i j with hl | hl | hl
 ·have := h.get hl hj
  rw [e, lessS_irrefl] at this
  cases this
 ·subst hl; rfl
 ·have := h.get hl hi
  rw [e, lessS_irrefl] at this
  cases this
theorem cmpT_neg (a s : ByteArray) : cmpT a s < 0 ↔ lessS a s = true := by
 unfold cmpT
 split
 ·rename_i h; simp [h]
 ·rename_i h
  split
  ·simp [h]
  ·simp [h]
theorem cmpT_zero (a s : ByteArray) : cmpT a s = 0 ↔ a = s := by
 unfold cmpT
 split
 ·rename_i h
  constructor
  ·intro h2; cases h2
  ·intro h2; rw [h2, lessS_irrefl] at h; cases h
 ·split
  ·rename_i h; simp [h]
  ·rename_i h; simp [h]
theorem bsL_lb (d : List ColM) (s : ByteArray) : ∀ f i j, bsL d s f i j = lbF (fun m => lessS ((d[m]?).elim ByteArray.empty (·.name)) s) f i j
 | 0, i, j => rfl
 | f + 1, i, j => by
  rw [bsL, lbF, bsL_lb d s f, bsL_lb d s f]
  simp only [cmpT_neg]
theorem atL_spec {l : List ColM} (h : RiseL l) (s : ByteArray) : atL l s ≤ l.length ∧ (∀ m (hm : m < l.length), m < atL l s → lessS l[m].name s = true) ∧ (∀ m (hm : m < l.length), atL l s ≤ m → lessS l[m].name s = false) := by
 have hg : ∀ m (hm : m < l.length), (l[m]?).elim ByteArray.empty (·.name) = l[m].name := fun m hm => by rw [List.getElem?_eq_getElem hm]; rfl
 obtain ⟨h1, h2, h3⟩ := lbF_spec (fun m => lessS ((l[m]?).elim ByteArray.empty (·.name)) s) l.length (fun a b hab hb hp => by
  rw [hg b hb] at hp
  show lessS ((l[a]?).elim ByteArray.empty (·.name)) s = true
  rw [hg a (by omega)]
  rcases Nat.lt_or_ge a b with hl | hl
  ·exact lessS_trans (h.get hl hb) hp
  ·obtain rfl : a = b := by omega
   exact hp) l.length 0 l.length (Nat.zero_le _) (Nat.le_refl _) (by omega) (fun m hm => by omega) (fun m h4 h5 => by omega)
 rw [← bsL_lb] at h1 h2 h3
 refine ⟨h1, fun m hm hl => ?_, fun m hm hl => ?_⟩
 ·have := h2 m hl
  rw [hg m hm] at this
  exact this
 ·have := h3 m hl hm
  rw [hg m hm] at this
  exact this
theorem hasL_iff (l : List ColM) (s : ByteArray) : hasL l s = true ↔ ∃ hl : atL l s < l.length, l[atL l s].name = s := by
 unfold hasL
 rw [Bool.and_eq_true, decide_eq_true_eq, decide_eq_true_eq, cmpT_zero]
 constructor
 ·rintro ⟨h1, h2⟩
  rw [List.getElem?_eq_getElem h1] at h2
  exact ⟨h1, h2⟩
 ·rintro ⟨h1, h2⟩
  rw [List.getElem?_eq_getElem h1]
  exact ⟨h1, h2⟩
theorem hasL_mem {l : List ColM} (h : RiseL l) {x : ColM} (hx : x ∈ l) : hasL l x.name = true ∧ l[atL l x.name]? = some x := by
 obtain ⟨h1, h2, h3⟩ := atL_spec h x.name
 obtain ⟨i, hi, rfl⟩ := List.mem_iff_getElem.1 hx
 have hle : atL l l[i].name ≤ i := by
  rcases Nat.lt_or_ge i (atL l l[i].name) with hl | hl
  ·have := h2 i hi hl
   rw [lessS_irrefl] at this
   cases this
  ·exact hl
 have he : atL l l[i].name = i := by
  rcases Nat.lt_or_ge (atL l l[i].name) i with hl | hl
  ·have h4 := h3 _ (by omega) (Nat.le_refl _)
   rw [h.get hl hi] at h4
   cases h4
  ·omega
 refine ⟨(hasL_iff _ _).2 ⟨by omega, ?_⟩, ?_⟩
 ·simp only [he]
 ·rw [he, List.getElem?_eq_getElem hi]
theorem hasL_get {l : List ColM} {s : ByteArray} (h : hasL l s = true) : ∃ x ∈ l, x.name = s ∧ l[atL l s]? = some x := by
 obtain ⟨h1, h2⟩ := (hasL_iff _ _).1 h
 exact ⟨l[atL l s], List.getElem_mem h1, h2, List.getElem?_eq_getElem h1⟩
theorem mem_insL {l : List ColM} {i : Nat} {x y : ColM} : y ∈ insL l i x ↔ y = x ∨ y ∈ l := by
 unfold insL
 rw [List.mem_append, List.mem_cons]
 have : y ∈ l ↔ y ∈ l.take i ∨ y ∈ l.drop i := by rw [← List.mem_append, List.take_append_drop]
 rw [this]
 constructor
 ·rintro (h | h | h)
  ·exact .inr (.inl h)
  ·exact .inl h
  ·exact .inr (.inr h)
 ·rintro (h | h | h)
  ·exact .inr (.inl h)
  ·exact .inl h
  ·exact .inr (.inr h)
theorem insL_rise {l : List ColM} (h : RiseL l) {s : ByteArray} (k : Int) (hn : hasL l s = false) : RiseL (insL l (atL l s) ⟨s, k⟩) := by
 obtain ⟨h1, h2, h3⟩ := atL_spec h s
 have hne : ∀ x ∈ l, x.name ≠ s := fun x hx e => by
  have := (hasL_mem h hx).1
  rw [e, hn] at this
  cases this
 have ht : ∀ x ∈ l.take (atL l s), lessS x.name s = true := fun x hx => by
  obtain ⟨i, hi, rfl⟩ := List.mem_iff_getElem.1 hx
  rw [List.length_take] at hi
  rw [List.getElem_take]
  exact h2 i (by omega) (by omega)
 have hd : ∀ x ∈ l.drop (atL l s), lessS s x.name = true := fun x hx => by
  have hxl := List.mem_of_mem_drop hx
  obtain ⟨i, hi, rfl⟩ := List.mem_iff_getElem.1 hx
  rw [List.length_drop] at hi
  rw [List.getElem_drop] at hxl ⊢
  have h4 := h3 (atL l s + i) (by omega) (by omega)
  cases h5 : lessS s (l[atL l s + i]'(by omega)).name
  ·exact absurd (lessS_tri h4 h5) (hne _ hxl)
  ·rfl
 unfold RiseL insL
 have hp := h
 unfold RiseL at hp
 rw [← List.take_append_drop (atL l s) l, List.pairwise_append] at hp
 obtain ⟨p1, p2, p3⟩ := hp
 rw [List.pairwise_append]
 refine ⟨p1, ?_, ?_⟩
 ·rw [List.pairwise_cons]
  exact ⟨hd, p2⟩
 ·intro a ha b hb
  rcases List.mem_cons.1 hb with rfl | hb
  ·exact ht a ha
  ·exact p3 a ha b hb
theorem growC_spec : ∀ (cs : List CellM) (l l' : List ColM), growC l cs = some l' → RiseL l → RiseL l' ∧ (∀ x ∈ l, x ∈ l') ∧ (∀ c ∈ cs, (⟨c.col, c.kind⟩ : ColM) ∈ l') ∧ (∀ x ∈ l', x ∈ l ∨ ∃ c ∈ cs, x = ⟨c.col, c.kind⟩)
 | [], l, l', h, hl => by
  rw [growC] at h
  injection h with h
  subst h
  exact ⟨hl, fun x hx => hx, fun c hc => (by cases hc), fun x hx => .inl hx⟩
 | c :: cs, l, l', h, hl => by
  rw [growC] at h
  split at h
  ·rename_i hh
   split at h
   ·rename_i hk
    obtain ⟨h1, h2, h3, h4⟩ := growC_spec cs l l' h hl
    obtain ⟨x, hx, hn, hg⟩ := hasL_get hh
    have hxc : x = ⟨c.col, c.kind⟩ := by
     unfold kindAt at hk
     rw [hg] at hk
     obtain ⟨a, b⟩ := x
     dsimp only [Option.elim_some] at hk hn
     rw [hn, hk]
    refine ⟨h1, h2, fun d hd => ?_, fun x hx => ?_⟩
    ·rcases List.mem_cons.1 hd with rfl | hd
     ·rw [← hxc]; exact h2 x hx
     ·exact h3 d hd
    ·rcases h4 x hx with h5 | ⟨d, hd, e⟩
     ·exact .inl h5
     ·exact .inr ⟨d, List.mem_cons_of_mem _ hd, e⟩
   ·cases h
  ·rename_i hh
   obtain ⟨h1, h2, h3, h4⟩ := growC_spec cs _ l' h (insL_rise hl c.kind (by simpa using hh))
   refine ⟨h1, fun x hx => h2 x (mem_insL.2 (.inr hx)), fun d hd => ?_, fun x hx => ?_⟩
   ·rcases List.mem_cons.1 hd with rfl | hd
    ·exact h2 _ (mem_insL.2 (.inl rfl))
    ·exact h3 d hd
   ·rcases h4 x hx with h5 | ⟨d, hd, e⟩
    ·rcases mem_insL.1 h5 with h6 | h6
     ·exact .inr ⟨c, by simp, h6⟩
     ·exact .inl h6
    ·exact .inr ⟨d, List.mem_cons_of_mem _ hd, e⟩
theorem growR_ok {l : List ColM} {cs : List CellM} (h : (growR l cs).2 = 0) : growC l cs = some (growR l cs).1 := by
 unfold growR at h ⊢
 cases hg : growC l cs with
 | none => rw [hg] at h; cases h
 | some l' =>
  rw [hg] at h
  dsimp only at h ⊢
  split at h
  ·rename_i h12; rw [if_pos h12]
  ·cases h
theorem growsF_spec : ∀ (L : List RowM) (l : List ColM) (k : Nat), (growsF l k L).2.1 = 0 → RiseL l → RiseL (growsF l k L).1 ∧ (∀ x ∈ l, x ∈ (growsF l k L).1) ∧ (∀ r ∈ L, ∀ c ∈ r.cs, (⟨c.col, c.kind⟩ : ColM) ∈ (growsF l k L).1) ∧ (∀ x ∈ (growsF l k L).1, x ∈ l ∨ ∃ r ∈ L, ∃ c ∈ r.cs, x = ⟨c.col, c.kind⟩)
 | [], l, k, h, hl => ⟨hl, fun x hx => hx, fun r hr => (by cases hr), fun x hx => .inl hx⟩
 | r :: t, l, k, h, hl => by
  rw [growsF] at h ⊢
  split at h
  ·rename_i hr
   rw [if_pos hr]
   split at h
   ·rename_i h0
    rw [if_pos h0]
    obtain ⟨g1, g2, g3, g4⟩ := growC_spec _ _ _ (growR_ok h0) hl
    obtain ⟨h1, h2, h3, h4⟩ := growsF_spec t _ _ h g1
    refine ⟨h1, fun x hx => h2 x (g2 x hx), fun d hd c hc => ?_, fun x hx => ?_⟩
    ·rcases List.mem_cons.1 hd with rfl | hd
     ·exact h2 _ (g3 c hc)
     ·exact h3 d hd c hc
    ·rcases h4 x hx with h5 | ⟨d, hd, e⟩
     ·rcases g4 x h5 with h6 | ⟨c, hc, e⟩
      ·exact .inl h6
      ·exact .inr ⟨r, by simp, c, hc, e⟩
     ·exact .inr ⟨d, List.mem_cons_of_mem _ hd, e⟩
   ·rename_i h0; exact absurd h h0
  ·cases h
end Go.Proofs.YtcmffaejcnbheaaGreat.Lib0

/- One log on its own disk, as one fact of a world. -/
import Derived.Test.YthacnbbijmgjfaaDoorKnown
import Derived.Test.YthacnbbijmgjfaaDoorTurn
set_option linter.unusedVariables false
set_option linter.unusedSimpArgs false
namespace Go.Proofs.YthacnbbijmgjfaaDoor.Lib0
open Go.RowKit Go.Proofs.YthacnbbijmgjfaaDoorW.PrintWords Go.ChangeMaps

/-- A type of blocks that no disk is made of. -/
def Off (t : TypeId) : Prop := t ≠ 66 ∧ t ≠ 75 ∧ t ≠ 78 ∧ t ≠ 5
theorem off_log : Off 68 := by unfold Off; decide
theorem off_str : Off 9 := by unfold Off; decide
theorem off_int : Off 3 := by unfold Off; decide
/-- What no disk is made of is as it was. -/
structure Kept (base : Nat) (w w' : World) : Prop where
  below : Below base w w'
  typed : ∀ (k : Nat) (cs : Array Value) (t : TypeId) (fr : Nat × Nat), w.heap[k]? = some (.cells cs t fr) → Off t → w'.heap[k]? = some (.cells cs t fr)
/-- The disk at d holds the log alone: its bytes, how many are safe, the quota. -/
def On (w : World) (base d : Nat) (b : List UInt8) (s : Nat) (q : Int) : Prop := ∃ L D, DiskAt w base d L D ∧ One D b s ∧ D.quota = q
section
variable {w w' w1 : World} {base d : Nat} {b : List UInt8} {s : Nat} {q : Int}
theorem Kept.refl (base : Nat) (w : World) : Kept base w w := ⟨Below.refl _ _, fun _ _ _ _ h _ => h⟩
theorem Kept.trans (h : Kept base w w1) (g : Kept base w1 w') : Kept base w w' := ⟨h.below.trans g.below, fun k cs t fr hk ht => g.typed k cs t fr (h.typed k cs t fr hk ht) ht⟩
theorem Kept.of_below (hb : Below w.heap.size w w1) (h : base ≤ w.heap.size) : Kept base w w1 :=
  ⟨hb.mono h, fun k cs t fr hk _ => (hb.block k (Array.getElem?_eq_some_iff.1 hk).1).trans hk⟩
theorem Kept.of_step {L L' : Lay} {D D' : ADisk} (h : DiskAt w base d L D) (hs : DStep w base d L D w' L' D') : Kept base w w' :=
  ⟨hs.keep.below (fun k hk => h.fp_base k hk) (by have := h.b0; have := (Array.getElem?_eq_some_iff.1 h.self).1; omega),
   fun k cs t fr hk ht => (hs.keep.block k (Array.getElem?_eq_some_iff.1 hk).1 (h.not_fp hk ht.1 ht.2.1 ht.2.2.1 ht.2.2.2)).trans hk⟩
theorem On.base_le (h : On w base d b s q) : base ≤ w.heap.size := by
  obtain ⟨L, D, h, _⟩ := h
  have := h.b0
  have := (Array.getElem?_eq_some_iff.1 h.self).1
  omega
theorem On.below (h : On w base d b s q) (hb : Below w.heap.size w w1) : On w1 base d b s q := by
  obtain ⟨L, D, h, h1, h2⟩ := h
  exact ⟨L, D, (DStep.of_below h hb).at_, h1, h2⟩
theorem On.of_step {L L' : Lay} {D D' : ADisk} (hs : DStep w base d L D w' L' D') (ho : One D' b s) (hq : D'.quota = q) : On w' base d b s q := ⟨L', D', hs.at_, ho, hq⟩
theorem LogAt.kept {lg : Nat} {nm : Name} (h : LogAt w lg d nm) (hk : Kept base w w') : LogAt w' lg d nm := hk.typed _ _ _ _ h off_log
theorem LogAt.made {lg : Nat} {nm : Name} (h : LogAt w lg d nm) (hb : Below w.heap.size w w1) : LogAt w1 lg d nm := h.below hb h.lt
theorem R_kept {α : Type} {dd : Kd α} {e b0 : Nat} {ok : Nat → Prop} {v : Value} {l : List α} (hE : dd.E = []) (h : dd.R e w b0 ok v l) (hk : Kept base w w') (ht : Off e) : dd.R e w' b0 ok v l := by
  obtain ⟨inner, ho⟩ := Kd.R_own h
  exact R_moved hE h (fun k hk2 => by
    obtain ⟨cells, hc⟩ := own_typed ho k hk2
    rw [hc]
    exact hk.typed _ _ _ _ hc ht)
/-- A row has grown: blocks of all other types are as they were. -/
structure Grew (e : TypeId) (base : Nat) (w w' : World) : Prop where
  below : Below base w w'
  typed : ∀ (k : Nat) (o : Obj), w.heap[k]? = some o → (∀ cs fr, o ≠ .cells cs e fr) → w'.heap[k]? = some o
theorem Grew.of_own {α : Type} {dd : Kd α} {e : Nat} {ok : Nat → Prop} {v : Value} {l : List α} {b0 : Nat} (h : dd.R e w b0 ok v l) (hb : Below base w w') (hg : w.grownBy w' v.ownBlock) : Grew e base w w' := by
  obtain ⟨inner, ho⟩ := Kd.R_own h
  refine ⟨hb, fun k o hk hn => (hg.block k (Array.getElem?_eq_some_iff.1 hk).1 ?_).trans hk⟩
  intro he
  obtain ⟨cells, hc⟩ := own_typed ho k he.symm
  rw [hk] at hc
  injection hc with hc
  exact hn _ _ hc
theorem On.grew {e : TypeId} (h : On w base d b s q) {b0 : Nat} (hg : Grew e b0 w w') (he : Off e) : On w' base d b s q := by
  obtain ⟨L, D, h, h1, h2⟩ := h
  refine ⟨L, D, h.moved (fun k hk => ?_), h1, h2⟩
  rcases h.fp_kind k hk with ⟨es, c, hx⟩ | ⟨cs, t, hx, ht⟩
  · rw [hx]; exact hg.typed _ _ hx (fun cs fr hc => by cases hc)
  · rw [hx]
    refine hg.typed _ _ hx (fun cs' fr hc => ?_)
    injection hc with _ hc _
    subst hc
    rcases ht with h' | h' | h' | h'
    · exact he.1 h'
    · exact he.2.1 h'
    · exact he.2.2.1 h'
    · exact he.2.2.2 h'
theorem LogAt.grew {lg : Nat} {nm : Name} {e : TypeId} (h : LogAt w lg d nm) {b0 : Nat} (hg : Grew e b0 w w') (he : e ≠ 68) : LogAt w' lg d nm :=
  hg.typed _ _ h (fun cs fr hc => by injection hc with _ hc _; exact he hc.symm)
theorem R_grew {α : Type} {dd : Kd α} {e e2 b0 b1 : Nat} {ok : Nat → Prop} {v : Value} {l : List α} (hE : dd.E = []) (h : dd.R e w b0 ok v l) (hg : Grew e2 b1 w w') (ht : e ≠ e2) : dd.R e w' b0 ok v l := by
  obtain ⟨inner, ho⟩ := Kd.R_own h
  exact R_moved hE h (fun k hk2 => by
    obtain ⟨cells, hc⟩ := own_typed ho k hk2
    rw [hc]
    exact hg.typed _ _ hc (fun cs fr hx => by injection hx with _ hx _; exact ht hx))
/-- New. -/
theorem on_New (w : World) : Calls Tryd.prog 18 #[] w fun e w' => ∃ d, e = .returned (dptr d) ∧ On w' w.heap.size d [] 0 (-1) ∧ Below w.heap.size w w' :=
  (disk_New w).mono fun e w' ⟨d, L, h1, h2, h3⟩ => ⟨d, h1, ⟨L, newD, h2, one_new, rfl⟩, h3⟩
def Opened (w : World) (base d : Nat) (r : List ByteArray) (b : List UInt8) (e : Ending) (w' : World) : Prop :=
  ∃ lg v s', e = .returned (.tuple #[lptr lg, v, .int .i64 0]) ∧ Kd.string.R 9 w' w.heap.size (fun _ => True) v r ∧ On w' base d b s' (-1) ∧ LogAt w' lg d logN ∧ Kept base w w'
theorem on_Open (h : On w base d b s (-1)) (hb : b.length ≤ 8000000) :
    Calls Tryd.prog 19 #[dptr d, .string logN] w (Opened w base d ((allB b).1.map str) (b.take (allB b).2.1.toNat)) := by
  obtain ⟨L, D, h, ho, hq⟩ := h
  have fin : ∀ (P : ADisk → Prop) (r : List ByteArray) (b' : List UInt8), (∀ D', P D' → ∃ s, One D' b' s ∧ D'.quota = -1) → ∀ e w', OpenPost w base d L D logN r P e w' → Opened w base d r b' e w' := by
    rintro P r b' hP e w' ⟨lg, v, L', D', rfl, hr, hs, hlg, hge, hp⟩
    obtain ⟨s', h1, h2⟩ := hP D' hp
    exact ⟨lg, v, s', rfl, hr, ⟨L', D', hs.at_, h1, h2⟩, hlg, Kept.of_step h hs⟩
  obtain ⟨t, hb1, hb2, hb3, hb4⟩ := allB_is b
  have hread := ho.read
  have hlen : (recs (allB b).1).length ≤ b.length := by have := congrArg List.length hb1; rw [List.length_append] at this; omega
  rcases ho.look with ⟨h1, rfl⟩ | h1
  · refine (open_none h log_good h1).mono (fin _ _ _ ?_)
    rintro D' rfl
    exact ⟨s, by simpa using ho, hq⟩
  · by_cases hw : (allB b).2.1 < b.length
    · have := open_cut h log_good h1 (by rw [hread]; exact hw) (by rw [hread, hb2]; omega) (by rw [hread]; omega) ho.cut (by have := ho.chg; omega) (by rw [hread, ho.why cut_good, if_neg (by omega)])
      rw [hread] at this
      refine this.mono (fin _ _ _ ?_)
      rintro D' ⟨g, hg, rfl⟩
      refine ⟨_, ho.cutd h1 _ hg, ?_⟩
      have : ∀ (X : ADisk), (renD' X cutName logN).quota = X.quota := fun X => by unfold renD'; split <;> rfl
      have h3 : ∀ (X : ADisk), (syncD X cutName).quota = X.quota := fun X => by unfold syncD; split <;> rfl
      show (renD' _ cutName logN).quota = -1
      rw [this, h3]
      unfold appD
      split <;> simp [appQ, hq]
    · have := open_file h log_good h1 (by rw [hread]; exact hw) (by rw [hread]; omega)
      rw [hread] at this
      refine this.mono (fin _ _ _ ?_)
      rintro D' rfl
      exact ⟨s, by rw [List.take_of_length_le (by omega)]; exact ho, hq⟩
/-- Records, and what ends reading. -/
theorem on_Open_recs (l : List (List UInt8)) (hl : ∀ x ∈ l, x.length ≤ 1048576) (t : List UInt8) (ht : Stops t) (h : On w base d (recs l ++ t) s (-1)) (hb : (recs l ++ t).length ≤ 8000000) :
    Calls Tryd.prog 19 #[dptr d, .string logN] w (Opened w base d (l.map str) (recs l)) := by
  have h1 := on_Open h hb
  obtain ⟨e1, e2⟩ := allB_recs l hl t ht
  rwa [e1, e2, Int.toNat_natCast, List.take_left] at h1
/-- The disk alone, with bytes of anything. -/
theorem on_disk_Append (h : On w base d b s (-1)) {A : Option Addr} {n c : Nat} {z : List UInt8} (hr : u8.R 5 w n (fun _ => True) (.slice A z.length c) z) (hA : ∀ k, (Value.slice A z.length c).ownBlock = some k → k < base) (hl : b.length + z.length ≤ 16777216) :
    Calls Tryd.prog 25 #[dptr d, .string logN, .slice A z.length c] w fun e w' => e = .returned (.int .i64 0) ∧ On w' base d (b ++ z) s (-1) ∧ Kept base w w' := by
  obtain ⟨L, D, h, ho, hq⟩ := h
  have hsrc : Src w d L D A z := by
    intro W hW
    obtain ⟨inner, hown⟩ := Kd.R_own hr
    obtain ⟨A', c', hv, _, hC⟩ := u8_R_len (R_moved (w' := W) rfl hr (fun k hk => by
      obtain ⟨cells, hc⟩ := own_typed hown k hk
      exact hW k (Array.getElem?_eq_some_iff.1 hc).1 (fun hf => by have := h.fp_base k hf; have := hA k hk; omega)))
    cases hv
    exact hC
  refine (disk_Append h logN A c z hsrc (by omega) (by have := ho.chg; omega)).mono ?_
  intro e w' ha
  obtain ⟨L', D', rfl, hs, h1, h2⟩ := app_one ho hq hl ha
  exact ⟨rfl, ⟨L', D', hs.at_, h1, h2⟩, Kept.of_step h hs⟩
/-- Append: with room, or refused. -/
def roomy (q : Int) (n : Nat) : Bool := !(decide (0 ≤ q) && decide (q < n))
theorem on_AppendQ (h : On w base d b s q) {lg : Nat} (hl : LogAt w lg d logN) (rec : Name) (hr : rec.size ≤ 65536) (hb : b.length ≤ 8000000) :
    Calls Tryd.prog 20 #[lptr lg, .string rec] w fun e w' => e = .returned (.int .i64 (if roomy q (rec.size + 12) then 0 else 13)) ∧ (∃ q', On w' base d (if roomy q (rec.size + 12) then b ++ sealB (byt rec) else b) s q') ∧ Kept base w w' := by
  obtain ⟨L, D, h, ho, hq⟩ := h
  refine (log_Append h hl rec hr (by have := ho.chg; omega)).mono ?_
  rintro e w' ⟨L', D', g, h1, h2, h3, h4⟩
  have hw : appWhy D logN (sealB (byt rec)).length = if roomy q (rec.size + 12) then 0 else 13 := by
    rw [ho.why log_good, hq, sealB_len', byt_length]
    unfold roomy
    by_cases hx : 0 ≤ q ∧ q < ((rec.size + 12 : Nat) : Int)
    · rw [if_pos (.inr hx)]; simp only [hx.1, hx.2, decide_true, Bool.and_true, Bool.not_true]; rfl
    · rw [if_neg (by omega), if_pos]
      rw [← Bool.decide_and, Bool.not_eq_true', decide_eq_false hx]
  rw [hw] at h1 h3
  refine ⟨h1, ?_, Kept.of_step h h2⟩
  cases hc : roomy q (rec.size + 12) with
  | false =>
    rw [hc] at h3
    subst h3
    exact ⟨_, _, _, h2.at_, ho, rfl⟩
  | true =>
    rw [hc] at h3
    subst h3
    exact ⟨_, _, _, h2.at_, ho.app _ h4, rfl⟩
theorem on_Append (h : On w base d b s (-1)) {lg : Nat} (hl : LogAt w lg d logN) (rec : Name) (hr : rec.size ≤ 65536) (hb : b.length ≤ 8000000) :
    Calls Tryd.prog 20 #[lptr lg, .string rec] w fun e w' => e = .returned (.int .i64 0) ∧ On w' base d (b ++ sealB (byt rec)) s (-1) ∧ Kept base w w' := by
  obtain ⟨L, D, h, ho, hq⟩ := h
  refine (log_app h ho hq hl rec hr (by omega)).mono ?_
  rintro e w' ⟨L', D', rfl, hs, h1, h2⟩
  exact ⟨rfl, ⟨L', D', hs.at_, h1, h2⟩, Kept.of_step h hs⟩
theorem on_Sync (h : On w base d b s q) {lg : Nat} (hl : LogAt w lg d logN) :
    Calls Tryd.prog 22 #[lptr lg] w fun e w' => e = .returned (.int .i64 0) ∧ On w' base d b b.length q ∧ Kept base w w' := by
  obtain ⟨L, D, h, ho, hq⟩ := h
  refine (log_Sync h hl log_good).mono ?_
  rintro e w' ⟨L', rfl, hs⟩
  refine ⟨rfl, ⟨L', _, hs.at_, ho.sync, ?_⟩, Kept.of_step h hs⟩
  show (syncD D logN).quota = q
  unfold syncD
  split <;> exact hq
theorem on_Size (h : On w base d b s q) {lg : Nat} (hl : LogAt w lg d logN) :
    Calls Tryd.prog 26 #[lptr lg] w fun e w' => e = .returned (.int .i64 b.length) ∧ Below w.heap.size w w' := by
  obtain ⟨L, D, h, ho, hq⟩ := h
  have := log_Size h hl
  rwa [ho.read] at this
theorem on_Quota (h : On w base d b s q) (q' : Int) (hq' : -9223372036854775808 ≤ q' ∧ q' ≤ 9223372036854775807) :
    Calls Tryd.prog 24 #[dptr d, .int .i64 q'] w fun e w' => e = .returned (.tuple #[]) ∧ On w' base d b s q' ∧ Kept base w w' := by
  obtain ⟨L, D, h, ho, hq⟩ := h
  refine (disk_Quota h q' hq').mono ?_
  rintro e w' ⟨rfl, hs⟩
  exact ⟨rfl, ⟨L, _, hs.at_, ho.quota q', rfl⟩, Kept.of_step h hs⟩
theorem on_Read (h : On w base d b s q) :
    Calls Tryd.prog 27 #[dptr d, .string logN] w fun e w' => ∃ v y, e = .returned (.tuple #[v, .int .i64 y]) ∧ u8.R 5 w' w.heap.size (fun _ => True) v b ∧ Below w.heap.size w w' ∧ (0 < b.length → y = 0) := by
  obtain ⟨L, D, h, ho, hq⟩ := h
  refine (disk_Read h logN).mono ?_
  rintro e w' ⟨v, rfl, hr, hb⟩
  rw [ho.read] at hr
  refine ⟨v, _, rfl, hr, hb, fun hp => ?_⟩
  rcases ho.look with ⟨_, rfl⟩ | h1
  · simp at hp
  · simp [findWhy, log_good, h1]
theorem One.turn {D : ADisk} (h : One D b s) (i : Nat) (hi : i < b.length) (x : UInt8) : turnOk D logN i = true ∧ One (turnD D logN i x) (turnB b i x) s ∧ (turnD D logN i x).quota = D.quota := by
  rcases h.ph with ⟨h1, h2, h3, hb, hs⟩ | ⟨f, h1, hf, h2⟩
  · rw [hb] at hi; simp at hi
  · have ha : assoc D.dir logN = some f := by rw [h1]; simp [assoc]
    have hin : (0 : Int) ≤ i ∧ (i : Int) < (D.file f).b.length := by rw [hf]; show (0 : Int) ≤ i ∧ (i : Int) < b.length; omega
    refine ⟨by simp only [turnOk, ha]; exact decide_eq_true hin, ?_, ?_⟩
    · refine ⟨.inr ⟨f, ?_⟩, ?_⟩
      · simp only [turnD, ha]
        rw [if_pos hin]
        simp only [updN_same, hf, Int.toNat_natCast]
        exact ⟨h1, trivial, h2⟩
      · simp only [turnD, ha]
        rw [if_pos hin]
        exact h.sane
    · simp only [turnD, ha]
      rw [if_pos hin]
theorem on_Turn (h : On w base d b s q) (i : Nat) (hi : i < b.length) (x : UInt8) :
    Calls Tryd.prog 28 #[dptr d, .string logN, .int .i64 i, .int .u8 (x.toNat : Int)] w fun e w' => e = .returned (.bool true) ∧ On w' base d (b.set i (b[i] ^^^ x)) s q ∧ Kept base w w' := by
  obtain ⟨L, D, h, ho, hq⟩ := h
  obtain ⟨h1, h2, h3⟩ := ho.turn i hi x
  refine (disk_Turn h logN i x).mono ?_
  rintro e w' ⟨L', rfl, hs⟩
  rw [h1]
  have e1 : turnB b i x = b.set i (b[i] ^^^ x) := by simp [turnB, List.getD, List.getElem?_eq_getElem hi]
  rw [e1] at h2
  exact ⟨rfl, ⟨L', _, hs.at_, h2, h3.trans hq⟩, Kept.of_step h hs⟩
theorem on_Crash (h : On w base d b s q) (pick : Int) (hp : -9223372036854775808 ≤ pick ∧ pick ≤ 9223372036854775807) :
    Calls Tryd.prog 23 #[dptr d, .int .i64 pick] w fun e w' => e = .returned (.tuple #[]) ∧ (∃ b' s', On w' base d b' s' (-1) ∧ ((b' = [] ∧ s' = 0 ∧ s = 0) ∨ ∃ q, crashF ⟨b, s⟩ q = ⟨b', s'⟩)) ∧ Kept base w w' := by
  obtain ⟨L, D, h, ho, hq⟩ := h
  refine (disk_Crash h ho.sane pick hp (by have := ho.chg; omega)).mono ?_
  rintro e w' ⟨L', rfl, hs⟩
  obtain ⟨b', s', h1, h2⟩ := ho.crash pick
  exact ⟨rfl, ⟨b', s', ⟨L', _, hs.at_, h1, rfl⟩, h2⟩, Kept.of_step h hs⟩
end
theorem str_R_lit (w : World) (l : List ByteArray) (e : TypeId) (hn : l.length ≤ 1099511627776) : Kd.string.R e (w.alloc (.cells (l.map Value.string).toArray e)) w.heap.size (fun _ => True) (.slice (some ⟨w.heap.size, 0, none⟩) l.length l.length) l :=
  Kd.R_of_own (enc := Value.string) ⟨by simp [encs], .inr ⟨w.heap.size, l.length, (l.map Value.string).toArray, rfl, Nat.le_refl _, heap_alloc_new w _, Nat.le_refl _, by simp [maxLen]; omega, by simp, by simp only [Nat.mul_one, encs]; rw [List.take_of_length_le (by simp)]⟩⟩ (fun _ _ => trivial)
section
variable {P : Program} {ops : Array Oper} {rest : List Oper} {o : Oper} {a : Act} {Q : Exit → Act → World → Prop}
/-- append(v, ys...) of texts. -/
theorem str_append_row {W : World} (s x : Operand) (t e : TypeId) (v : Value) (xs ys : List ByteArray) (A : Option Addr) (m c : Nat) (base : Nat)
    (hgd : o.guard = none) (ho : o.op = .call { callee := .builtin .append, args := #[s, x], argTypes := #[t, t] })
    (ht : P.underlying t = some (.slice e)) (hinfo : (P.info? e).map (fun i => (i.zero, i.size, i.bytes)) = some (some (.string ByteArray.empty), 1, 16))
    (hs : a.eval s = v) (hx : a.eval x = .slice A m c)
    (HO : Kd.string.R e W base (fun _ => True) v xs) (HR : Kd.string.C W A m ys) (hbase : base ≤ W.heap.size) (hl : xs.length + m ≤ 1099511627776)
    (h : ∀ v1 w1, Kd.string.R e w1 base (fun _ => True) v1 (xs ++ ys) → Below base W w1 → W.grownBy w1 v.ownBlock → (v1.ownBlock = v.ownBlock ∨ ∃ b, v1.ownBlock = some b ∧ W.heap.size ≤ b) → wpList P ops Q rest (a.put o.dst v1) w1) :
    wpList P ops Q (o :: rest) a W :=
  Kd.R_append_row Value.string ByteArray.empty (w0 := W) base hgd s x t e (.string ByteArray.empty) 16 ho ht hinfo rfl (by decide) v xs ys A m c (fun _ => True) hs hx (fun _ _ => trivial) HO HR (Below.refl _ _) hbase (by omega) h
/-- The same, where a guard stands ahead. -/
theorem str_append_row_if {W : World} (s x : Operand) (t e : TypeId) (v : Value) (xs ys : List ByteArray) (A : Option Addr) (m c : Nat) (base : Nat)
    (hw : Region.wanted o (yielded ops a.tmps) = true) (ho : o.op = .call { callee := .builtin .append, args := #[s, x], argTypes := #[t, t] })
    (ht : P.underlying t = some (.slice e)) (hinfo : (P.info? e).map (fun i => (i.zero, i.size, i.bytes)) = some (some (.string ByteArray.empty), 1, 16))
    (hs : a.eval s = v) (hx : a.eval x = .slice A m c)
    (HO : Kd.string.R e W base (fun _ => True) v xs) (HR : Kd.string.C W A m ys) (hbase : base ≤ W.heap.size) (hl : xs.length + m ≤ 1099511627776)
    (h : ∀ v1 w1, Kd.string.R e w1 base (fun _ => True) v1 (xs ++ ys) → Below base W w1 → W.grownBy w1 v.ownBlock → (v1.ownBlock = v.ownBlock ∨ ∃ b, v1.ownBlock = some b ∧ W.heap.size ≤ b) → wpList P ops Q rest (a.put o.dst v1) w1) :
    wpList P ops Q (o :: rest) a W := by
  have H := Kd.R_append_rows_step Kd.string (Q := Q) (Kc := wpList P ops Q rest) (w0 := W) base hw s x t e (.string ByteArray.empty) 16 ho ht hinfo rfl (by decide) (by decide) v xs ys A m c (fun _ => True) (fun _ => False) hs hx HO HR (fun _ _ h => h) (fun _ hk => hk.elim) (fun _ _ => trivial) (Below.refl _ _) hbase (by omega) h
  rw [if_pos hw] at H
  unfold wpList
  rw [if_pos hw]
  exact .inl H
theorem str_append_if {W : World} (s x : Operand) (t e : TypeId) (v : Value) (xs : List ByteArray) (p : ByteArray) (base : Nat)
    (hw : Region.wanted o (yielded ops a.tmps) = true) (ho : o.op = .call { callee := .builtin .append, args := #[s, x], argTypes := #[t, t] })
    (ht : P.underlying t = some (.slice e)) (hinfo : (P.info? e).map (fun i => (i.zero, i.size, i.bytes)) = some (some (.string ByteArray.empty), 1, 16))
    (hs : a.eval s = v) (hx : a.eval x = .slice (some ⟨W.heap.size, 0, none⟩) 1 1)
    (HO : Kd.string.R e W base (fun _ => True) v xs) (hbase : base ≤ W.heap.size) (hl : xs.length ≤ 1099511627776)
    (h : ∀ v1 w1, Kd.string.R e w1 base (fun _ => True) v1 (xs ++ [p]) → Below base W w1 → W.grownBy w1 v.ownBlock → (v1.ownBlock = v.ownBlock ∨ ∃ b, v1.ownBlock = some b ∧ W.heap.size ≤ b) → wpList P ops Q rest (a.put o.dst v1) w1) :
    wpList P ops Q (o :: rest) a (W.alloc (.cells #[.string p] e)) := by
  have H := Kd.R_append_step Kd.string (Q := Q) (Kc := wpList P ops Q rest) (w0 := W) base hw s x t e (.string ByteArray.empty) 16 ho ht hinfo rfl (by decide) (by decide) v xs p [.string p] (fun _ => True) (fun _ => False) hs hx rfl (fun _ hk => hk.elim) (fun _ _ => trivial)
    HO (Below.refl _ _) hbase (by omega) h
  rw [if_pos hw] at H
  unfold wpList
  rw [if_pos hw]
  exact .inl H
end
end Go.Proofs.YthacnbbijmgjfaaDoor.Lib0

/- Maps from texts to pointers: how their block reads, and what the operations do. -/
import Derived.Test.YthacnbbijmgjfaaDoorLib
import Derived.Maps.RangeRun
import Derived.Maps.Own
import Derived.Maps.RangeWalk
set_option linter.unusedVariables false
set_option linter.unusedSimpArgs false
namespace Go.Proofs.YthacnbbijmgjfaaDoor.Lib0
open Go.RowKit Go.Proofs.YthacnbbijmgjfaaDoorW.PrintWords Go.ChangeMaps

abbrev Name := ByteArray
def fptr (f : Nat) : Value := .pointer (some ⟨f, 0, none⟩)
def optp (f : Option Nat) : Value := match f with | some b => fptr b | none => .pointer none
abbrev Dir := List (Name × Nat)
def pairOf (e : MapEntry) : Value × Value := (e.key, e.val)
def pairD (p : Name × Nat) : Value × Value := (.string p.1, fptr p.2)
def assoc : Dir → Name → Option Nat
  | [], _ => none
  | p :: l, s => if s = p.1 then some p.2 else assoc l s
def putD : Dir → Name → Nat → Dir
  | [], s, f => [(s, f)]
  | p :: l, s, f => if s = p.1 then (p.1, f) :: l else p :: putD l s f
def delD : Dir → Name → Dir
  | [], _ => []
  | p :: l, s => if s = p.1 then l else p :: delD l s
/-- The entries of a map read as l. -/
structure MapOf (es : List MapEntry) (clock : Nat) (l : Dir) : Prop where
  ent : es.map pairOf = l.map pairD
  born : ∀ e ∈ es, e.born < clock
  once : (es.map (·.born)).Nodup
  keys : (l.map (·.1)).Nodup
  short : ∀ p ∈ l, p.1.size ≤ maxLen
def DirIs (w : World) (b : Nat) (l : Dir) : Prop := ∃ es clock, w.heap[b]? = some (.map es clock) ∧ MapOf es.toList clock l
theorem DirIs.moved {w w' : World} {b : Nat} {l : Dir} (h : DirIs w b l) (hb : w'.heap[b]? = w.heap[b]?) : DirIs w' b l := by
  obtain ⟨es, c, h1, h2⟩ := h
  exact ⟨es, c, hb.trans h1, h2⟩
theorem DirIs.lt {w : World} {b : Nat} {l : Dir} (h : DirIs w b l) : b < w.heap.size := by
  obtain ⟨es, c, h1, h2⟩ := h
  exact (Array.getElem?_eq_some_iff.1 h1).1
theorem MapOf.size {es : Array MapEntry} {clock : Nat} {l : Dir} (h : MapOf es.toList clock l) : es.size = l.length := by
  have := congrArg List.length h.ent
  simpa using this

theorem bya_beq (a b : ByteArray) : (a == b) = decide (a = b) := by
  obtain ⟨a⟩ := a
  obtain ⟨b⟩ := b
  show (a == b) = _
  rw [Bool.eq_iff_iff]
  simp

/-- where a key stands -/
def idxD : Dir → Name → Nat → Option (Nat × Nat)
  | [], _, _ => none
  | p :: l, s, i => if s = p.1 then some (i, p.2) else idxD l s (i + 1)
theorem idx_assoc (s : Name) : ∀ (l : Dir) (i : Nat), (idxD l s i).map (·.2) = assoc l s
  | [], _ => rfl
  | p :: l, i => by
    unfold idxD assoc
    split
    · rfl
    · exact idx_assoc s l (i + 1)
theorem findNow_dir (s : Name) : ∀ (es : List MapEntry) (l : Dir) (i : Nat), es.map pairOf = l.map pairD →
    Instr.findNow .string (.string s) es i = some ((idxD l s i).map (fun p => (p.1, fptr p.2)))
  | [], [], _, _ => rfl
  | e :: es, p :: l, i, h => by
    simp only [List.map_cons, List.cons.injEq] at h
    obtain ⟨h1, h2⟩ := h
    simp only [pairOf, pairD, Prod.mk.injEq] at h1
    unfold Instr.findNow idxD
    rw [h1.1, h1.2]
    simp only [Instr.sameNow, bya_beq]
    by_cases hs : s = p.1
    · simp [hs]
    · simp only [hs, decide_false, if_false]
      exact findNow_dir s es l (i + 1) h2
section
variable {P : Program}
theorem run_findKey_dir {k : TypeId} (hk : P.underlying k = some .string) (w : World) (s : Name) {es : List MapEntry} {l : Dir} (h : es.map pairOf = l.map pairD) :
    (Instr.findKey k (.string s) es).run P w = .ok ((idxD l s 0).map (fun p => (p.1, fptr p.2))) w := by
  unfold Instr.findKey
  simp only [Sem.run_bind, run_underlying hk, Result.andThen, findNow_dir s es l 0 h]
  rfl
theorem run_checkKey_str {k : TypeId} (hk : P.underlying k = some .string) (w : World) (s : Name) (em : Bool) : (Instr.checkKey em 10000 k (.string s)).run P w = .ok () w := by
  unfold Instr.checkKey
  simp only [Sem.run_bind, run_underlying hk, Result.andThen]
  rfl
/-- m[s] -/
theorem run_lookup_dir {t k e : TypeId} (ht : P.underlying t = some (.map k e)) (hk : P.underlying k = some .string) (hz : ∀ w, (zeroValue e).run P w = .ok (.pointer none) w) {w : World} {b : Nat} {l : Dir} (h : DirIs w b l) (s : Name) :
    (Instr.lookup t (.map (some b)) (.string s) false).run P w = .ok (optp (assoc l s)) w := by
  obtain ⟨es, c, hb, hm⟩ := h
  have hf := run_findKey_dir (P := P) hk w s hm.ent
  unfold Instr.lookup
  simp only [Sem.run_bind, run_underlying ht, Result.andThen, getObj, Sem.run, hb, run_checkKey_str hk]
  rw [← idx_assoc s l 0]
  cases hi : idxD l s 0 with
  | none => rw [hi] at hf; simp [Sem.run_bind, hz, Result.andThen, hf, optp]
  | some p => rw [hi] at hf; simp [Sem.run_bind, Result.andThen, hf, optp]

/-! What the operations make of the list. -/
theorem assoc_mem {l : Dir} {s : Name} {f : Nat} (h : assoc l s = some f) : (s, f) ∈ l := by
  induction l with
  | nil => cases h
  | cons p l ih =>
    unfold assoc at h
    split at h
    · rename_i hs
      injection h with h
      subst hs h
      simp
    · exact List.mem_cons_of_mem _ (ih h)
theorem assoc_none {l : Dir} {s : Name} (h : assoc l s = none) : ∀ p ∈ l, p.1 ≠ s := by
  induction l with
  | nil => simp
  | cons p l ih =>
    unfold assoc at h
    split at h
    · cases h
    · rename_i hs
      intro q hq
      rcases List.mem_cons.1 hq with rfl | hq
      · exact fun e => hs e.symm
      · exact ih h q hq
theorem assoc_of_mem {l : Dir} {s : Name} {f : Nat} (hn : (l.map (·.1)).Nodup) (h : (s, f) ∈ l) : assoc l s = some f := by
  induction l with
  | nil => cases h
  | cons p l ih =>
    simp only [List.map_cons, List.nodup_cons] at hn
    unfold assoc
    rcases List.mem_cons.1 h with e | h
    · subst e; simp
    · split
      · rename_i hs
        exact absurd (List.mem_map.2 ⟨(s, f), h, hs⟩) hn.1
      · exact ih hn.2 h
theorem putD_keys_mem {l : Dir} {s : Name} {f : Nat} {x : Name} (h : x ∈ (putD l s f).map (·.1)) : x ∈ l.map (·.1) ∨ x = s := by
  induction l with
  | nil => simp [putD] at h; exact .inr h
  | cons p l ih =>
    unfold putD at h
    split at h
    · left; simpa using h
    · simp only [List.map_cons, List.mem_cons] at h ⊢
      rcases h with h | h
      · exact .inl (.inl h)
      · rcases ih h with h | h
        · exact .inl (.inr h)
        · exact .inr h
theorem putD_keys {l : Dir} {s : Name} {f : Nat} (hn : (l.map (·.1)).Nodup) : ((putD l s f).map (·.1)).Nodup := by
  induction l with
  | nil => simp [putD]
  | cons p l ih =>
    simp only [List.map_cons, List.nodup_cons] at hn
    unfold putD
    split
    · simp only [List.map_cons, List.nodup_cons]; exact hn
    · rename_i hs
      simp only [List.map_cons, List.nodup_cons]
      refine ⟨fun hm => ?_, ih hn.2⟩
      rcases putD_keys_mem hm with h | h
      · exact hn.1 h
      · exact hs h.symm
theorem delD_sub {l : Dir} {s : Name} : ∀ p ∈ delD l s, p ∈ l := by
  induction l with
  | nil => simp [delD]
  | cons q l ih =>
    intro p hp
    unfold delD at hp
    split at hp
    · exact List.mem_cons_of_mem _ hp
    · rcases List.mem_cons.1 hp with rfl | hp
      · simp
      · exact List.mem_cons_of_mem _ (ih p hp)
theorem delD_keys {l : Dir} {s : Name} (hn : (l.map (·.1)).Nodup) : ((delD l s).map (·.1)).Nodup := by
  induction l with
  | nil => simp [delD]
  | cons p l ih =>
    simp only [List.map_cons, List.nodup_cons] at hn
    unfold delD
    split
    · exact hn.2
    · simp only [List.map_cons, List.nodup_cons]
      refine ⟨fun hm => ?_, ih hn.2⟩
      obtain ⟨q, hq, e⟩ := List.mem_map.1 hm
      exact hn.1 (List.mem_map.2 ⟨q, delD_sub q hq, e⟩)
theorem idx_shift (s : Name) : ∀ (l : Dir) (i : Nat), idxD l s i = (idxD l s 0).map (fun p => (p.1 + i, p.2))
  | [], _ => rfl
  | p :: l, i => by
    unfold idxD
    split
    · simp
    · rw [idx_shift s l (i + 1), idx_shift s l (0 + 1)]
      cases idxD l s 0 <;> simp [Nat.add_comm, Nat.add_left_comm]
theorem idx_put {l : Dir} {s : Name} {f j g : Nat} (h : idxD l s 0 = some (j, g)) : putD l s f = l.modify j (fun p => (p.1, f)) ∧ j < l.length ∧ delD l s = l.eraseIdx j := by
  induction l generalizing j g with
  | nil => cases h
  | cons p l ih =>
    unfold idxD at h
    unfold putD delD
    split at h
    · rename_i hs
      simp only [Option.some.injEq, Prod.mk.injEq] at h
      obtain ⟨rfl, _⟩ := h
      simp [hs]
    · rename_i hs
      rw [idx_shift] at h
      cases hi : idxD l s 0 with
      | none => rw [hi] at h; cases h
      | some q =>
        rw [hi] at h
        simp only [Option.map_some, Option.some.injEq, Prod.mk.injEq] at h
        obtain ⟨h1, rfl⟩ := h
        obtain ⟨e1, e2, e3⟩ := ih hi
        subst h1
        simp only [hs, if_false]
        refine ⟨by rw [e1]; simp, by simp; omega, by rw [e3]; simp⟩
theorem idx_none {l : Dir} {s : Name} {f : Nat} (h : idxD l s 0 = none) : putD l s f = l ++ [(s, f)] ∧ delD l s = l := by
  induction l with
  | nil => simp [putD, delD]
  | cons p l ih =>
    unfold idxD at h
    unfold putD delD
    split at h
    · cases h
    · rename_i hs
      rw [idx_shift] at h
      have hi : idxD l s 0 = none := by
        cases hi : idxD l s 0 with
        | none => rfl
        | some q => rw [hi] at h; cases h
      obtain ⟨e1, e2⟩ := ih hi
      simp only [hs, if_false]
      rw [e1, e2]
      simp
theorem idx_none_assoc {l : Dir} {s : Name} (h : idxD l s 0 = none) : assoc l s = none := by rw [← idx_assoc s l 0, h]; rfl

theorem map_modify_entries (s : Name) (f : Nat) : ∀ (es : List MapEntry) (l : Dir) (j g : Nat), es.map pairOf = l.map pairD → idxD l s 0 = some (j, g) →
    (es.modify j (fun e => { e with key := .string s, val := fptr f })).map pairOf = (l.modify j (fun p => (p.1, f))).map pairD ∧ (es.modify j (fun e => { e with key := Value.string s, val := fptr f })).map (·.born) = es.map (·.born) ∧ (∃ e, es[j]? = some e ∧ e.key = .string s)
  | [], [], j, _, _, h => by cases h
  | e :: es, p :: l, j, g, h, hi => by
    simp only [List.map_cons, List.cons.injEq] at h
    obtain ⟨h1, h2⟩ := h
    have h1' : e.key = .string p.1 ∧ e.val = fptr p.2 := by simpa [pairOf, pairD] using h1
    unfold idxD at hi
    split at hi
    · rename_i hs
      simp only [Option.some.injEq, Prod.mk.injEq] at hi
      obtain ⟨rfl, _⟩ := hi
      refine ⟨?_, by simp, e, rfl, by rw [h1'.1, hs]⟩
      simp only [List.modify_zero_cons, List.map_cons, h2, List.cons.injEq, and_true]
      simp [pairOf, pairD, hs]
    · rw [idx_shift] at hi
      cases hq : idxD l s 0 with
      | none => rw [hq] at hi; cases hi
      | some q =>
        rw [hq] at hi
        simp only [Option.map_some, Option.some.injEq, Prod.mk.injEq] at hi
        obtain ⟨rfl, _⟩ := hi
        obtain ⟨a1, a2, e', a3, a4⟩ := map_modify_entries s f es l q.1 q.2 h2 hq
        refine ⟨?_, ?_, e', ?_, a4⟩
        · simp only [List.modify_succ_cons, List.map_cons, a1, h1]
        · simp only [List.modify_succ_cons, List.map_cons, a2]
        · simpa using a3
theorem heap_at_set {w : World} {b : Nat} {o o' : Obj} (h : w.heap[b]? = some o) : (setBlock w b o').heap[b]? = some o' := by
  have := (Array.getElem?_eq_some_iff.1 h).1
  simp [setBlock, Array.getElem?_setIfInBounds, this]
theorem heap_off_set {w : World} {b : Nat} {o' : Obj} {k : Nat} (h : k ≠ b) : (setBlock w b o').heap[k]? = w.heap[k]? := by
  simp [setBlock, Array.getElem?_setIfInBounds, Ne.symm h]
theorem setBlock_size (w : World) (b : Nat) (o : Obj) : (setBlock w b o).heap.size = w.heap.size := by simp [setBlock]
theorem grown_set (w : World) (b : Nat) (o : Obj) : w.grownBy (setBlock w b o) (some b) := ⟨rfl, rfl, rfl, by rw [setBlock_size]; exact Nat.le_refl _, fun k _ hne => heap_off_set (fun e => hne (by rw [e]))⟩
theorem cell_off_set {w : World} {b : Nat} {o : Obj} {k i : Nat} (h : k ≠ b) : (setBlock w b o).cell? ⟨k, i, none⟩ = w.cell? ⟨k, i, none⟩ := by
  unfold World.cell?
  rw [heap_off_set (by exact h)]
theorem cell_of_heap {w : World} {b : Nat} {cs : Array Value} {e : TypeId} {fr : Nat × Nat} {i : Nat} {v : Value} (h : w.heap[b]? = some (.cells cs e fr)) (hv : cs[i]? = some v) : w.cell? ⟨b, i, none⟩ = some v := by
  unfold World.cell?
  simp [h, hv]
theorem cell_alloc_at {w : World} {cs : Array Value} {e : TypeId} {i : Nat} {v : Value} (h : cs[i]? = some v) : (w.alloc (.cells cs e)).cell? ⟨w.heap.size, i, none⟩ = some v := cell_of_heap (heap_alloc_new w _) h
theorem run_setObj_map {w : World} {b : Nat} {es : Array MapEntry} {c : Nat} (hb : w.heap[b]? = some (.map es c)) (o : Obj) : (setObj b o).run P w = .ok () (setBlock w b o) := by
  simp [setObj, Sem.run, hb, setBlock]
/-- m[s] = p -/
theorem run_update_dir {t k e : TypeId} (ht : P.underlying t = some (.map k e)) (hk : P.underlying k = some .string) {w : World} {b : Nat} {l : Dir} (h : DirIs w b l) (s : Name) (hs : s.size ≤ maxLen) (f : Nat) :
    ∃ o, (Instr.mapUpdate t (.map (some b)) (.string s) (fptr f)).run P w = .ok () (setBlock w b o) ∧ DirIs (setBlock w b o) b (putD l s f) := by
  obtain ⟨es, c, hb, hm⟩ := h
  have hf := run_findKey_dir (P := P) hk w s hm.ent
  cases hi : idxD l s 0 with
  | none =>
    rw [hi] at hf
    refine ⟨.map (es.push { key := .string s, val := fptr f, born := c }) (c + 1), ?_, _, _, heap_at_set hb, ?_⟩
    · unfold Instr.mapUpdate
      simp only [Sem.run_bind, run_underlying ht, Result.andThen, getObj, Sem.run, hb, run_checkKey_str hk]
      simp only [Option.map_none] at hf
      simp [Sem.run_bind, Result.andThen, hf, run_setObj_map hb]
    · obtain ⟨e1, _⟩ := idx_none (f := f) hi
      rw [e1]
      have hno := assoc_none (idx_none_assoc hi)
      refine ⟨?_, ?_, ?_, ?_, ?_⟩
      · simp only [Array.toList_push, List.map_append, hm.ent]; rfl
      · intro e he
        simp only [Array.toList_push, List.mem_append, List.mem_singleton] at he
        rcases he with he | rfl
        · have := hm.born e he; omega
        · simp
      · simp only [Array.toList_push, List.map_append, List.map_cons, List.map_nil]
        refine List.nodup_append.2 ⟨hm.once, by simp, ?_⟩
        intro a ha b hb hab
        simp only [List.mem_singleton] at hb
        obtain ⟨e, he, rfl⟩ := List.mem_map.1 ha
        have := hm.born e he
        omega
      · rw [List.map_append]
        refine List.nodup_append.2 ⟨hm.keys, by simp, ?_⟩
        intro a ha b hb hab
        simp only [List.map_cons, List.map_nil, List.mem_singleton] at hb
        obtain ⟨p, hp, rfl⟩ := List.mem_map.1 ha
        exact hno p hp (hab.trans hb)
      · intro p hp
        rcases List.mem_append.1 hp with hp | hp
        · exact hm.short p hp
        · simp only [List.mem_singleton] at hp
          subst hp
          exact hs
  | some q =>
    obtain ⟨j, g⟩ := q
    rw [hi] at hf
    obtain ⟨a1, a2, e0, a3, a4⟩ := map_modify_entries s f es.toList l j g hm.ent hi
    obtain ⟨e1, e2, _⟩ := idx_put (f := f) hi
    refine ⟨.map (es.modify j fun e => { e with key := .string s, val := fptr f }) c, ?_, _, _, heap_at_set hb, ?_⟩
    · have a3' : es[j]? = some e0 := by simpa using a3
      have hst : (Instr.keyThatStays (.string s) (.string s)).run P w = .ok (.string s) w := by
        unfold Instr.keyThatStays
        have : Instr.sameBits 10000 (.string s) (.string s) = true := by simp [Instr.sameBits, bya_beq]
        rw [if_pos this]
        rfl
      unfold Instr.mapUpdate
      simp only [Sem.run_bind, run_underlying ht, Result.andThen, getObj, Sem.run, hb, run_checkKey_str hk]
      simp only [Option.map_some] at hf
      simp [Sem.run_bind, Result.andThen, hf, run_setObj_map hb, a3', a4, hst]
    · rw [e1]
      have hl : (es.modify j fun e => { e with key := Value.string s, val := fptr f }).toList = es.toList.modify j (fun e => { e with key := Value.string s, val := fptr f }) := by simp
      refine ⟨?_, ?_, ?_, ?_, ?_⟩
      · rw [hl]; exact a1
      · intro e he
        rw [hl] at he
        have hmem : e.born ∈ (es.toList.modify j (fun e => { e with key := Value.string s, val := fptr f })).map (·.born) := List.mem_map.2 ⟨e, he, rfl⟩
        rw [a2] at hmem
        obtain ⟨e', he', h'⟩ := List.mem_map.1 hmem
        rw [← h']
        exact hm.born e' he'
      · rw [hl, a2]; exact hm.once
      · rw [← e1]; exact putD_keys hm.keys
      · intro p hp
        rw [← e1] at hp
        rcases putD_keys_mem (List.mem_map.2 ⟨p, hp, rfl⟩) with h | h
        · obtain ⟨q, hq, e⟩ := List.mem_map.1 h
          rw [← e]; exact hm.short q hq
        · rw [h]; exact hs
theorem erase_entries : ∀ (es : List MapEntry) (l : Dir) (j : Nat), es.map pairOf = l.map pairD → (es.eraseIdx j).map pairOf = (l.eraseIdx j).map pairD := by
  intro es l j h
  rw [map_eraseIdx, map_eraseIdx, h]
/-- delete(m, s) -/
theorem run_delete_dir {t k e : TypeId} (ht : P.underlying t = some (.map k e)) (hk : P.underlying k = some .string) {w : World} {b : Nat} {l : Dir} (h : DirIs w b l) (s : Name) :
    ∃ o, (∀ ty, (Builtin.delete_ #[t, k] ty #[.map (some b), .string s]).run P w = .ok (.tuple #[]) (setBlock w b o)) ∧ DirIs (setBlock w b o) b (delD l s) := by
  obtain ⟨es, c, hb, hm⟩ := h
  have hf := run_findKey_dir (P := P) hk w s hm.ent
  cases hi : idxD l s 0 with
  | none =>
    rw [hi] at hf
    refine ⟨.map es c, fun ty => ?_, _, _, heap_at_set hb, ?_⟩
    · unfold Builtin.delete_
      simp only [Option.map_none] at hf
      simp [Sem.run_bind, run_underlying ht, Result.andThen, getObj, Sem.run, hb, run_checkKey_str hk, hf, run_setObj_map hb]
    · rw [(idx_none (f := 0) hi).2]
      exact hm
  | some q =>
    obtain ⟨j, g⟩ := q
    rw [hi] at hf
    obtain ⟨_, e2, e3⟩ := idx_put (f := 0) hi
    have hj : j < es.size := by rw [hm.size]; exact e2
    have hl : (es.eraseIdxIfInBounds j).toList = es.toList.eraseIdx j := by simp
    refine ⟨.map (es.eraseIdxIfInBounds j) c, fun ty => ?_, _, _, heap_at_set hb, ?_⟩
    · unfold Builtin.delete_
      simp only [Option.map_some] at hf
      simp [Sem.run_bind, run_underlying ht, Result.andThen, getObj, Sem.run, hb, run_checkKey_str hk, hf, run_setObj_map hb]
    · refine ⟨?_, ?_, ?_, delD_keys hm.keys, fun p hp => hm.short p (delD_sub p hp)⟩
      · rw [hl, e3]; exact erase_entries _ _ _ hm.ent
      · intro e he
        rw [hl] at he
        exact hm.born e (List.mem_of_mem_eraseIdx he)
      · rw [hl, map_eraseIdx]
        exact hm.once.sublist (List.eraseIdx_sublist _ _)

/-! Going over a map: what is left is still to come, in whatever order. -/
def Ranging (w : World) (b r : Nat) (l left : Dir) : Prop :=
  b ≠ r ∧ ∃ (es : Array MapEntry) (clock : Nat) (seen : Array Nat), w.heap[b]? = some (.map es clock) ∧ MapOf es.toList clock l ∧ w.heap[r]? = some (.mapIter (some b) clock seen clock) ∧ (leftOf es seen).toList.map pairOf = left.map pairD
theorem Ranging.dir {w : World} {b r : Nat} {l left : Dir} (h : Ranging w b r l left) : DirIs w b l := by
  obtain ⟨_, es, c, seen, h1, h2, _⟩ := h
  exact ⟨es, c, h1, h2⟩
theorem Ranging.lt {w : World} {b r : Nat} {l left : Dir} (h : Ranging w b r l left) : r < w.heap.size := by
  obtain ⟨_, es, c, seen, _, _, h3, _⟩ := h
  exact (Array.getElem?_eq_some_iff.1 h3).1
theorem Ranging.moved {w w' : World} {b r : Nat} {l left : Dir} (h : Ranging w b r l left) (hb : w'.heap[b]? = w.heap[b]?) (hr : w'.heap[r]? = w.heap[r]?) : Ranging w' b r l left := by
  obtain ⟨h0, es, c, seen, h1, h2, h3, h4⟩ := h
  exact ⟨h0, es, c, seen, hb.trans h1, h2, hr.trans h3, h4⟩
theorem run_range_dir {t k e : TypeId} (ht : P.underlying t = some (.map k e)) {w : World} {b : Nat} {l : Dir} (h : DirIs w b l) :
    ∃ o, (Instr.range t (.map (some b))).run P w = .ok (.pointer (some ⟨w.heap.size, 0, none⟩)) (w.alloc o) ∧ Ranging (w.alloc o) b w.heap.size l l := by
  obtain ⟨es, c, hb, hm⟩ := h
  have hlt := (Array.getElem?_eq_some_iff.1 hb).1
  refine ⟨.mapIter (some b) c #[] c, ?_, by omega, es, c, #[], ?_, hm, heap_alloc_new _ _, ?_⟩
  · unfold Instr.range
    simp [Sem.run_bind, run_underlying ht, Result.andThen, getObj, Sem.run, hb, newObj]
  · rw [Below.heap_alloc _ _ _ hlt]; exact hb
  · have : (leftOf es #[]).toList = es.toList := by simp [leftOf]
    rw [this]; exact hm.ent
theorem perm_remove (es : List MapEntry) (hn : (es.map (·.born)).Nodup) (e : MapEntry) (he : e ∈ es) : es.Perm (e :: es.filter (fun x => !(x.born == e.born))) := by
  induction es with
  | nil => cases he
  | cons x es ih =>
    simp only [List.map_cons, List.nodup_cons] at hn
    rcases List.mem_cons.1 he with rfl | he
    · have : es.filter (fun x => !(x.born == e.born)) = es := List.filter_eq_self.2 (fun y hy => by
        have : y.born ≠ e.born := fun h => hn.1 (List.mem_map.2 ⟨y, hy, h⟩)
        simp [this])
      simp [List.filter_cons, this]
    · have hne : x.born ≠ e.born := fun h => hn.1 (List.mem_map.2 ⟨e, he, h.symm⟩)
      simp only [List.filter_cons, beq_iff_eq, hne, decide_false, Bool.not_false, if_true, beq_eq_false_iff_ne.2 hne]
      exact ((ih hn.2 he).cons x).trans (List.Perm.swap _ _ _)
theorem pair_inj : ∀ {p q : Name × Nat}, pairD p = pairD q → p = q := by
  intro p q h
  simp only [pairD, fptr, Prod.mk.injEq, Value.string.injEq, Value.pointer.injEq, Option.some.injEq, Addr.mk.injEq, and_true] at h
  exact Prod.ext h.1 h.2
theorem perm_pairs {xs ys : Dir} (h : (xs.map pairD).Perm (ys.map pairD)) : xs.Perm ys := by
  let f : Value × Value → Name × Nat := fun v => match v with | (.string s, .pointer (some a)) => (s, a.block) | _ => (ByteArray.empty, 0)
  have hf : ∀ l : Dir, (l.map pairD).map f = l := fun l => by
    rw [List.map_map]
    conv => rhs; rw [← List.map_id l]
    apply List.map_congr_left
    intro p _
    rfl
  have := h.map f
  rwa [hf, hf] at this
theorem run_next_dir {w : World} {b r : Nat} {l left : Dir} (h : Ranging w b r l left) (ty : TypeId) :
    (left = [] ∧ (Instr.next (.pointer (some ⟨r, 0, none⟩)) false ty).run P w = .ok (.tuple #[.bool false]) w) ∨
    ∃ p left' w', left.Perm (p :: left') ∧ Ranging w' b r l left' ∧ w.grownBy w' (some r) ∧ w'.heap.size = w.heap.size ∧
      (Instr.next (.pointer (some ⟨r, 0, none⟩)) false ty).run P w = .ok (.tuple #[.bool true, .string p.1, fptr p.2]) w' ∧
      (Instr.entry (.pointer (some ⟨r, 0, none⟩))).run P w' = .ok (.tuple #[.string p.1, fptr p.2]) w' := by
  obtain ⟨hbr, es, c, seen, hb, hm, hr, hl⟩ := h
  rcases run_next_at (P := P) w ty r b c c seen es c hr hb hm.born (Nat.le_refl _) with ⟨h0, hrun⟩ | ⟨e, he, w1, hw1, hrun⟩
  · left
    refine ⟨?_, hrun⟩
    have : (leftOf es seen).toList = [] := List.eq_nil_of_length_eq_zero (by simpa using h0)
    rw [this] at hl
    exact List.map_eq_nil_iff.1 hl.symm
  · right
    have hmem : pairOf e ∈ left.map pairD := by rw [← hl]; exact List.mem_map.2 ⟨e, he, rfl⟩
    obtain ⟨p, hp, hpe⟩ := List.mem_map.1 hmem
    have hpk : e.key = .string p.1 := by have := congrArg Prod.fst hpe; exact this.symm
    have hpv : e.val = fptr p.2 := by have := congrArg Prod.snd hpe; exact this.symm
    have hr1 : w1.heap[r]? = some (.mapIter (some b) c seen c) := by rcases hw1 with rfl | rfl <;> exact hr
    have hb1 : w1.heap[b]? = some (.map es c) := by rcases hw1 with rfl | rfl <;> exact hb
    have hee : e ∈ es.toList := by
      have := he
      simp only [leftOf, Array.toList_filter, List.mem_filter] at this
      exact this.1
    have hr2 : (setBlock w1 r (.mapIter (some b) c (seen.push e.born) c)).heap[r]? = some (.mapIter (some b) c (seen.push e.born) c) := heap_at_set hr1
    have hb2 : (setBlock w1 r (.mapIter (some b) c (seen.push e.born) c)).heap[b]? = some (.map es c) := by rw [heap_off_set hbr]; exact hb1
    have hborn : ((leftOf es seen).toList.map (·.born)).Nodup := by
      refine hm.once.sublist (List.Sublist.map _ ?_)
      simp only [leftOf, Array.toList_filter]
      exact List.filter_sublist
    have hperm := (perm_remove _ hborn e he).map pairOf
    rw [hl, List.map_cons, ← hpe] at hperm
    have hfil : (leftOf es (seen.push e.born)).toList = (leftOf es seen).toList.filter (fun x => !(x.born == e.born)) := by
      simp only [leftOf, Array.toList_filter, List.filter_filter]
      apply List.filter_congr
      intro x _
      simp only [Array.contains_push, Bool.not_or, Bool.and_comm]
    have hall : ∀ v ∈ ((leftOf es seen).toList.filter (fun x => !(x.born == e.born))).map pairOf, ∃ q : Name × Nat, pairD q = v := by
      intro v hv
      have : v ∈ left.map pairD := hperm.symm.subset (List.mem_cons_of_mem _ hv)
      obtain ⟨q, _, hq⟩ := List.mem_map.1 this
      exact ⟨q, hq⟩
    obtain ⟨left', hleft'⟩ : ∃ left' : Dir, left'.map pairD = ((leftOf es seen).toList.filter (fun x => !(x.born == e.born))).map pairOf := by
      generalize ((leftOf es seen).toList.filter (fun x => !(x.born == e.born))).map pairOf = vs at hall
      clear hperm
      induction vs with
      | nil => exact ⟨[], rfl⟩
      | cons v vs ih =>
        obtain ⟨q, hq⟩ := hall v (by simp)
        obtain ⟨ls, hls⟩ := ih (fun u hu => hall u (by simp [hu]))
        exact ⟨q :: ls, by simp [hq, hls]⟩
    rw [← hleft'] at hperm
    refine ⟨p, left', _, perm_pairs (ys := p :: left') hperm, ⟨hbr, es, c, seen.push e.born, hb2, hm, hr2, by rw [hfil, hleft']⟩, ?_, ?_, by rw [hrun, hpk, hpv], ?_⟩
    · refine ⟨?_, ?_, ?_, ?_, ?_⟩
      · rcases hw1 with rfl | rfl <;> rfl
      · rcases hw1 with rfl | rfl <;> rfl
      · rcases hw1 with rfl | rfl <;> rfl
      · have : w1.heap.size = w.heap.size := by rcases hw1 with rfl | rfl <;> rfl
        rw [setBlock_size, this]; exact Nat.le_refl _
      · intro k hk hne
        rw [heap_off_set (fun e => hne (by rw [e]))]
        rcases hw1 with rfl | rfl <;> rfl
    · have : w1.heap.size = w.heap.size := by rcases hw1 with rfl | rfl <;> rfl
      rw [setBlock_size, this]
    · rw [run_entry_at _ r b c seen es c e hr2 hb2 hee hm.once, hpk, hpv]
end
section
variable {P : Program} {w : World} {ops : Array Oper} {rest : List Oper} {o : Oper} {a : Act} {Q : Exit → Act → World → Prop}
theorem wp_range_dir (m : Operand) (t k e : TypeId) (b : Nat) (l : Dir) (hg : o.guard = none) (hop : o.op = Op.range t m) (ht : P.underlying t = some (.map k e)) (hm : a.eval m = .map (some b)) (h : DirIs w b l)
    (hK : ∀ w', Ranging w' b w.heap.size l l → w.grownBy w' none → w'.heap.size = w.heap.size + 1 → wpList P ops Q rest (a.put o.dst (.pointer (some ⟨w.heap.size, 0, none⟩))) w') :
    wpList P ops Q (o :: rest) a w := by
  refine wpList_plain hg fun K' hK' => ?_
  obtain ⟨ob, hrun, r1⟩ := run_range_dir (P := P) ht h
  unfold Oper.wp
  simp [execOp, hop, hm, hrun, Result.andThen]
  exact hK' _ _ (hK _ r1 (World.grownBy_alloc w ob none) (by simp))
theorem wp_next_dir (it : Operand) (b r : Nat) (l left : Dir) (hg : o.guard = none) (hop : o.op = Op.next it false) (hit : a.eval it = .pointer (some ⟨r, 0, none⟩)) (h : Ranging w b r l left)
    (hDone : left = [] → wpList P ops Q rest (a.put o.dst (.tuple #[.bool false])) w)
    (hMore : ∀ p left' w', left.Perm (p :: left') → Ranging w' b r l left' → w.grownBy w' (some r) → w'.heap.size = w.heap.size → (Instr.entry (.pointer (some ⟨r, 0, none⟩))).run P w' = .ok (.tuple #[.string p.1, fptr p.2]) w' →
      wpList P ops Q rest (a.put o.dst (.tuple #[.bool true, .string p.1, fptr p.2])) w') :
    wpList P ops Q (o :: rest) a w := by
  refine wpList_plain hg fun K' hK' => ?_
  unfold Oper.wp
  rcases run_next_dir (P := P) h o.type with ⟨h0, hrun⟩ | ⟨p, left', w', h1, h2, h3, h4, hrun, hen⟩
  · simp [execOp, hop, hit, hrun, Result.andThen]
    exact hK' _ _ (hDone h0)
  · simp [execOp, hop, hit, hrun, Result.andThen]
    exact hK' _ _ (hMore p left' w' h1 h2 h3 h4 hen)
end
end Go.Proofs.YthacnbbijmgjfaaDoor.Lib0

import Derived.Test.YtcmffaejcnbheaaGreatQ35
set_option linter.unusedVariables false
set_option linter.unusedSimpArgs false
namespace Go.Proofs.YtcmffaejcnbheaaGreat.Lib0
open Go.RowKit Go.Proofs.YtcmffaejcnbheaaGreatW.PrintWords Go.ChangeMaps
structure ZoneE where
 col : ByteArray
 z : ZoneM
def ZoneE.cells (e : ZoneE) : List Value := [.string e.col, .int .i64 e.z.kind, .int .i64 e.z.rows, .int .i64 e.z.nulls, .int .i64 e.z.minN, .int .i64 e.z.maxN, .string e.z.minS, .string e.z.maxS]
def kz : Kd ZoneE := Kd.iso (Kd.pair Kd.string (Kd.pair (Kd.int .i64) (Kd.pair (Kd.int .i64) (Kd.pair (Kd.int .i64) (Kd.pair (Kd.int .i64) (Kd.pair (Kd.int .i64) (Kd.pair Kd.string Kd.string)))))))
 (fun e => (e.col, e.z.kind, e.z.rows, e.z.nulls, e.z.minN, e.z.maxN, e.z.minS, e.z.maxS))
theorem kz_M {w : World} {base : Nat} {ok : Nat → Prop} (e : ZoneE) : kz.M w base ok e e.cells :=
 ⟨[.string e.col], _, rfl, rfl, [.int .i64 e.z.kind], _, rfl, rfl, [.int .i64 e.z.rows], _, rfl, rfl, [.int .i64 e.z.nulls], _, rfl, rfl, [.int .i64 e.z.minN], _, rfl, rfl, [.int .i64 e.z.maxN], _, rfl, rfl, [.string e.z.minS], [.string e.z.maxS], rfl, rfl, rfl⟩
theorem kz_K {w : World} {e : ZoneE} {cs : List Value} (h : kz.K w e cs) : cs = e.cells := by
 obtain ⟨_, _, rfl, rfl, _, _, rfl, rfl, _, _, rfl, rfl, _, _, rfl, rfl, _, _, rfl, rfl, _, _, rfl, rfl, _, _, rfl, rfl, rfl⟩ := h
 rfl
theorem kz_flat : Flat kz ZoneE.cells 8 := ⟨rfl, fun h => kz_K h, fun x => kz_M x, fun _ => rfl, fun x u hu => by
 unfold ZoneE.cells at hu
 simp only [List.mem_cons, List.not_mem_nil, or_false] at hu
 rcases hu with rfl | rfl | rfl | rfl | rfl | rfl | rfl | rfl <;> rfl⟩
theorem info_zone : (Tryz.prog.info? 62).map (fun i => (i.zero, i.size, i.bytes)) = some (some (.agg #[.string ⟨#[]⟩, .int .i64 0, .int .i64 0, .int .i64 0, .int .i64 0, .int .i64 0, .string ⟨#[]⟩, .string ⟨#[]⟩]), 8, 88) := by kernel_rfl
structure BloomE where
 col : ByteArray
 bits : Int
 A : Option Addr
 n : Nat
 c : Nat
def BloomE.cells (e : BloomE) : List Value := [.string e.col, .int .i64 e.bits, .slice e.A e.n e.c]
def kb : Kd BloomE := Kd.iso (Kd.pair Kd.string (Kd.pair (Kd.int .i64) (Kd.scalar (fun p : Option Addr × Nat × Nat => Value.slice p.1 p.2.1 p.2.2) (fun _ => rfl)))) (fun e => (e.col, e.bits, e.A, e.n, e.c))
theorem kb_M {w : World} {base : Nat} {ok : Nat → Prop} (e : BloomE) : kb.M w base ok e e.cells :=
 ⟨[.string e.col], _, rfl, rfl, [.int .i64 e.bits], [.slice e.A e.n e.c], rfl, rfl, rfl⟩
theorem kb_K {w : World} {e : BloomE} {cs : List Value} (h : kb.K w e cs) : cs = e.cells := by
 obtain ⟨_, _, rfl, rfl, _, _, rfl, rfl, rfl⟩ := h
 rfl
theorem kb_flat : Flat kb BloomE.cells 3 := ⟨rfl, fun h => kb_K h, fun x => kb_M x, fun _ => rfl, fun x u hu => by
 unfold BloomE.cells at hu
 simp only [List.mem_cons, List.not_mem_nil, or_false] at hu
 rcases hu with rfl | rfl | rfl <;> rfl⟩
theorem info_bloom : (Tryz.prog.info? 69).map (fun i => (i.zero, i.size, i.bytes)) = some (some (.agg #[.string ⟨#[]⟩, .int .i64 0, .slice none 0 0]), 3, 48) := by kernel_rfl
def BlR (w : World) (lo : Nat) (E : List BloomE) (L : List (List UInt8)) : Prop := E.length = L.length ∧ ∀ i (h1 : i < E.length) (h2 : i < L.length), E[i].n = L[i].length ∧ L[i].length ≤ E[i].c ∧ u8.R 5 w lo (fun _ => True) (.slice E[i].A E[i].n E[i].c) L[i]
theorem BlR.fr {w w1 : World} {lo b : Nat} {E : List BloomE} {L : List (List UInt8)} {ps : List PartM} (h : BlR w lo E L) (hk : ChksAt w b ps) (hf : Fr ps w w1) : BlR w1 lo E L :=
 ⟨h.1, fun i h1 h2 => ⟨(h.2 i h1 h2).1, (h.2 i h1 h2).2.1, R_fr rfl (h.2 i h1 h2).2.2 (by decide) hk hf⟩⟩
theorem BlR.grown {α : Type} {d : Kd α} {e base lo : Nat} {ok : Nat → Prop} {w w1 : World} {v : Value} {l : List α} {E : List BloomE} {L : List (List UInt8)} (h : BlR w lo E L) (h' : d.R e w base ok v l) (hne : 5 ≠ e) (hg : w.grownBy w1 v.ownBlock) : BlR w1 lo E L :=
 ⟨h.1, fun i h1 h2 => ⟨(h.2 i h1 h2).1, (h.2 i h1 h2).2.1, R_grown_ne rfl (h.2 i h1 h2).2.2 h' hne hg⟩⟩
theorem BlR.off {lo g i' T : Nat} {w : World} {u : Value} {cs : Array Value} {E : List BloomE} {L : List (List UInt8)} (h : BlR w lo E L) (hg : w.heap[g]? = some (.cells cs T (0, 0))) (hne : T ≠ 5) : BlR (w.setCell ⟨g, i', none⟩ u) lo E L :=
 ⟨h.1, fun i h1 h2 => ⟨(h.2 i h1 h2).1, (h.2 i h1 h2).2.1, R_set_ne rfl (h.2 i h1 h2).2.2 hg hne i' u⟩⟩
theorem BlR.snoc {w : World} {lo : Nat} {E : List BloomE} {L : List (List UInt8)} (h : BlR w lo E L) (x : BloomE) (cs : List UInt8) (h1 : x.n = cs.length) (h2 : cs.length ≤ x.c) (hr : u8.R 5 w lo (fun _ => True) (.slice x.A x.n x.c) cs) : BlR w lo (E ++ [x]) (L ++ [cs]) := by
 refine ⟨by simp [h.1], fun i k1 k2 => ?_⟩
 rw [List.length_append, List.length_singleton] at k1 k2
 by_cases hi : i < E.length
 ·have hi2 : i < L.length := by rw [← h.1]; exact hi
  rw [List.getElem_append_left hi, List.getElem_append_left hi2]
  exact h.2 i hi hi2
 ·have e1 : i = E.length := by omega
  have e2 : i = L.length := by rw [← h.1]; exact e1
  have g1 : (E ++ [x])[i]'(by simp; omega) = x := by subst e1; simp
  have g2 : (L ++ [cs])[i]'(by simp; omega) = cs := by subst e2; simp
  rw [g1, g2]
  exact ⟨h1, h2, hr⟩
structure BloomM where
 col : ByteArray
 bits : Int
 b : List UInt8
def bloomsM : List BloomE → List (List UInt8) → List BloomM
 | e :: E, b :: L => ⟨e.col, e.bits, b⟩ :: bloomsM E L
 | _, _ => []
theorem bloomsM_snoc : ∀ (E : List BloomE) (L : List (List UInt8)) (x : BloomE) (b : List UInt8), E.length = L.length → bloomsM (E ++ [x]) (L ++ [b]) = bloomsM E L ++ [⟨x.col, x.bits, b⟩]
 | [], [], x, b, _ => rfl
 | h :: E, c :: L, x, b, e => by
  show _ :: bloomsM (E ++ [x]) (L ++ [b]) = _ :: (bloomsM E L ++ [_])
  rw [bloomsM_snoc E L x b (by simpa using e)]
def textsK (l : List CellM) : List ByteArray := (l.filter fun c => decide (c.kind = 2)).map (·.s)
theorem textsK_next (l : List CellM) (k : Nat) (h : k < l.length) : textsK (l.take (k + 1)) = textsK (l.take k) ++ (if l[k].kind = 2 then [l[k].s] else []) := by
 unfold textsK
 rw [take_next l k h, List.filter_append, List.map_append]
 congr 1
 by_cases hk : l[k].kind = 2 <;> simp [hk]
def zoneQ (q : PartQ) : ZoneE := ⟨q.name, zoneB (kindOf q.form) q.cs⟩
def bloomQ (q : PartQ) : List BloomM := if kindOf q.form = 2 then [⟨q.name, bloomBits (dictL (textsK q.cs)).length, bloomB (textsK q.cs)⟩] else []
def bloomsQ (qs : List PartQ) : List BloomM := (qs.map bloomQ).flatten
theorem bloomsQ_next (qs : List PartQ) (j : Nat) (h : j < qs.length) : bloomsQ (qs.take (j + 1)) = bloomsQ (qs.take j) ++ bloomQ qs[j] := by
 unfold bloomsQ
 rw [take_next qs j h, List.map_append, List.flatten_append]
 simp
section
variable {α : Type} {d : Kd α} {f : α → List Value} {k : Nat}
variable {P : Program} {ops : Array Oper} {o : Oper} {a : Act} {Q : Exit → Act → World → Prop} {Kc : Act → World → Prop} {E : Prop}
theorem Flat.one_step (F : Flat d f k) {V : World} (base : Nat) (hgd : o.guard = none) (s x : Operand) (t e : TypeId) (z : Value) (bytes : Nat)
  (ho : o.op = .call { callee := .builtin .append, args := #[s, x], argTypes := #[t, t] }) (ht : P.underlying t = some (.slice e))
  (hinfo : (P.info? e).map (fun i => (i.zero, i.size, i.bytes)) = some (some z, k, bytes)) (hzs : z.cells.size = k) (hk0 : 0 < k) (hb0 : 0 < bytes) (hb1 : bytes ≤ 128)
  (v : Value) (xs : List α) (y : α) (b T : Nat) (hs : a.eval s = v) (hx : a.eval x = .slice (some ⟨b, 0, none⟩) 1 1) (hb : V.heap[b]? = some (.cells (f y).toArray T (0, 0)))
  (HO : d.R e V base (fun _ => True) v xs) (hbase : base ≤ V.heap.size) (hl : xs.length ≤ 1048576)
  (h : ∀ v1 w1, d.R e w1 base (fun _ => True) v1 (xs ++ [y]) → Below base V w1 → V.grownBy w1 v.ownBlock → (v1.ownBlock = v.ownBlock ∨ v1.ownBlock = some V.heap.size) → Kc (a.put o.dst v1) w1) :
  if Region.wanted o (yielded ops a.tmps) = true then Oper.wp P o a V Kc Q else E :=
 F.append_step base (by simp [Region.wanted, hgd]) s x t e z bytes ho ht hinfo hzs hk0 hb0 v xs [y] ⟨b, 0, none⟩ 1 1 (fun _ => True) hs hx rfl (fun j u hj => by
  have hj2 : (f y)[j]? = some u := by simpa [flatF] using hj
  have hc : V.cell? ⟨b, j, none⟩ = some u := cell_of_heap hb (by rw [List.getElem?_toArray]; exact hj2)
  rw [add_plain]
  exact hc) trivial HO hbase (by
   calc (xs.length + 1) * bytes ≤ (1048576 + 1) * 128 := Nat.mul_le_mul (by omega) hb1
    _ ≤ 140737488355328 := by decide) h
end
end Go.Proofs.YtcmffaejcnbheaaGreat.Lib0

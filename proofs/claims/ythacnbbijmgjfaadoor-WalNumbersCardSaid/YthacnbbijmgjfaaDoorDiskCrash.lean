/- What the disk's functions do: Crash. -/
import Derived.Test.YthacnbbijmgjfaaDoorDiskOps4
set_option linter.unusedVariables false
set_option linter.unusedSimpArgs false
namespace Go.Proofs.YthacnbbijmgjfaaDoor.Lib0
open Go.RowKit Go.Proofs.YthacnbbijmgjfaaDoorW.PrintWords Go.ChangeMaps

def crashP (pick : Int) : Nat := if pick < 0 then (-(pick + 1)).toNat else pick.toNat
def crashDir (D : ADisk) (p : Nat) : Dir := (D.chg.take (p % (D.chg.length + 1))).foldl doD D.sdir
def crashF (x : FileS) (q : Nat) : FileS :=
  if 0 < q % (x.b.length - x.safe + 1) ∧ q % 2 = 1 then ⟨turnB (x.b.take (x.safe + q % (x.b.length - x.safe + 1))) (x.safe + q % (x.b.length - x.safe + 1) - 1) 85, x.safe + q % (x.b.length - x.safe + 1)⟩
  else ⟨x.b.take (x.safe + q % (x.b.length - x.safe + 1)), x.safe + q % (x.b.length - x.safe + 1)⟩
/-- What is left of a disk behind a crash. -/
def crashD (D : ADisk) (pick : Int) : ADisk :=
  { dir := crashDir D (crashP pick), sdir := crashDir D (crashP pick), chg := [], quota := -1, sane := true
    file := fun f => if f ∈ ids (crashDir D (crashP pick)) then crashF (D.file f) (crashP pick / (D.chg.length + 1)) else D.file f }
theorem okchgs_get : ∀ {cs : List Chg} {l : Dir} (i : Nat) (hi : i < cs.length), OkChgs l cs → OkChg ((cs.take i).foldl doD l) cs[i]
  | c :: cs, l, 0, _, h => h.1
  | c :: cs, l, i + 1, hi, h => okchgs_get (cs := cs) i (by simpa using hi) h.2
theorem okchgs_take : ∀ {cs : List Chg} {l : Dir} (i : Nat), OkChgs l cs → OkChgs l (cs.take i)
  | [], _, _, _ => by simp [OkChgs]
  | c :: cs, l, 0, h => trivial
  | c :: cs, l, i + 1, h => ⟨h.1, okchgs_take (cs := cs) i h.2⟩
theorem okchgs_len : ∀ {cs : List Chg} {l : Dir}, OkChgs l cs → l.length ≤ 4096 → (cs.foldl doD l).length ≤ 4096
  | [], _, _, h => h
  | c :: cs, l, h, _ => okchgs_len (cs := cs) h.2 h.1.len
theorem okchgs_ids : ∀ {cs : List Chg} {l : Dir} {f : Nat}, OkChgs l cs → f ∈ ids (cs.foldl doD l) → f ∈ ids l ∨ ∃ c ∈ cs, c.f = some f
  | [], _, _, _, h => .inl h
  | c :: cs, l, f, ok, h => by
    rcases okchgs_ids (cs := cs) ok.2 h with h' | ⟨c', hc', e⟩
    · rcases ids_do ok.1 h' with h'' | h''
      · exact .inl h''
      · exact .inr ⟨c, by simp, h''⟩
    · exact .inr ⟨c', by simp [hc'], e⟩
theorem chg_open {w : World} {A : Option Addr} {n : Nat} {l : List Chg} (h : kchg.C w A n l) (hn : 0 < l.length) :
    ∃ b o, A = some ⟨b, o, none⟩ ∧ ∀ k (hk : k < l.length) j u, (l[k]).cells[j]? = some u → w.cell? ⟨b, o + k * 4 + j, none⟩ = some u := by
  obtain ⟨ad, rfl, hc⟩ := h.2.2 (by have := h.1; omega)
  have hx : ∀ k (hk : k < l.length) j u, (l[k]).cells[j]? = some u → w.cell? (ad.add (k * 4 + j)) = some u := fun k hk j u hu => by
    obtain ⟨c, hl, hk', hcell⟩ := hc k _ (List.getElem?_eq_getElem hk)
    rw [kchg_K hk'] at hcell
    exact hcell j u hu
  have hs : ad.spot = none := by
    have := hx 0 hn 0 _ rfl
    have e0 : ad.add (0 * 4 + 0) = ad := by simp [Addr.add]
    rw [e0] at this
    exact cell_plain this
  obtain ⟨b, o, sp⟩ := ad
  simp only at hs
  subst hs
  refine ⟨b, o, rfl, fun k hk j u hu => ?_⟩
  have e1 : (⟨b, o, none⟩ : Addr).add (k * 4 + j) = ⟨b, o + (k * 4 + j), none⟩ := by unfold Addr.add; split <;> simp_all
  rw [Nat.add_assoc, ← e1]
  exact hx k hk j u hu
theorem DiskAt.set_dir {w w' : World} {base d : Nat} {L : Lay} {D : ADisk} (h : DiskAt w base d L D) {b' : Nat} {dir' : Dir} (hk : Keep (fun k => k = d) w w')
    (h1 : w'.heap[d]? = some (.cells #[.map (some b'), .map (some L.sb), L.chv, .int .i64 D.quota] 66 (0, 0)))
    (h2 : w.heap.size ≤ b') (h3 : DirIs w' b' dir') (hl : ∀ f, f ∈ ids dir' → live D f) (n2 : dir'.length ≤ 4096) (hinj : (ids dir').Nodup) :
    DStep w base d L D w' { L with mb := b' } { D with dir := dir', sane := false } := by
  have hne : ∀ k, k < w.heap.size → k ≠ d → w'.heap[k]? = w.heap[k]? := fun k hk' hn => hk.block k hk' hn
  have hcell : ∀ {k : Nat} {cs : Array Value} {t : TypeId} {fr : Nat × Nat}, w.heap[k]? = some (.cells cs t fr) → t ≠ 66 → w'.heap[k]? = w.heap[k]? := fun hc ht => hne _ (Array.getElem?_eq_some_iff.1 hc).1 (ne_of_types hc h.self ht)
  have hmap : ∀ {k : Nat} {l : Dir}, DirIs w k l → w'.heap[k]? = w.heap[k]? := by
    rintro k l ⟨es, c, hm, _⟩
    exact hne k (Array.getElem?_eq_some_iff.1 hm).1 (ne_of_map h.self hm).symm
  have hlive : ∀ f, live { D with dir := dir', sane := false } f → live D f := by
    rintro f (hf | hf)
    · exact hl f hf
    · exact .inr hf
  have hsz := h.sdir.lt
  have hb2 := h.b2
  refine ⟨⟨h1, h.b0, h3, by show base ≤ b'; omega, h.sdir.moved (hmap h.sdir), h.b2, by show b' ≠ L.sb; omega, ?_, fun f hf => ?_, fun f g hf hg => h.apart f g (hlive f hf) (hlive g hg), ⟨n2, h.ok.n2, fun f hf => h.ok.big f (hlive f hf), hinj, fun e => (by cases e), fun e => (by cases e), h.ok.inj, h.ok.q⟩⟩, hk.mono (fun k hk' => .inl (.inl hk')), ?_⟩
  · refine R_moved rfl h.chg (fun k hkk => ?_)
    obtain ⟨cells, hcc⟩ := own_block_typed h.chg hkk
    exact hcell hcc (by decide)
  · have := h.fil f (hlive f hf)
    refine ⟨this.1, (hcell this.2.1 (by decide)).trans this.2.1, R_moved rfl this.2.2 (fun k hkk => ?_)⟩
    obtain ⟨cells, hcc⟩ := own_block_typed this.2.2 hkk
    exact hcell hcc (by decide)
  · rintro k (rfl | rfl | rfl | hkk | hkk | ⟨f, hf, hkk⟩)
    · exact .inl (.inl rfl)
    · exact .inr h2
    · exact .inl (.inr (.inr (.inl rfl)))
    · exact .inl (.inr (.inr (.inr (.inl hkk))))
    · exact .inl (.inr (.inr (.inr (.inr (.inl (hlive k hkk))))))
    · exact .inl (.inr (.inr (.inr (.inr (.inr ⟨f, hlive f hf, hkk⟩)))))

theorem heap_setCell_obj {w : World} {k : Nat} {o : Obj} (h : w.heap[k]? = some o) (hn : ∀ cs t fr, o ≠ .cells cs t fr) (a : Addr) (v : Value) : (w.setCell a v).heap[k]? = some o := by
  simp only [World.setCell, Array.getElem?_modify]
  split
  · rw [h]
    cases o with
    | cells c e f => exact absurd rfl (hn c e f)
    | _ => rfl
  · exact h
theorem Ranging.setCell {w : World} {b r : Nat} {l left : Dir} (h : Ranging w b r l left) (a : Addr) (v : Value) : Ranging (w.setCell a v) b r l left := by
  obtain ⟨h0, es, c, seen, h1, h2, h3, h4⟩ := h
  exact ⟨h0, es, c, seen, heap_setCell_obj h1 (fun _ _ _ e => by cases e) a v, h2, heap_setCell_obj h3 (fun _ _ _ e => by cases e) a v, h4⟩
theorem ff_step {D : ADisk} {dir' left left' : Dir} {nm : Name} {f0 q : Nat} {FF : Nat → FileS} {x : FileS} (hp : left.Perm ((nm, f0) :: left')) (hn : (ids left).Nodup) (hm : ∀ p ∈ left, p ∈ dir')
    (hF : ∀ f, FF f = if f ∈ ids dir' ∧ f ∉ ids left then crashF (D.file f) q else D.file f) (hx : x = crashF (D.file f0) q) :
    (ids left').Nodup ∧ (∀ p ∈ left', p ∈ dir') ∧ ∀ f, updN FF f0 x f = if f ∈ ids dir' ∧ f ∉ ids left' then crashF (D.file f) q else D.file f := by
  have hpi : (ids left).Perm (f0 :: ids left') := hp.map (fun p : Name × Nat => p.2)
  have hn' := hpi.nodup_iff.1 hn
  rw [List.nodup_cons] at hn'
  refine ⟨hn'.2, fun p h => hm p (hp.symm.subset (List.mem_cons_of_mem _ h)), fun f => ?_⟩
  have h0 : f0 ∈ ids dir' := List.mem_map.2 ⟨(nm, f0), hm _ (hp.symm.subset (by simp)), rfl⟩
  by_cases hf : f = f0
  · subst hf
    rw [updN_same, if_pos ⟨h0, hn'.1⟩, hx]
  · rw [updN_other _ _ _ hf, hF f]
    have : f ∈ ids left ↔ f ∈ ids left' := by
      rw [hpi.mem_iff, List.mem_cons]
      exact ⟨fun h => h.resolve_left hf, .inr⟩
    simp only [this]
/-- A file behind a crash: its row is cut. -/
theorem crash_cut {w W : World} {base d : Nat} {L : Lay} {D : ADisk} (h : DiskAt w base d L D) {f : Nat} (hf : live D f) {A : Option Addr} {c m : Nat} (hv : L.row f = .slice A (D.file f).b.length c) (hm : m ≤ (D.file f).b.length)
    (hW : W.heap = ((w.setCell ⟨f, 0, none⟩ (.slice A m c)).setCell ⟨f, 1, none⟩ (.int .i64 m)).heap) (h1 : W.os = w.os) (h2 : W.tape = w.tape) (h3 : W.output = w.output) :
    DStep w base d L D W { L with row := updN L.row f (.slice A m c) } { D with file := updN D.file f ⟨(D.file f).b.take m, m⟩ } := by
  obtain ⟨_, hc, hr⟩ := h.fil f hf
  have hb := h.ok.big f hf
  have hcell : ∀ k, k ≠ f → W.heap[k]? = w.heap[k]? := fun k hk => by
    rw [hW, Below.heap_setCell _ _ _ _ hk, Below.heap_setCell _ _ _ _ hk]
  have hl : ((D.file f).b.take m).length = m := by rw [List.length_take]; omega
  have hown : ∀ n n', (Value.slice A n c).ownBlock = (Value.slice A n' c).ownBlock := fun n n' => by cases A <;> rfl
  refine h.set_file hf ⟨h1, h2, h3, by rw [hW]; simp [World.setCell], fun k _ hn => hcell k (fun e => hn (.inl e))⟩ ?_ ?_ (.inl (by rw [hv]; exact hown _ _)) (by simp only [hl]; omega) (by simp only [hl]; omega)
  · rw [hW, heap_at_setCell (heap_at_setCell hc)]; rfl
  · rw [hv] at hr
    refine R_moved rfl (Kd.R_take hr hm) (fun k hk => hcell k ?_)
    rintro rfl
    have hk' : (Value.slice A (D.file k).b.length c).ownBlock = some k := (hown _ _).trans hk
    obtain ⟨cells, hcc⟩ := own_block_typed hr hk'
    exact ne_of_types hc hcc (by decide) rfl
/-- A file behind a crash: its row is cut, and the last byte turned. -/
theorem crash_turn {w W : World} {base d : Nat} {L : Lay} {D : ADisk} (h : DiskAt w base d L D) {f : Nat} (hf : live D f) {g c m : Nat} (hv : L.row f = .slice (some ⟨g, 0, none⟩) (D.file f).b.length c) (hm : m ≤ (D.file f).b.length) (hm0 : 0 < m) {y : UInt8}
    (hy : y = (D.file f).b.getD (m - 1) 0 ^^^ 85)
    (hW : W.heap = (((w.setCell ⟨f, 0, none⟩ (.slice (some ⟨g, 0, none⟩) m c)).setCell ⟨g, m - 1, none⟩ (.int .u8 (y.toNat : Int))).setCell ⟨f, 1, none⟩ (.int .i64 m)).heap) (h1 : W.os = w.os) (h2 : W.tape = w.tape) (h3 : W.output = w.output) :
    DStep w base d L D W { L with row := updN L.row f (.slice (some ⟨g, 0, none⟩) m c) } { D with file := updN D.file f ⟨turnB ((D.file f).b.take m) (m - 1) 85, m⟩ } := by
  obtain ⟨_, hc, hr⟩ := h.fil f hf
  have hb := h.ok.big f hf
  rw [hv] at hr
  have hgf : g ≠ f := by
    rintro rfl
    obtain ⟨cells, hcc⟩ := own_block_typed hr rfl
    exact ne_of_types hc hcc (by decide) rfl
  have hcell : ∀ k, k ≠ f → k ≠ g → W.heap[k]? = w.heap[k]? := fun k hk hk' => by
    rw [hW, Below.heap_setCell _ _ _ _ hk, Below.heap_setCell _ _ _ _ hk', Below.heap_setCell _ _ _ _ hk]
  have hl : ((D.file f).b.take m).length = m := by rw [List.length_take]; omega
  have hl2 : (turnB ((D.file f).b.take m) (m - 1) 85).length = m := by unfold turnB; rw [List.length_set, hl]
  refine h.set_file hf ⟨h1, h2, h3, by rw [hW]; simp [World.setCell], fun k _ hn => hcell k (fun e => hn (.inl e)) (fun e => hn (.inr (by rw [hv, e]; rfl)))⟩ ?_ ?_ (.inl (by rw [hv]; rfl)) (by simp only [hl2]; omega) (by simp only [hl2]; omega)
  · rw [hW, heap_at_setCell (by rw [Below.heap_setCell _ _ _ _ hgf.symm]; exact heap_at_setCell hc)]; rfl
  · have hr1 : u8.R 5 (w.setCell ⟨f, 0, none⟩ (.slice (some ⟨g, 0, none⟩) m c)) base (fun _ => True) (.slice (some ⟨g, 0, none⟩) m c) ((D.file f).b.take m) := by
      refine R_moved rfl (Kd.R_take hr hm) (fun k hk => Below.heap_setCell _ _ _ _ ?_)
      injection hk with hk
      exact fun e => hgf (hk.trans e)
    have hr2 := u8_R_set hr1 (m - 1) (by omega) y
    have e1 : turnB ((D.file f).b.take m) (m - 1) 85 = ((D.file f).b.take m).set (m - 1) y := by
      unfold turnB
      rw [hy]
      congr 2
      rw [List.getD_eq_getElem?_getD, List.getD_eq_getElem?_getD, List.getElem?_take_of_lt (by omega)]
    simp only [e1]
    refine R_moved rfl hr2 (fun k hk => ?_)
    injection hk with hk
    have hkf : k ≠ f := fun e => hgf (hk.trans e)
    rw [hW, Below.heap_setCell _ _ _ _ hkf]
    rfl
theorem set_quota' {w : World} {base d : Nat} {L : Lay} {D : ADisk} (h : DiskAt w base d L D) (q : Int) (hq : -9223372036854775808 ≤ q ∧ q ≤ 9223372036854775807) : DStep w base d L D (w.setCell ⟨d, 3, none⟩ (.int .i64 q)) L { D with quota := q } :=
  h.set_self (Keep.of_set w ⟨d, 3, none⟩ _) (by rw [heap_at_setCell h.self]; rfl) (.inl ⟨rfl, rfl⟩) (.inl ⟨rfl, rfl⟩) (fun f hf => hf) h.ok.n2 h.ok.replay h.ok.okc h.ok.inj hq
theorem DStep.resane {w w' : World} {base d : Nat} {L L' : Lay} {D D' : ADisk} (h : DStep w base d L D w' L' D') (h1 : D'.chg = []) (h2 : D'.dir = D'.sdir) : DStep w base d L D w' L' { D' with sane := true } := by
  obtain ⟨⟨a1, a2, a3, a4, a5, a6, a7, a8, a9, a10, ⟨b1, b2, b3, b4, b5, b6, b7, b8⟩⟩, k, s⟩ := h
  refine ⟨⟨a1, a2, a3, a4, a5, a6, a7, a8, a9, a10, ⟨b1, b2, b3, b4, fun _ => ?_, fun _ => ?_, b7, b8⟩⟩, k, s⟩
  · show D'.dir = D'.chg.foldl doD D'.sdir
    rw [h1, h2]; rfl
  · show OkChgs D'.sdir D'.chg
    rw [h1]; trivial
set_option maxHeartbeats 3200000 in
set_option maxRecDepth 100000 in
theorem disk_Crash {w : World} {base d : Nat} {L : Lay} {D : ADisk} (h : DiskAt w base d L D) (hsane : D.sane = true) (pick : Int) (hp : -9223372036854775808 ≤ pick ∧ pick ≤ 9223372036854775807) (hch : D.chg.length ≤ 1000000) :
    Calls Tryd.prog 23 #[dptr d, .int .i64 pick] w (DPost w base d L D (.tuple #[]) (crashD D pick)) := by
  have hc1 := h.c1
  obtain ⟨A, c, hv, hle, hC⟩ := Kd.R_reads h.chg
  have hc2 := h.c2
  rw [hv] at hc2
  have HCL := Aside0.mk (clone_dir h.sdir)
  have H := Aside0.mk h
  have HCH := Aside0.mk hC
  have HSN := Aside0.mk hsane
  obtain ⟨p, hpp⟩ : ∃ p, p = crashP pick := ⟨_, rfl⟩
  have HP := Aside0.mk hpp
  have hp1 : (if pick < 0 then -(pick + 1) else pick) = (p : Int) ∧ (p : Int) ≤ 9223372036854775807 := by
    rw [hpp]
    unfold crashP
    split <;> omega
  obtain ⟨hp1, hp2⟩ := hp1
  have HP1 := Aside0.mk hp1
  have hlenc : D.chg.length ≤ 1000000 := hch
  have hpd0 : (0 : Int) ≤ p := by omega
  have hmod0 : (0 : Int) ≤ (p : Int) % ((D.chg.length : Int) + 1) := Int.emod_nonneg _ (by omega)
  have hmod1 : (p : Int) % ((D.chg.length : Int) + 1) ≤ D.chg.length := by have := Int.emod_lt_of_pos (p : Int) (show (0 : Int) < (D.chg.length : Int) + 1 by omega); omega
  obtain ⟨m, hm⟩ := Int.eq_ofNat_of_zero_le hmod0
  have HM := Aside0.mk (show m = p % (D.chg.length + 1) by
    have e := Int.natCast_emod p (D.chg.length + 1)
    rw [Int.natCast_add] at e
    have e1 : ((1 : Nat) : Int) = 1 := rfl
    rw [e1, hm] at e
    omega)
  obtain ⟨q, hq⟩ : ∃ q : Nat, q = p / (D.chg.length + 1) := ⟨_, rfl⟩
  have hq1 : (p : Int) / ((D.chg.length : Int) + 1) = (q : Int) := by
    have e := Int.natCast_ediv p (D.chg.length + 1)
    rw [Int.natCast_add] at e
    have e1 : ((1 : Nat) : Int) = 1 := rfl
    rw [e1] at e
    rw [hq]
    exact e.symm
  have hq2 : (q : Int) ≤ 9223372036854775807 := by
    have : q ≤ p := by rw [hq]; exact Nat.div_le_self _ _
    omega
  have HQ := Aside0.mk hq
  clear hq
  have hs := (sl_take (P := Tryd.prog) kchg 64 75 .i64 Tryd.underlying64 info_chg rfl A D.chg c ((p : Int) % ((D.chg.length : Int) + 1)) hmod0 hmod1 hle)
  rw [hm, Int.toNat_natCast] at hs
  obtain ⟨hs1, hs2, hs3⟩ := hs
  have HCT := Aside0.mk hs3
  clear hs3
  have hm2 : m ≤ D.chg.length := by omega
  clear h hv hC hch hpp hp1 hsane
  unfold dptr
  have HPQ : (pick < 0 ∧ -(pick + 1) = (p : Int)) ∨ (¬ pick < 0 ∧ pick = (p : Int)) := by
    have := HP1.out
    split at this
    · left; omega
    · right; omega
  rcases HPQ with ⟨hneg, hpk⟩ | ⟨hneg, hpk⟩
  all_goals
    go_enter Tryd.func23, Tryd.ntmps23
    go_wp2_with fail
    refine HCL.out.mono ?_
    rintro e w1 ⟨b', rfl, hd, hb', hb⟩
    have HD := Aside0.mk hd
    have HB' := Aside0.mk hb'
    have HB := Aside0.mk hb
    have hc2' : w1.cell? ⟨d, 2, none⟩ = some (.slice A D.chg.length c) := by rw [hb.cell (p := ⟨d, 2, none⟩) (H.out.fp_lt d (.inl rfl))]; exact hc2
    clear hd hb' hb
    go_wp2_with fail
    go_quiet (fail)
    go_wp2_with fail
    have B2 := Aside0.mk (show Below w.heap.size w (w1.drewN nq) from ⟨HB.out.os, HB.out.tape, HB.out.output, HB.out.size, HB.out.block⟩)
    have D2 := Aside0.mk (show DirIs (w1.drewN nq) b' D.sdir from HD.out)
    have C2 := Aside0.mk (HCT.out _ (Kd.C_below HCH.out B2.out))
    clear HD HB hc2' hc2 hc1
    generalize w1.drewN nq = w2 at *
    have hlm : (D.chg.take m).length = m := by rw [List.length_take]; omega
    rw [hlm] at C2
    have OKC := Aside0.mk (H.out.ok.okc HSN.out)
    have HQ1 := Aside0.mk hq1
    clear hm hq1
    go_loopw [37] (fun v37 wr => ∃ i : Nat, i ≤ m ∧ v37 = .int .i64 i ∧ Aside0 (DirIs wr b' ((D.chg.take i).foldl doD D.sdir)) ∧ Aside0 (Below w.heap.size w wr)) (fun v _ => m - (intOf v).toNat)
    case atStart => exact ⟨0, by omega, rfl, ⟨by simpa using D2.out⟩, B2⟩
    case round =>
      obtain ⟨i, hi, rfl, HDI, HBI⟩ := hrel
      by_cases hlt : i < m
      · have hic : i < D.chg.length := by omega
        have CI := HCT.out _ (Kd.C_below HCH.out HBI.out)
        rw [hlm] at CI
        obtain ⟨cb, co, hA, hcell⟩ := chg_open CI (by omega)
        have hci : (D.chg.take m)[i]'(by omega) = D.chg[i] := by simp
        have x0 := hcell i (by omega) 0 _ rfl
        have x1 := hcell i (by omega) 1 _ rfl
        have x2 := hcell i (by omega) 2 _ rfl
        have x3 := hcell i (by omega) 3 _ rfl
        rw [hci] at x0 x1 x2 x3
        rw [Nat.add_zero] at x0
        subst hA
        have OKI := okchgs_get i hic OKC.out
        have HDO := Aside0.mk (fun W (hW : DirIs W b' ((D.chg.take i).foldl doD D.sdir)) => disk_do b' _ D.chg[i] W hW OKI)
        have HTK := Aside0.mk (show (D.chg.take (i+1)).foldl doD D.sdir = doD ((D.chg.take i).foldl doD D.sdir) D.chg[i] by rw [List.take_succ_eq_append_getElem hic, List.foldl_append]; rfl)
        clear hcell hci CI OKI
        generalize D.chg[i] = ch at *
        obtain ⟨kind, name, dst, f⟩ := ch
        simp only [Chg.cells] at *
        rcases f with _ | g
        all_goals
          simp only [optp, fptr] at HDO x3
          go_wp2_with (go_at_call 39; refine (HDO.out _ (by exact HDI.out.moved (Below.heap_alloc _ _ _ HDI.out.lt))).mono ?_; rintro e w3 ⟨rfl, hd3, hg3⟩)
          have D3 := Aside0.mk hd3
          have B3 := Aside0.mk (HBI.out.trans (((Keep.of_alloc (fun k => b' = k) wr _).trans (G := fun k => some b' = some k) (Keep.of_grown hg3) (fun k hk => .inl (by injection hk))).below (fun k hk => by rw [← hk]; exact HB'.out) HBI.out.size))
          clear hd3 hg3
          go_roundw
          case rel => exact ⟨i + 1, by omega, by go_num, ⟨by rw [HTK.out]; exact D3.out⟩, B3⟩
          case measure => simp [intOf]; omega
      · obtain rfl : i = m := by omega
        have hq1 := HQ1.out
        clear HQ1
        have hself := (DStep.of_below H.out HBI.out).at_.self
        have hx0 : wr.cell? ⟨d, 0, none⟩ = some (.map (some L.mb)) := cell_of_heap hself rfl
        have hx1 : wr.frozen? ⟨d, 0, none⟩ = false := frozen_of_heap hself
        have hOK := okchgs_take i OKC.out
        have hids : ∀ f, f ∈ ids ((D.chg.take i).foldl doD D.sdir) → live D f := fun f hf => by
          rcases okchgs_ids hOK hf with h1 | ⟨c', h1, h2⟩
          · exact .inr (.inl h1)
          · exact .inr (.inr ⟨c', List.mem_of_mem_take h1, h2⟩)
        have HST := Aside0.mk (H.out.set_dir (w' := wr.setCell ⟨d, 0, none⟩ (.map (some b'))) (b' := b') (dir' := (D.chg.take i).foldl doD D.sdir)
          (((Keep.of_below HBI.out).mono (G := fun k => k = d) (fun k hk => .inr hk)).trans (G := fun k => k = d) (Keep.of_set wr ⟨d, 0, none⟩ _) (fun k hk => .inl hk))
          (by rw [heap_at_setCell hself]; rfl) HB'.out (HDI.out.moved (Below.heap_setCell _ _ _ _ (by show b' ≠ d; have := H.out.fp_lt d (.inl rfl); have := HB'.out; omega))) hids (okchgs_len hOK H.out.ok.n2) (ids_nodup_all hOK H.out.ok.inj))
        have HDIR := Aside0.mk (show (D.chg.take i).foldl doD D.sdir = crashDir D (crashP pick) by unfold crashDir; rw [← HP.out, ← HM.out])
        have HQ2 := Aside0.mk (show q = crashP pick / (D.chg.length + 1) by rw [← HP.out]; exact HQ.out)
        obtain ⟨dir', hdir'⟩ : ∃ x, x = crashDir D (crashP pick) := ⟨_, rfl⟩
        rw [HDIR.out, ← hdir'] at HST
        have HDE := Aside0.mk hdir'
        clear hdir'
        have HRS := Aside0.mk HBI.out.size
        clear hself hOK hids HDI HBI C2 D2 B2 HCT hs1 hs2 hlm OKC HDIR HM HQ HP HP1 hmod0 hmod1 hpk hneg hlt hi hm2
        go_wp2_with (at_range; refine wp_range_dir (.tmp 52) 63 9 73 b' dir' rfl rfl Tryd.underlying63 rfl HST.out.at_.dir ?_)
        intro w5 hr5 hg5 hs5
        have HR5 := Aside0.mk hr5
        have hrs : w.heap.size ≤ wr.heap.size := HRS.out
        have hk5 : Keep (fun _ => False) (wr.setCell ⟨d, 0, none⟩ (.map (some b'))) w5 := (Keep.of_grown hg5).mono (fun k hk => by cases hk)
        have hst5 : DStep w base d L D w5 ⟨b', L.sb, L.chv, L.row⟩ { D with dir := dir', sane := false } := ⟨HST.out.at_.kept hk5 (fun k hk => hk.elim), HST.out.keep.trans hk5 (fun k hk => hk.elim), HST.out.sub⟩
        have HS5 := Aside0.mk hst5
        clear hr5 hg5 hs5 hk5 hst5 hx0 hx1 hq1 HST
        go_wp2_with fail
        generalize wr.heap.size = rz at *
        go_loopg [10] dir'.length (fun kq v10 wz => ∃ (left : Dir) (Lz : Lay) (FF : Nat → FileS), left.length = kq ∧ Aside0 (Lz.mb = b') ∧ Aside0 (left.Sublist dir' ∨ True) ∧ Aside0 (∀ p ∈ left, p ∈ dir') ∧ Aside0 ((ids left).Nodup) ∧ Aside0 (∀ f, FF f = if f ∈ ids dir' ∧ f ∉ ids left then crashF (D.file f) q else D.file f) ∧ Aside0 (Ranging wz b' rz dir' left) ∧ Aside0 (DStep w base d L D wz Lz { D with dir := dir', sane := false, file := FF }))
        case atStart => exact ⟨dir', _, D.file, rfl, ⟨rfl⟩, ⟨.inr trivial⟩, ⟨fun _ h => h⟩, ⟨HS5.out.at_.ok.injd⟩, ⟨fun f => by rw [if_neg (fun h => h.2 h.1)]⟩, HR5, HS5⟩
        case round =>
          obtain ⟨left, Lz, FF, rfl, HMB, _, HMEM, HND, HFF, HR, HS⟩ := hrel
          go_wp2_with (at_next; refine wp_next_dir (.tmp 53) b' rz dir' left rfl rfl rfl HR.out ?_ ?_)
          · intro hleft
            have HFE := Aside0.mk (show FF = (crashD D pick).file by
              funext f
              rw [HFF.out f, hleft]
              show _ = if f ∈ ids (crashDir D (crashP pick)) then crashF (D.file f) (crashP pick / (D.chg.length + 1)) else D.file f
              rw [← HDE.out, ← HQ2.out]
              by_cases hf : f ∈ ids dir'
              · rw [if_pos hf, if_pos ⟨hf, fun h => (by cases h)⟩]
              · rw [if_neg hf, if_neg (fun h => hf h.1)])
            clear HFF hleft HR
            have hself := HS.out.at_.self
            have hy0 : wr.cell? ⟨d, 3, none⟩ = some (.int .i64 D.quota) := cell_of_heap hself rfl
            have hy1 : wr.frozen? ⟨d, 3, none⟩ = false := frozen_of_heap hself
            have HS7 := Aside0.mk (HS.out.trans (set_quota' HS.out.at_ (-1) (by decide)))
            have HSY := Aside0.mk (disk_SyncDir HS7.out.at_)
            simp only [dptr] at HSY
            clear hself
            go_wp2_with (go_at_call 36; refine HSY.out.mono ?_; rintro e w8 ⟨L8, rfl, hst8⟩)
            go_end0
            refine ⟨L8, rfl, ?_⟩
            have h8 := (HS7.out.trans hst8).resane rfl rfl
            have e8 : ({ syncDirD { D with dir := dir', sane := false, file := FF, quota := -1 } with sane := true } : ADisk) = crashD D pick := by
              simp only [syncDirD, HFE.out, HDE.out]
              rfl
            rw [← e8]
            exact h8
          · intro nm0 f0 left' w6 hp6 hr6 hg6 hs6 hen
            have hmem6 : (nm0, f0) ∈ left := hp6.symm.subset (by simp)
            have hf0 : f0 ∈ ids dir' := List.mem_map.2 ⟨_, HMEM.out _ hmem6, rfl⟩
            have hfl : f0 ∈ ids left := List.mem_map.2 ⟨_, hmem6, rfl⟩
            have hFF0 : FF f0 = D.file f0 := by rw [HFF.out f0, if_neg (fun h => h.2 hfl)]
            have hk6 : Keep (fun k => rz = k) wr w6 := (Keep.of_grown hg6).mono (fun k hk => .inl (by injection hk))
            have hiter : ∀ k, rz = k → ¬ FP d Lz { D with dir := dir', sane := false, file := FF } k ∨ wr.heap.size ≤ k := by
              rintro k rfl
              left
              intro hfp
              obtain ⟨hbr, es, cl, seen, _, _, hit, _⟩ := HR.out
              rcases HS.out.at_.fp_kind _ hfp with ⟨es', c', e⟩ | ⟨cs', t', e, _⟩
              · rw [hit] at e; cases e
              · rw [hit] at e; cases e
            have hd6 := HS.out.at_.kept hk6 hiter
            have hS6 : DStep w base d L D w6 Lz { D with dir := dir', sane := false, file := FF } := ⟨hd6, (HS.out.keep.trans hk6 (fun k hk => .inr (by rw [← hk]; exact HRS.out))), HS.out.sub⟩
            have hlive : live { D with dir := dir', sane := false, file := FF } f0 := .inl hf0
            obtain ⟨_, hfh, hfr⟩ := hd6.fil f0 hlive
            obtain ⟨hbig1, hbig2⟩ := hd6.ok.big f0 hlive
            obtain ⟨A6, c6, hv6, hle6, hC6⟩ := Kd.R_reads hfr
            simp only [hFF0] at hfh hfr hbig1 hbig2 hv6 hle6 hC6
            have hy0 : w6.cell? ⟨f0, 0, none⟩ = some (.slice A6 (D.file f0).b.length c6) := by rw [← hv6]; exact cell_of_heap hfh rfl
            have hy1 : w6.cell? ⟨f0, 1, none⟩ = some (.int .i64 (D.file f0).safe) := cell_of_heap hfh rfl
            have hz0 : w6.frozen? ⟨f0, 0, none⟩ = false := frozen_of_heap hfh
            have hz1 : w6.frozen? ⟨f0, 1, none⟩ = false := frozen_of_heap hfh
            have HS6 := Aside0.mk hS6
            have HP6 := Aside0.mk hp6
            have HR6 := Aside0.mk hr6
            have HFR := Aside0.mk hfr
            have HFH := Aside0.mk hfh
            have HV6 := Aside0.mk hv6
            have HL0 := Aside0.mk hlive
            have HFF0 := Aside0.mk hFF0
            have HB6 := Aside0.mk hbig1
            have hm0 : 0 ≤ (q : Int) % (((D.file f0).b.length : Int) - (D.file f0).safe + 1) := Int.emod_nonneg _ (by omega)
            have hm1 : (q : Int) % (((D.file f0).b.length : Int) - (D.file f0).safe + 1) ≤ ((D.file f0).b.length : Int) - (D.file f0).safe := by
              have := Int.emod_lt_of_pos (q : Int) (show (0 : Int) < ((D.file f0).b.length : Int) - (D.file f0).safe + 1 by omega)
              omega
            obtain ⟨k, hk⟩ := Int.eq_ofNat_of_zero_le hm0
            have HK := Aside0.mk (show k = q % ((D.file f0).b.length - (D.file f0).safe + 1) by
              have e := Int.natCast_emod q ((D.file f0).b.length - (D.file f0).safe + 1)
              rw [Int.natCast_add, Int.ofNat_sub hbig2] at e
              have e1 : ((1 : Nat) : Int) = 1 := rfl
              rw [e1, hk] at e
              omega)
            have hkl : (D.file f0).safe + k ≤ (D.file f0).b.length := by omega
            have hkl' : ((D.file f0).safe : Int) + k ≤ (D.file f0).b.length := by omega
            have hkc : ((D.file f0).safe : Int) + k ≤ c6 := by omega
            clear hmem6 hf0 hfl hFF0 hk6 hiter hd6 hS6 hlive hfh hfr hv6 hC6 hp6 hr6 hg6 hs6 HR HS hm0 hm1
            simp only [fptr] at *
            obtain ⟨bl, hbl⟩ : ∃ bl, bl = (D.file f0).b.length := ⟨_, rfl⟩
            obtain ⟨sf, hsf⟩ : ∃ sf, sf = (D.file f0).safe := ⟨_, rfl⟩
            have HBL := Aside0.mk hbl.symm
            have HSF := Aside0.mk hsf.symm
            rw [← hbl] at hbig1 hbig2 hle6 hy0 HV6 HB6 hk HK hkl hkl'
            rw [← hsf] at hbig2 hy1 HFH hk HK hkl hkl' hkc
            clear hbl hsf
            go_wp2_with fail
            go_quiet (fail)
            go_wp2_with fail
            go_region
            have hq2' : 0 ≤ (q : Int) := by omega
            by_cases hodd : 0 < k ∧ q % 2 = 1
            · obtain ⟨ho1, ho2⟩ := hodd
              have ho3 : (0 : Int) < k := by omega
              have ho4 : ((q : Int) % 2 == 1) = true := by simp; omega
              obtain ⟨g, cg, hvg, hbg, hleg, cur, hcg, hcur⟩ := u8_row_open HFR.out (by rw [HBL.out]; omega)
              have hgf : g ≠ f0 := ne_of_types hcg HFH.out (by decide)
              have hv7 := HV6.out
              rw [hvg, HBL.out] at hv7
              injection hv7 with hv7a hv7b hv7c
              subst hv7a hv7c
              have hji : sf + k - 1 < (D.file f0).b.length := by rw [HBL.out]; omega
              have hcb : w6.cell? ⟨g, sf + k - 1, none⟩ = some (.int .u8 (((D.file f0).b[sf + k - 1]).toNat : Int)) := cell_of_heap hcg (hcur _ hji)
              have hfg : w6.frozen? ⟨g, sf + k - 1, none⟩ = false := frozen_of_heap hcg
              have HXOR := Aside0.mk (show Go.bits .xor .u8 (((D.file f0).b[sf + k - 1]).toNat : Int) 85 = (((D.file f0).b[sf + k - 1] ^^^ 85).toNat : Int) from xor_u8 (D.file f0).b[sf + k - 1] 85)
              have HGD := Aside0.mk (show (D.file f0).b.getD (sf + k - 1) 0 = (D.file f0).b[sf + k - 1] by rw [List.getD_eq_getElem?_getD, List.getElem?_eq_getElem hji]; rfl)
              generalize (D.file f0).b[sf + k - 1] = y at *
              have hy2 : (0 : Int) ≤ y.toNat := by omega
              have hy3 : (y.toNat : Int) < 256 := by have := y.toNat_lt; omega
              have hsk : (1 : Int) ≤ (sf : Int) + k := by omega
              clear hbg hleg hcg hcur hvg hji
              have HX : Aside0 ((⟨turnB ((D.file f0).b.take (sf + k)) (sf + k - 1) 85, sf + k⟩ : FileS) = crashF (D.file f0) q) := Aside0.mk (by
                unfold crashF
                rw [HBL.out, HSF.out, ← HK.out, if_pos ⟨ho1, ho2⟩])
              have HG := Aside0.mk (ff_step HP6.out HND.out HMEM.out HFF.out HX.out)
              have hbl9 : (bl : Int) ≤ 16777216 := by omega
              clear ho1 ho2 hv7b
              go_wp2_with fail
              go_region
              all_goals
                go_wp2
                go_roundg left'.length
                case measure => have := HP6.out.length_eq; simp at this; omega
                case rel =>
                  refine ⟨left', { Lz with row := updN Lz.row f0 (.slice (some ⟨g, 0, none⟩) (sf + k) cg) }, updN FF f0 ⟨turnB ((D.file f0).b.take (sf + k)) (sf + k - 1) 85, sf + k⟩, rfl, HMB, ⟨.inr trivial⟩, ⟨HG.out.2.1⟩, ⟨HG.out.1⟩, ⟨HG.out.2.2⟩, ⟨(((show Ranging (w6.drewN (nq + 1)) b' rz dir' left' from HR6.out).setCell _ _).setCell _ _).setCell _ _⟩, ⟨HS6.out.trans ?_⟩⟩
                  rw [HXOR.out]
                  have := crash_turn (W := ((((w6.drewN (nq + 1)).setCell ⟨f0, 0, none⟩ (.slice (some ⟨g, 0, none⟩) (sf + k) cg)).setCell ⟨g, sf + k - 1, none⟩ (.int .u8 ((y ^^^ 85).toNat : Int))).setCell ⟨f0, 1, none⟩ (.int .i64 ((sf : Int) + k))).drew) HS6.out.at_ HL0.out (g := g) (c := cg) (m := sf + k) (y := y ^^^ 85) (by simp only [HFF0.out, HBL.out]; exact HV6.out) (by simp only [HFF0.out, HBL.out]; exact hkl) (by omega) (by simp only [HFF0.out, HGD.out]) rfl rfl rfl rfl
                  simp only [HFF0.out] at this
                  exact this
            · have HX : Aside0 ((⟨(D.file f0).b.take (sf + k), sf + k⟩ : FileS) = crashF (D.file f0) q) := Aside0.mk (by
                unfold crashF
                rw [HBL.out, HSF.out, ← HK.out, if_neg hodd])
              have HG := Aside0.mk (ff_step HP6.out HND.out HMEM.out HFF.out HX.out)
              by_cases ho1 : 0 < k
              · have ho2 : ((q : Int) % 2 == 1) = false := by simp; omega
                have ho3 : (0 : Int) < k := by omega
                clear hodd ho1
                go_wp2
                go_roundg left'.length
                case measure => have := HP6.out.length_eq; simp at this; omega
                case rel =>
                  refine ⟨left', { Lz with row := updN Lz.row f0 (.slice A6 (sf + k) c6) }, updN FF f0 ⟨(D.file f0).b.take (sf + k), sf + k⟩, rfl, HMB, ⟨.inr trivial⟩, ⟨HG.out.2.1⟩, ⟨HG.out.1⟩, ⟨HG.out.2.2⟩, ⟨((show Ranging (w6.drewN (nq + 1)) b' rz dir' left' from HR6.out).setCell _ _).setCell _ _⟩, ⟨HS6.out.trans ?_⟩⟩
                  have := crash_cut (W := ((w6.drewN (nq + 1)).setCell ⟨f0, 0, none⟩ (.slice A6 (sf + k) c6)).setCell ⟨f0, 1, none⟩ (.int .i64 ((sf : Int) + k))) HS6.out.at_ HL0.out (c := c6) (m := sf + k) (A := A6) (by simp only [HFF0.out, HBL.out]; exact HV6.out) (by simp only [HFF0.out, HBL.out]; exact hkl) rfl rfl rfl rfl
                  simp only [HFF0.out] at this
                  exact this
              · have ho3 : ¬ (0 : Int) < k := by omega
                clear hodd ho1
                go_wp2
                go_roundg left'.length
                case measure => have := HP6.out.length_eq; simp at this; omega
                case rel =>
                  refine ⟨left', { Lz with row := updN Lz.row f0 (.slice A6 (sf + k) c6) }, updN FF f0 ⟨(D.file f0).b.take (sf + k), sf + k⟩, rfl, HMB, ⟨.inr trivial⟩, ⟨HG.out.2.1⟩, ⟨HG.out.1⟩, ⟨HG.out.2.2⟩, ⟨((show Ranging (w6.drewN (nq + 1)) b' rz dir' left' from HR6.out).setCell _ _).setCell _ _⟩, ⟨HS6.out.trans ?_⟩⟩
                  have := crash_cut (W := ((w6.drewN (nq + 1)).setCell ⟨f0, 0, none⟩ (.slice A6 (sf + k) c6)).setCell ⟨f0, 1, none⟩ (.int .i64 ((sf : Int) + k))) HS6.out.at_ HL0.out (c := c6) (m := sf + k) (A := A6) (by simp only [HFF0.out, HBL.out]; exact HV6.out) (by simp only [HFF0.out, HBL.out]; exact hkl) rfl rfl rfl rfl
                  simp only [HFF0.out] at this
                  exact this
end Go.Proofs.YthacnbbijmgjfaaDoor.Lib0

import Derived.Test.YtcmffaejcnbheaaGreatQ19
set_option linter.unusedVariables false
set_option linter.unusedSimpArgs false
namespace Go.Proofs.YtcmffaejcnbheaaGreat.Lib0
open Go.RowKit Go.Proofs.YtcmffaejcnbheaaGreatW.PrintWords Go.ChangeMaps
theorem ck_setSt {w : World} {cp : Nat} {Ab : Option Addr} {cb : Nat} {l : List UInt8} {form n : Int} {s3 s4 v8 : Value} {on st : Int} (h : CkRaw w cp (ckCells Ab cb l form n s3 s4 on st v8)) (st' : Int) : CkRaw (w.setCell ⟨cp, 6, none⟩ (.int .i32 st')) cp (ckCells Ab cb l form n s3 s4 on st' v8) := heap_at_setCell h
theorem ck_setOn {w : World} {cp : Nat} {Ab : Option Addr} {cb : Nat} {l : List UInt8} {form n : Int} {s3 s4 v8 : Value} {on st : Int} (h : CkRaw w cp (ckCells Ab cb l form n s3 s4 on st v8)) (on' : Int) : CkRaw (w.setCell ⟨cp, 5, none⟩ (.int .u32 on')) cp (ckCells Ab cb l form n s3 s4 on' st v8) := heap_at_setCell h
set_option maxHeartbeats 1600000 in
set_option maxRecDepth 100000 in
theorem ck_slow {w : World} {pl cp : Nat} (hne : pl ≠ cp) {Ab : Option Addr} {cb : Nat} {l : List UInt8} {form n : Int} {A3 A4 : Option Addr} {n3 n4 c3 c4 : Nat} (hp : w.cell? ⟨pl, 0, none⟩ = some (.pointer (some ⟨cp, 0, none⟩))) (h : CkRaw w cp (ckCells Ab cb l form n (.slice A3 n3 c3) (.slice A4 n4 c4) 0 0 (.slice none 0 0))) (hC : u8.C w Ab l.length l) (hcb : l.length ≤ cb) (hl : l.length ≤ 1073741824) :
  Calls Tryz.prog 117 #[.pointer (some ⟨cp, 5, none⟩), .func (.func 134) #[] #[.pointer (some ⟨pl, 0, none⟩)]] w (CloS w cp Ab cb l form n (.slice A3 n3 c3) (.slice A4 n4 c4) 1 0 (readR l).cells) := by
 have h1 := ck_setSt h 1
 have k1 := (Keep1.refl cp w).set 6 (.int .i32 1)
 have hC1 := C_keep1 sc_Kw hC (h.off_u8 hC) k1
 have hp1 : (w.setCell ⟨cp, 6, none⟩ (.int .i32 1)).cell? ⟨pl, 0, none⟩ = some (.pointer (some ⟨cp, 0, none⟩)) := (World.cell?_of_block (Below.heap_setCell _ _ _ _ hne)).trans hp
 have HL := Aside0.mk (o_lock ⟨cp, 6, none⟩ w (cell_of_heap h rfl) (frozen_of_heap h))
 have HLD := Aside0.mk (o_load ⟨cp, 5, none⟩ 0 false rfl (w.setCell ⟨cp, 6, none⟩ (.int .i32 1)) (cell_of_heap h1 rfl))
 have HCL := Aside0.mk (all_clo hp1 h1 hC1 hcb hl)
 have K1 := Aside0.mk k1
 have hnot : ∀ (x : Bool) (w : World), (Op.unary .not (.bool x)).run Tryz.prog w = .ok (.bool (!x)) w := fun _ _ => rfl
 generalize (readR l).cells = cs at *
 clear h hC hcb hl h1 k1 hC1 hp1 hp
 go_enter_defers Tryz.func117, Tryz.ntmps117
 go_wp2_with fail
 (with_reducible refine HL.out.mono ?_)
 rintro e w' ⟨rfl, rfl⟩
 go_wp2_with fail
 (with_reducible refine HLD.out.mono ?_)
 rintro e w' ⟨rfl, rfl⟩
 go_wp2_with fail
 (with_reducible refine HCL.out.mono ?_)
 rintro e w2 ⟨rfl, A1, c1, q1, q2, q3, q4, q5⟩
 have Q := Aside0.mk (And.intro q1 (And.intro q2 (And.intro q3 (And.intro q4 q5))))
 clear q1 q2 q3 q4 q5
 have r3 := ck_setOn (show CkRaw w2.drew cp (ckCells Ab cb l form n (.slice A3 n3 c3) (.slice A4 n4 c4) 0 1 (.slice A1 cs.length c1)) from Q.out.2.2.1) 1
 have r4 := ck_setSt r3 0
 have hf : CloS w cp Ab cb l form n (.slice A3 n3 c3) (.slice A4 n4 c4) 1 0 cs (.returned (.tuple #[])) ((w2.drew.setCell ⟨cp, 5, none⟩ (.int .u32 1)).setCell ⟨cp, 6, none⟩ (.int .i32 0)) := by
  have k2 : Keep1 cp w2 ((w2.drew.setCell ⟨cp, 5, none⟩ (.int .u32 1)).setCell ⟨cp, 6, none⟩ (.int .i32 0)) := ((Keep1.drew cp w2).set 5 _).set 6 _
  exact ⟨rfl, A1, c1, Q.out.1, C_keep1 kc_Kw Q.out.2.1 (Q.out.2.2.1.off_kc Q.out.2.1) k2, r4, (K1.out.trans Q.out.2.2.2.1).trans k2, fun ad he => by have := Q.out.2.2.2.2 ad he; simpa [World.setCell] using this⟩
 have HFF := Aside0.mk hf
 have R3 := Aside0.mk r3
 clear r3 r4 hf
 go_wp2
 change Leaves _ _ _ _ _ _ _
 refine leaves_cons (f := 139) (args := #[.pointer (some ⟨cp, 5, none⟩), .bool true]) (by simp) (by simp [go_sem]) ?_
 refine (o_store ⟨cp, 5, none⟩ (.int .u32 0) .returning _ (cell_of_heap Q.out.2.2.1 rfl) (frozen_of_heap Q.out.2.2.1)).mono ?_
 rintro e u' w'' ⟨rfl, rfl, rfl⟩
 refine leaves_cons (f := 138) (args := #[.pointer (some ⟨cp, 6, none⟩)]) (by simp [settle]) (by simp [go_sem]) ?_
 refine (o_unlock ⟨cp, 6, none⟩ _ _ (cell_of_heap R3.out rfl) (frozen_of_heap R3.out)).mono ?_
 rintro e u' w'' ⟨rfl, rfl, rfl⟩
 have := HFF.out
 simp [Leaves, settle, results, Tryz.results117]
 exact this
set_option maxHeartbeats 1600000 in
set_option maxRecDepth 100000 in
theorem ck_do0 {w : World} {pl cp : Nat} (hne : pl ≠ cp) {Ab : Option Addr} {cb : Nat} {l : List UInt8} {form n : Int} {A3 A4 : Option Addr} {n3 n4 c3 c4 : Nat} (hp : w.cell? ⟨pl, 0, none⟩ = some (.pointer (some ⟨cp, 0, none⟩))) (h : CkRaw w cp (ckCells Ab cb l form n (.slice A3 n3 c3) (.slice A4 n4 c4) 0 0 (.slice none 0 0))) (hC : u8.C w Ab l.length l) (hcb : l.length ≤ cb) (hl : l.length ≤ 1073741824) :
  Calls Tryz.prog 86 #[.pointer (some ⟨cp, 5, none⟩), .func (.func 134) #[] #[.pointer (some ⟨pl, 0, none⟩)]] w (CloS w cp Ab cb l form n (.slice A3 n3 c3) (.slice A4 n4 c4) 1 0 (readR l).cells) := by
 have HLD := Aside0.mk (o_load ⟨cp, 5, none⟩ 0 false rfl w (cell_of_heap h rfl))
 have HSL := Aside0.mk (ck_slow hne hp h hC hcb hl)
 have hnot : ∀ (x : Bool) (w : World), (Op.unary .not (.bool x)).run Tryz.prog w = .ok (.bool (!x)) w := fun _ _ => rfl
 generalize (readR l).cells = cs at *
 clear h hC hcb hl hp
 go_enter Tryz.func86, Tryz.ntmps86
 go_wp2_with fail
 (with_reducible refine HLD.out.mono ?_)
 rintro e w' ⟨rfl, rfl⟩
 go_wp2_with fail
 (with_reducible refine HSL.out.mono ?_)
 rintro e w2 ⟨rfl, A1, c1, q1, q2, q3, q4, q5⟩
 have Q := Aside0.mk (And.intro q1 (And.intro q2 (And.intro q3 (And.intro q4 q5))))
 clear q1 q2 q3 q4 q5
 go_wp2
 go_end0
 exact ⟨rfl, A1, c1, Q.out⟩
set_option maxHeartbeats 1600000 in
set_option maxRecDepth 100000 in
theorem once_done (a : Addr) (fv : Value) (w : World) (h : w.cell? a = some (.int .u32 1)) (a5 : Addr) (ha : a5.add 0 = a) :
  Calls Tryz.prog 86 #[.pointer (some a5), fv] w fun e w' => e = .returned (.tuple #[]) ∧ w' = w := by
 have hz0 : a5.add 0 = a5 := by simp [Addr.add]
 rw [hz0] at ha
 subst ha
 have HLD := Aside0.mk (o_load a5 1 true rfl w h)
 have hnot : ∀ (x : Bool) (w : World), (Op.unary .not (.bool x)).run Tryz.prog w = .ok (.bool (!x)) w := fun _ _ => rfl
 go_enter Tryz.func86, Tryz.ntmps86
 go_wp2_with fail
 (with_reducible refine HLD.out.mono ?_)
 rintro e w' ⟨rfl, rfl⟩
 go_wp2
 go_end0
 exact ⟨rfl, rfl⟩
theorem C_lt {α : Type} {d : Kd α} {w : World} {A : Option Addr} {n : Nat} {l : List α} (hs : 0 < d.sz) (h : d.C w A n l) : ∀ ad, A = some ad → 0 < n → ad.block < w.heap.size := by
 rintro ad rfl hn
 obtain ⟨ad', e, hc⟩ := h.2.2 hn
 cases e
 have hl : 0 < l.length := by have := h.1; omega
 obtain ⟨cs, hlen, hk, hcell⟩ := hc 0 l[0] (List.getElem?_eq_getElem hl)
 have h0 : 0 < cs.length := by rw [hlen]; exact hs
 have := hcell 0 cs[0] (List.getElem?_eq_getElem h0)
 have := World.block_lt_of_cell? w _ this
 rwa [add_block] at this
def ChkOn (w : World) (cp : Nat) (l : List UInt8) (form : Nat) (cs : List CellM) (A1 : Option Addr) (c1 : Nat) : Prop :=
 ∃ (Ab : Option Addr) (cb : Nat) (Ad : Option Addr) (nd cd : Nat) (At : Option Addr) (nt ct : Nat), CkRaw w cp (ckCells Ab cb l form cs.length (.slice Ad nd cd) (.slice At nt ct) 1 0 (.slice A1 cs.length c1)) ∧ l.length ≤ cb ∧ u8.C w Ab l.length l ∧ cs.length ≤ c1 ∧ kc.C w A1 cs.length cs
theorem ChkOn.at_ {w : World} {cp : Nat} {l : List UInt8} {form : Nat} {cs : List CellM} {A1 : Option Addr} {c1 : Nat} (h : ChkOn w cp l form cs A1 c1) : ChkAt w cp l form cs := by
 obtain ⟨Ab, cb, Ad, nd, cd, At, nt, ct, h1, h2, h3, h4, h5⟩ := h
 exact ⟨Ab, cb, Ad, nd, cd, At, nt, ct, 1, _, h1, h2, h3, .inr ⟨rfl, A1, c1, rfl, h4, h5⟩⟩
def AllS (lo : Nat) (w : World) (cp : Nat) (l : List UInt8) (form : Nat) (cs : List CellM) (e : Ending) (w' : World) : Prop :=
 ∃ A1 c1, e = .returned (.slice A1 cs.length c1) ∧ cs.length ≤ c1 ∧ kc.C w' A1 cs.length cs ∧ ChkOn w' cp l form cs A1 c1 ∧ Keep1 cp w w' ∧ (∀ ad, A1 = some ad → 0 < cs.length → ad.block < lo ∨ w.heap.size ≤ ad.block) ∧ (∀ q, SubAt w' cp q → SubAt w cp q ∨ w.heap.size ≤ q)
set_option maxHeartbeats 1600000 in
set_option maxRecDepth 100000 in
theorem ck_all {w0 w : World} {cp : Nat} {l : List UInt8} {form : Nat} {cs : List CellM} (h0 : ChkAt w0 cp l form cs) (h0b : Below w0.heap.size w0 w) (hcs : cs = (readR l).cells) (hl : l.length ≤ 1073741824) :
  Calls Tryz.prog 113 #[.pointer (some ⟨cp, 0, none⟩)] w (AllS w0.heap.size w cp l form cs) := by
 have h0' := h0
 have hlt : cp < w.heap.size := Nat.lt_of_lt_of_le h0.lt h0b.size
 obtain ⟨Ab, cb, Ad, nd, cd, At, nt, ct, on, v8, hh, h1, h2, h3⟩ := h0'
 have hh := (h0b.block cp h0.lt).trans hh
 have h2 := Kd.C_below h2 h0b
 have hmf : ∀ (fn : Fn) (first cap : Array Value) (w : World), (Instr.makeFunc fn first cap).run Tryz.prog w = .ok (.func fn first cap) w := fun _ _ _ _ => rfl
 have BO := below_alloc (Below.refl w.heap.size w) (.cells #[.pointer (some ⟨cp, 0, none⟩)] 117)
 have hpl : (w.alloc (.cells #[.pointer (some ⟨cp, 0, none⟩)] 117)).cell? ⟨w.heap.size, 0, none⟩ = some (.pointer (some ⟨cp, 0, none⟩)) := cell_of_heap (heap_alloc_new w _) rfl
 have hne : w.heap.size ≠ cp := by omega
 rcases h3 with ⟨rfl, rfl⟩ | ⟨rfl, Ac, cc, rfl, h5, h6⟩
 ·have hraw : CkRaw w cp (ckCells Ab cb l form cs.length (.slice Ad nd cd) (.slice At nt ct) 0 0 (.slice none 0 0)) := hh
  have HDO := ck_do0 hne hpl (hraw.keep BO) (Kd.C_below h2 BO) h1 hl
  rw [← hcs] at HDO
  have HDO := Aside0.mk HDO
  have HBO := Aside0.mk BO
  have HPL := Aside0.mk hpl
  have H1 := Aside0.mk h1
  have H2 := Aside0.mk h2
  have HRW := Aside0.mk hraw
  clear hh h1 h2 hcs hl hraw BO hpl h0 h0b
  go_enter Tryz.func113, Tryz.ntmps113
  go_wp2_with fail
  (with_reducible refine HDO.out.mono ?_)
  rintro e w2 ⟨rfl, A1, c1, q1, q2, q3, q4, q5⟩
  have x8 : w2.cell? ⟨cp, 8, none⟩ = some (.slice A1 cs.length c1) := cell_of_heap (i := 8) q3 rfl
  have xp : w2.cell? ⟨w.heap.size, 0, none⟩ = some (.pointer (some ⟨cp, 0, none⟩)) := (World.cell?_of_block (q4.block w.heap.size (by simp) hne)).trans HPL.out
  have Q := Aside0.mk (And.intro q1 (And.intro q2 (And.intro q3 (And.intro q4 q5))))
  clear q1 q2 q3 q4 q5
  go_wp2
  go_ret
  have k := (Keep1.of_below (b := cp) HBO.out).trans Q.out.2.2.2.1
  exact ⟨A1, c1, rfl, Q.out.1, Q.out.2.1, ⟨Ab, cb, Ad, nd, cd, At, nt, ct, Q.out.2.2.1, H1.out, C_keep1 sc_Kw H2.out (HRW.out.off_u8 H2.out) k, Q.out.1, Q.out.2.1⟩, k, fun ad he _ => .inr (by have := Q.out.2.2.2.2 ad he; simp at this; omega), fun q hq => by
   rcases hq.raw Q.out.2.2.1 with rfl | ⟨ad, n, c', h0, h | h, rfl⟩
   ·exact .inl (.inl rfl)
   ·exact (.inl (.inr ⟨ad, n, c', h0, .inl ((cell_of_heap (i := 0) HRW.out rfl).trans (congrArg some h)), rfl⟩))
   ·injection h with h1
    exact .inr (by have := Q.out.2.2.2.2 ad h1; simp at this; omega)⟩
 ·have hold : ∀ ad, Ac = some ad → 0 < cs.length → ad.block < w0.heap.size := C_lt (by decide) h6
  have h6 := Kd.C_below h6 h0b
  have hraw : CkRaw w cp (ckCells Ab cb l form cs.length (.slice Ad nd cd) (.slice At nt ct) 1 0 (.slice Ac cs.length cc)) := hh
  have hr2 := hraw.keep BO
  have HDO := Aside0.mk (fun fv => once_done ⟨cp, 5, none⟩ fv (w.alloc (.cells #[.pointer (some ⟨cp, 0, none⟩)] 117)) (cell_of_heap hr2 rfl) ⟨cp, 5, none⟩ (by simp [Addr.add]))
  have x8 : (w.alloc (.cells #[.pointer (some ⟨cp, 0, none⟩)] 117)).cell? ⟨cp, 8, none⟩ = some (.slice Ac cs.length cc) := cell_of_heap hr2 rfl
  have HF : Aside0 (AllS w0.heap.size w cp l form cs (.returned (.slice Ac cs.length cc)) (w.alloc (.cells #[.pointer (some ⟨cp, 0, none⟩)] 117))) := ⟨⟨Ac, cc, rfl, h5, Kd.C_below h6 BO, ⟨Ab, cb, Ad, nd, cd, At, nt, ct, hr2, h1, Kd.C_below h2 BO, h5, Kd.C_below h6 BO⟩, Keep1.of_below BO, fun ad he hn => .inl (hold ad he hn), fun q hq => .inl (hq.same (BO.block cp hlt))⟩⟩
  clear hh h1 h2 hcs hl hraw BO h5 h6 hr2 hold h0 h0b
  go_enter Tryz.func113, Tryz.ntmps113
  go_wp2_with fail
  (with_reducible refine (HDO.out _).mono ?_)
  rintro e w' ⟨rfl, rfl⟩
  go_wp2
  go_ret
  exact HF.out
end Go.Proofs.YtcmffaejcnbheaaGreat.Lib0
namespace Go.Proofs.YtcmffaejcnbheaaGreat.Lib0
open Go.RowKit Go.Proofs.YtcmffaejcnbheaaGreatW.PrintWords Go.ChangeMaps
theorem ChkAt.raw {w : World} {cp : Nat} {l : List UInt8} {form : Nat} {cs : List CellM} (h : ChkAt w cp l form cs) : w.cell? ⟨cp, 1, none⟩ = some (.int .i64 form) ∧ w.cell? ⟨cp, 2, none⟩ = some (.int .i64 cs.length) := by
 obtain ⟨Ab, cb, Ad, nd, cd, At, nt, ct, on, v8, hh, _⟩ := h
 exact ⟨cell_of_heap hh rfl, cell_of_heap hh rfl⟩
theorem ChkOn.off {w w' : World} {cp : Nat} {l : List UInt8} {form : Nat} {cs : List CellM} {A1 : Option Addr} {c1 : Nat} (h : ChkOn w cp l form cs A1 c1) {q : Nat} (hk : Keep1 q w w') (hc : cp ≠ q) (h8 : ∀ o x, w.cell? ⟨q, o, none⟩ ≠ some (.int .u8 x)) (hA : ∀ ad, A1 = some ad → 0 < cs.length → ad.block ≠ q) : ChkOn w' cp l form cs A1 c1 := by
 obtain ⟨Ab, cb, Ad, nd, cd, At, nt, ct, h1, h2, h3, h4, h5⟩ := h
 refine ⟨Ab, cb, Ad, nd, cd, At, nt, ct, (hk.block cp (Array.getElem?_eq_some_iff.1 h1).1 hc).trans h1, h2, C_keep1 sc_Kw h3 (fun ad e hn => ⟨?_, C_lt (by decide) h3 ad e hn⟩) hk, h4, C_keep1 kc_Kw h5 (fun ad e hn => ⟨hA ad e hn, C_lt (by decide) h5 ad e hn⟩) hk⟩
 subst e
 obtain ⟨b, o, e, hx⟩ := sc_open h3 hn
 cases e
 rintro rfl
 exact h8 _ _ (hx 0 hn)
def CellS (w : World) (cp : Nat) (l : List UInt8) (form : Nat) (cs : List CellM) (c : CellM) (e : Ending) (w' : World) : Prop :=
 e = .returned (.agg #[.string c.col, .int .i64 c.kind, .int .i64 c.n, .string c.s]) ∧ ChkAt w' cp l form cs ∧ Keep1 cp w w' ∧ ∀ q, SubAt w' cp q → SubAt w cp q ∨ w.heap.size ≤ q
set_option maxHeartbeats 1600000 in
set_option maxRecDepth 100000 in
theorem ck_Cell {w : World} {cp : Nat} {l : List UInt8} {form : Nat} {cs : List CellM} (h : ChkAt w cp l form cs) (hcs : cs = (readR l).cells) (hl : l.length ≤ 1073741824) (i : Nat) (hi : i < cs.length) :
  Calls Tryz.prog 79 #[.pointer (some ⟨cp, 0, none⟩), .int .i64 i] w (CellS w cp l form cs cs[i]) := by
 obtain ⟨y, hy⟩ : ∃ y, y = cs[i] := ⟨_, rfl⟩
 rw [← hy]
 have HY := Aside0.mk hy
 clear hy
 have hlt := h.lt
 have BO := below_alloc (Below.refl w.heap.size w) (.cells #[.string ⟨#[]⟩, .int .i64 0, .int .i64 0, .string ⟨#[]⟩] 78)
 have hnew := heap_alloc_new w (.cells #[.string ⟨#[]⟩, .int .i64 0, .int .i64 0, .string ⟨#[]⟩] 78)
 have hck := h.below BO
 have x2 := hck.raw.2
 have HAL := Aside0.mk (ck_all h BO hcs hl)
 have hne : w.heap.size ≠ cp := by omega
 have hii : (i : Int) < cs.length := by omega
 have hid : decide ((i : Int) < 0) = false := decide_eq_false (by omega)
 have HI := Aside0.mk hi
 have HN := Aside0.mk hnew
 have HB := Aside0.mk BO
 have hcl : (cs.length : Int) ≤ 65536 := by have := readR_len l; rw [← hcs] at this; omega
 clear h hcs hl BO hnew hck
 go_enter Tryz.func79, Tryz.ntmps79
 go_wp2_with fail
 (with_reducible refine HAL.out.mono ?_)
 rintro e w2 ⟨A1, c1, rfl, q1, q2, q3, q4, q5, q6⟩
 have hq5 : ∀ ad, A1 = some ad → 0 < cs.length → ad.block ≠ w.heap.size := fun ad e hn => by have := q5 ad e hn; simp at this; omega
 obtain ⟨b, o, rfl, hx⟩ := kc_open q2 (by omega)
 obtain ⟨z0, z1, z2, z3⟩ := hx i HI.out
 rw [← HY.out] at z0 z1 z2 z3
 have hv6 := (q4.block w.heap.size (by simp) hne).trans HN.out
 have c0 := cell_of_heap (i := 0) hv6 rfl
 have c1' := cell_of_heap (i := 1) hv6 rfl
 have c2 := cell_of_heap (i := 2) hv6 rfl
 have c3 := cell_of_heap (i := 3) hv6 rfl
 have e0 := frozen_of_heap (i := 0) hv6
 have e1 := frozen_of_heap (i := 1) hv6
 have e2 := frozen_of_heap (i := 2) hv6
 have e3 := frozen_of_heap (i := 3) hv6
 have s4 := set4 hv6 (.string y.col) (.int .i64 y.kind) (.int .i64 y.n) (.string y.s)
 have g0 := cell_of_heap (i := 0) s4 rfl
 have g1 := cell_of_heap (i := 1) s4 rfl
 have g2 := cell_of_heap (i := 2) s4 rfl
 have g3 := cell_of_heap (i := 3) s4 rfl
 have kr : Keep1 w.heap.size w2 ((((w2.setCell ⟨w.heap.size, 0, none⟩ (.string y.col)).setCell ⟨w.heap.size, 1, none⟩ (.int .i64 y.kind)).setCell ⟨w.heap.size, 2, none⟩ (.int .i64 y.n)).setCell ⟨w.heap.size, 3, none⟩ (.string y.s)) := ((((Keep1.refl _ w2).set 0 _).set 1 _).set 2 _).set 3 _
 have KF := Aside0.mk ((((( (Keep1.of_below (b := cp) HB.out).trans q4).far (p := ⟨w.heap.size, 0, none⟩) (Nat.le_refl _) (.string y.col)).far (p := ⟨w.heap.size, 1, none⟩) (Nat.le_refl _) (.int .i64 y.kind)).far (p := ⟨w.heap.size, 2, none⟩) (Nat.le_refl _) (.int .i64 y.n)).far (p := ⟨w.heap.size, 3, none⟩) (Nat.le_refl _) (.string y.s))
 have CF := Aside0.mk (q3.off kr hne.symm (fun o x => by
  unfold World.cell?
  simp only [hv6]
  rcases o with _ | _ | _ | _ | o <;> simp) hq5).at_
 have SF := Aside0.mk (show ∀ q, _ → SubAt w cp q ∨ w.heap.size ≤ q from fun q (hq : SubAt ((((w2.setCell ⟨w.heap.size, 0, none⟩ (.string y.col)).setCell ⟨w.heap.size, 1, none⟩ (.int .i64 y.kind)).setCell ⟨w.heap.size, 2, none⟩ (.int .i64 y.n)).setCell ⟨w.heap.size, 3, none⟩ (.string y.s)) cp q) => by
  have e := hq.same (w := w2) (by rw [Below.heap_setCell _ _ _ _ hne.symm, Below.heap_setCell _ _ _ _ hne.symm, Below.heap_setCell _ _ _ _ hne.symm, Below.heap_setCell _ _ _ _ hne.symm])
  rcases q6 q e with h | h
  ·exact Or.inl (h.same (HB.out.block cp hlt))
  ·exact Or.inr (Nat.le_trans (Nat.le_succ _) (by simpa using h)))
 have G := Aside0.mk (And.intro g0 (And.intro g1 (And.intro g2 g3)))
 clear hx q2 q3 q4 q5 q6 hq5 hv6 s4 g0 g1 g2 g3 kr
 go_wp2
 generalize (((w2.setCell ⟨w.heap.size, 0, none⟩ (.string y.col)).setCell ⟨w.heap.size, 1, none⟩ (.int .i64 y.kind)).setCell ⟨w.heap.size, 2, none⟩ (.int .i64 y.n)).setCell ⟨w.heap.size, 3, none⟩ (.string y.s) = Wf at *
 obtain ⟨g0, g1, g2, g3⟩ := G.out
 refine bodyPost_ret (v := .agg #[.string y.col, .int .i64 y.kind, .int .i64 y.n, .string y.s]) (by simp [results, Tryz.results79, go_sem, g0, g1, g2, g3]) rfl ?_
 exact ⟨rfl, CF.out, KF.out, SF.out⟩
set_option maxRecDepth 100000 in
theorem ck_Rows {w : World} {cp : Nat} {l : List UInt8} {form : Nat} {cs : List CellM} (h : ChkAt w cp l form cs) :
  Calls Tryz.prog 38 #[.pointer (some ⟨cp, 0, none⟩)] w fun e w' => e = .returned (.int .i64 cs.length) ∧ w = w' := by
 have x2 := h.raw.2
 clear h
 go_enter Tryz.func38, Tryz.ntmps38
 go_wp2
 go_ret
 exact ⟨rfl, rfl⟩
end Go.Proofs.YtcmffaejcnbheaaGreat.Lib0

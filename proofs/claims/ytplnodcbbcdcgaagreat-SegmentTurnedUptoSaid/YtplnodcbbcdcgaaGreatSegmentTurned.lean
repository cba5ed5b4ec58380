/- SegmentTurned is true where what it reads is of bulk at most 1048576: its row. No other condition. -/
import Derived.Test.YtplnodcbbcdcgaaGreatRows
import Derived.Lib.LaidTab
import Derived.Test.YtplnodcbbcdcgaaGreatS01
set_option linter.unusedVariables false
set_option linter.unusedSimpArgs false
namespace Go.Proofs.YtplnodcbbcdcgaaGreat.SegmentTurned
open Go.ChangeShapes Go.WideShapes Go.ChangeAt Go.RowKit
open Go.Proofs.YtplnodcbbcdcgaaGreat.Lib0
theorem one_bulk {H:Type} (d:DataW H):1≤Rows.uptoBulk d:=by
 cases d with
 | lit l=>cases l<;>simp[Rows.uptoBulk]
 | nil=>simp[Rows.uptoBulk]
 | ptr d=>simp[Rows.uptoBulk]
 | slice elems spare=>simp[Rows.uptoBulk]
 | agg parts=>simp[Rows.uptoBulk]
 | iface t d=>simp[Rows.uptoBulk]
 | map entries=>simp[Rows.uptoBulk]
 | held h=>simp[Rows.uptoBulk]
theorem len_bulk {H:Type}:∀ l:List (DataW H),l.length≤Rows.uptoBulkAll l
 | []=>Nat.zero_le _
 | x :: r=>by
  have h1:=one_bulk x
  have h2:=len_bulk r
  simp only[Rows.uptoBulkAll,List.length_cons]
  omega
theorem part_bulk {H:Type} {d:DataW H}:∀ {l:List (DataW H)},d ∈ l→Rows.uptoBulk d≤Rows.uptoBulkAll l
 | [],h=>by cases h
 | x :: r,h=>by
  simp only[Rows.uptoBulkAll]
  rcases List.mem_cons.1 h with rfl | h
  ·omega
  ·have:=part_bulk h;omega
theorem bytes_bulk {H:Type} {enc:TypeId × Value→H} {W:World} {d:DataW H} {ps:List MemPlace} {A:Option Addr} {n c:Nat} (h:DataW.Trod enc Tryz.prog W 0 (fun _=>true) true 23 (.slice A n c) d ps):n≤Rows.uptoBulk d:=by
 obtain ⟨fuel,hf⟩:=h
 rcases open_ints Tryz.underlying23 Tryz.underlying5 (by kernel_rfl) hf with ⟨hcs,hx⟩ | ⟨a,len',cap',zs,hcs,_,hl,hm,hz,hx,hcell,hws⟩
 ·simp[Value.cells] at hcs
  omega
 ·simp[Value.cells] at hcs
  obtain ⟨rfl,rfl,rfl⟩:=hcs
  simp only[if_true] at hz
  obtain ⟨rfl,_⟩:=Prod.mk.inj hx
  have h1:=len_bulk (lits (H:=H) IntKind.u8 (List.take n zs))
  have h2:(lits (H:=H) IntKind.u8 (List.take n zs)).length=n:=by simp[lits];omega
  simp only[Rows.uptoBulk]
  omega
theorem own:ownKnob Tryz.prog.godebug=none:=by kernel_rfl
set_option maxRecDepth 100000 in
theorem contract (H:Type) (enc:TypeId × Value→H) (W:World) (base:Nat) (args:Array Value) (ds gs:List (DataW H)) (before:List MemPlace)
  (hval:∀ (j:Nat) t v,Tryz.f3.params[j]?=some t→args[j]?=some v→Value.okWide Tryz.prog W .any base t v)
  (hW:DataW.Whole enc Tryz.prog Tryz.f3.params.toList Rows.segmentTurnedSpec.vars false W args.toList ds gs before)
  (hk:Rows.uptoSmall H (ds++gs)=true) :
  Calls Tryz.prog 3 args W fun e W'=>∃ v,e = .returned v∧Rows.segmentTurnedSpec.post enc Tryz.prog Tryz.f3 false true false false W args v W':=by
 have hW':=hW
 obtain ⟨p,q,hA0,hV,rfl,hfz,hnd⟩:=hW
 have hA:DataW.TrodAll enc Tryz.prog W 0 (fun _=>true) true Tryz.f3.params.toList args.toList ds p:=hA0
 rw[Tryz.params3] at hA hval
 obtain ⟨v0,vs0,d0,ds0,p0,q0,hargs,rfl,rfl,h0,r0⟩:=trodAll_cons hA
 obtain ⟨v1,vs1,d1,ds1,p1,q1,rfl,rfl,rfl,h1,r1⟩:=trodAll_cons r0
 obtain ⟨v2,vs2,d2,ds2,p2,q2,rfl,rfl,rfl,h2,r2⟩:=trodAll_cons r1
 obtain ⟨v3,vs3,d3,ds3,p3,q3,rfl,rfl,rfl,h3,r3⟩:=trodAll_cons r2
 obtain ⟨v4,vs4,d4,ds4,p4,q4,rfl,rfl,rfl,h4,r4⟩:=trodAll_cons r3
 obtain ⟨rfl,rfl,rfl⟩:=trodAll_nil r4
 obtain rfl:args=#[v0,v1,v2,v3,v4]:=by cases args;simp_all
 obtain ⟨rfl,rfl⟩:=trodVars_none hV
 obtain ⟨A0,c0,R0,L0,rfl,hr0,ho0,hm0,hn0⟩:=in_rows (hval 0 _ _ rfl rfl) h0
 obtain ⟨n1,rfl,rfl,rfl,hn1⟩:=open_int Tryz.underlying3 (hval 1 _ _ rfl rfl) h1
 have hb1:=bounds_i64 hn1
 obtain ⟨n2,rfl,rfl,rfl,hn2⟩:=open_int Tryz.underlying5 (hval 2 _ _ rfl rfl) h2
 have hb2:=bounds_u8 hn2
 have e2:((UInt8.ofNat n2.toNat).toNat:Int)=n2:=by rw[UInt8.toNat_ofNat'];omega
 obtain ⟨n3,rfl,rfl,rfl,hn3⟩:=open_int Tryz.underlying3 (hval 3 _ _ rfl rfl) h3
 have hb3:=bounds_i64 hn3
 obtain ⟨A4,c4,l4,rfl,hc4,hl4⟩:=in_bytes (hval 4 _ _ rfl rfl) h4
 have hbk:l4.length≤1048576:=by
  have k1:=bytes_bulk h4
  have k2:Rows.uptoBulkAll _≤1048576:=of_decide_eq_true hk
  exact Nat.le_trans (Nat.le_trans k1 (part_bulk (by simp))) k2
 have walk:=walk_SegmentTurned A0 A4 c0 c4 R0 L0 n1 (UInt8.ofNat n2.toNat) n3 l4 W hr0 ho0 hm0 hn0 hb1 hb3 hl4 hbk
 rw[e2] at walk
 refine walk.mono fun e W' ⟨he,hg⟩=>?_
 subst he
 exact ⟨_,rfl,post_true hW' hg (by rw[Tryz.params3];decide +kernel) rfl (by kernel_rfl) rfl rfl rfl⟩
noncomputable def laidWorld (os:Os):World:=World.holding Tryz.prog os ⟨#[],#[],[]⟩
def wit:Array Value:=#[.slice none 0 0,.int .i64 0,.int .u8 0,.int .i64 0,.slice none 0 0]
theorem laid_met (os:Os):laidMet Tryz.prog Rows.segmentTurnedRow.laid ((laidWorld os).forCall (fun _ _=>0) ⟨#[],wit,[]⟩).memory:=
 laidMet_of_run' 8 (by kernel_rfl) (by kernel_rfl)
theorem reads (os:Os) {H:Type} (enc:TypeId × Value→H):∃ places,DataW.whole enc Tryz.prog ((laidWorld os).forCall (fun _ _=>0) ⟨#[],wit,[]⟩).memory Tryz.f3.params.toList Rows.segmentTurnedSpec.vars false wit.toList 8=some ([.nil,.lit (.int .i64 0),.lit (.int .u8 0),.lit (.int .i64 0),.nil],[],places):=
 ⟨[],by kernel_rfl⟩
set_option maxRecDepth 100000 in
theorem lifted (os:Os) (started:os.Started) (H:Type) (enc:TypeId × Value→H) (F:Stop.Interp) :
  ReturnsInHanded {} Tryz.checked os 3 .any ((Rows.OpenSpec.upto Rows.segmentTurnedSpec).preRow enc Tryz.prog Tryz.f3 Rows.segmentTurnedUptoRow.domain false Rows.segmentTurnedUptoRow.laid) (((Rows.OpenSpec.upto Rows.segmentTurnedSpec).at F).post enc Tryz.prog Tryz.f3 false true false false):=by
 obtain ⟨places,hx⟩:=reads os enc
 refine returnsInHanded_of_row (C:=Tryz.checked) (s:=Rows.OpenSpec.upto Rows.segmentTurnedSpec) own started (by kernel_rfl) Tryz.func3
  (witness_row_at (enc:=enc) (C:=Tryz.checked) false (laidWorld os) wit rfl (by kernel_rfl) (by kernel_rfl) (by kernel_rfl)
   (OpenSpec.preRow_of_cond 8 hx (by kernel_rfl) (fun k hk=>by cases hk;kernel_rfl) (by kernel_rfl) (laid_met os))) ?_
 intro W base args ds gs before hval hW _ hcond _ hL _ _
 exact contract H enc W base args ds gs before hval hW (hcond _ rfl)
set_option maxRecDepth 100000 in
theorem said:Rows.SegmentTurnedUptoSaid:=
 OpenClaim.holds_of_cond 3 Tryz.f3 rfl rfl rfl rfl rfl rfl rfl ⟨rfl,rfl,rfl,rfl,rfl⟩ rfl rfl rfl rfl rfl (by kernel_rfl) Tryz.func3 (by kernel_rfl)
  (of_decide_eq_true (by kernel_rfl)) (by unfold Func.isWrapper;first | (rw[if_pos (by decide +kernel)];kernel_rfl) | (rw[if_neg (by decide +kernel)];exact ⟨rfl,rfl⟩))
  (fun os started H enc _ F=>by rw[OpenClaim.pre_eq_preRow];exact lifted os started H enc F)
end Go.Proofs.YtplnodcbbcdcgaaGreat.SegmentTurned

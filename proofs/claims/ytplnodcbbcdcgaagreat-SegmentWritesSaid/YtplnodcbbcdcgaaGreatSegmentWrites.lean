/- SegmentWrites is true for every argument: its row. No condition. -/
import Derived.Test.YtplnodcbbcdcgaaGreatRows
import Derived.Lib.LaidTab
import Derived.Test.YtplnodcbbcdcgaaGreatR07
import Derived.Test.YtplnodcbbcdcgaaGreatR08
set_option linter.unusedVariables false
set_option linter.unusedSimpArgs false
namespace Go.Proofs.YtplnodcbbcdcgaaGreat.SegmentWrites
open Go.ChangeShapes Go.WideShapes Go.ChangeAt Go.RowKit
open Go.Proofs.YtplnodcbbcdcgaaGreat.Lib0
theorem own:ownKnob Tryz.prog.godebug=none:=by kernel_rfl
set_option maxRecDepth 100000 in
theorem contract (H:Type) (enc:TypeId × Value→H) (W:World) (base:Nat) (args:Array Value) (ds gs:List (DataW H)) (before:List MemPlace)
  (hval:∀ (j:Nat) t v,Tryz.f6.params[j]?=some t→args[j]?=some v→Value.okWide Tryz.prog W .any base t v)
  (hW:DataW.Whole enc Tryz.prog Tryz.f6.params.toList Rows.segmentWritesSpec.vars false W args.toList ds gs before)
  (hsz:(DataW.weightsEach Tryz.prog (Tryz.f6.params.toList++(OpenSpec.ofChange Rows.segmentWritesSpec).bare.plain.varTypes Tryz.prog) (ds++gs)).all (·≤reachBytes)=true) :
  Calls Tryz.prog 6 args W fun e W'=>∃ v,e = .returned v∧Rows.segmentWritesSpec.post enc Tryz.prog Tryz.f6 false true false false W args v W':=by
 have hW':=hW
 obtain ⟨p,q,hA0,hV,rfl,hfz,hnd⟩:=hW
 have hA:DataW.TrodAll enc Tryz.prog W 0 (fun _=>true) true Tryz.f6.params.toList args.toList ds p:=hA0
 rw[Tryz.params6] at hA hval hsz
 obtain ⟨v0,vs0,d0,ds0,p0,q0,hargs,rfl,rfl,h0,r0⟩:=trodAll_cons hA
 obtain ⟨v1,vs1,d1,ds1,p1,q1,rfl,rfl,rfl,h1,r1⟩:=trodAll_cons r0
 obtain ⟨v2,vs2,d2,ds2,p2,q2,rfl,rfl,rfl,h2,r2⟩:=trodAll_cons r1
 obtain ⟨rfl,rfl,rfl⟩:=trodAll_nil r2
 obtain rfl:args=#[v0,v1,v2]:=by cases args;simp_all
 obtain ⟨rfl,rfl⟩:=trodVars_none hV
 obtain ⟨A0,c0,R0,L0,rfl,hr0,ho0,hm0,hn0⟩:=in_rows2 (hval 0 _ _ rfl rfl) h0 (fun b hb=>by
  have:=List.all_eq_true.1 hsz b (DataW.weights_mem_each (j:=0) rfl rfl b hb)
  simpa using this)
 obtain ⟨b1,rfl,rfl,rfl⟩:=open_bool Tryz.underlying4 (hval 1 _ _ rfl rfl) h1
 obtain ⟨n2,rfl,rfl,rfl,hn2⟩:=open_int Tryz.underlying3 (hval 2 _ _ rfl rfl) h2
 have hb2:=bounds_i64 hn2
 have walk:=walk_SegmentWrites A0 c0 R0 L0 b1 n2 W hr0 ho0 hm0 (fun c hc=>(hn0 c hc).1) (fun r hr c hc=>(hn0 r.cs (by rw[← rowsM_cs R0 L0 ho0.1];exact List.mem_map_of_mem hr)).2 c hc) hb2
 refine walk.mono fun e W' ⟨he,hg⟩=>?_
 subst he
 exact ⟨_,rfl,post_true hW' hg (by rw[Tryz.params6];decide +kernel) rfl (by kernel_rfl) rfl rfl rfl⟩
noncomputable def laidWorld (os:Os):World:=World.holding Tryz.prog os ⟨#[],#[],[]⟩
def wit:Array Value:=#[.slice none 0 0,.bool false,.int .i64 0]
theorem laid_met (os:Os):laidMet Tryz.prog Rows.segmentWritesRow.laid ((laidWorld os).forCall (fun _ _=>0) ⟨#[],wit,[]⟩).memory:=
 laidMet_of_run' 8 (by kernel_rfl) (by kernel_rfl)
theorem reads (os:Os) {H:Type} (enc:TypeId × Value→H):∃ places,DataW.whole enc Tryz.prog ((laidWorld os).forCall (fun _ _=>0) ⟨#[],wit,[]⟩).memory Tryz.f6.params.toList Rows.segmentWritesSpec.vars false wit.toList 8=some ([.nil,.lit (.bool false),.lit (.int .i64 0)],[],places):=
 ⟨[],by kernel_rfl⟩
set_option maxRecDepth 100000 in
theorem lifted (os:Os) (started:os.Started) (H:Type) (enc:TypeId × Value→H) (F:Stop.Interp) :
  ReturnsInHanded {} Tryz.checked os 6 .any ((OpenSpec.ofChange Rows.segmentWritesSpec).preRow enc Tryz.prog Tryz.f6 Rows.segmentWritesRow.domain false Rows.segmentWritesRow.laid) (((OpenSpec.ofChange Rows.segmentWritesSpec).at F).post enc Tryz.prog Tryz.f6 false true false false):=by
 obtain ⟨places,hx⟩:=reads os enc
 refine returnsInHanded_of_row (C:=Tryz.checked) (s:=OpenSpec.ofChange Rows.segmentWritesSpec) own started (by kernel_rfl) Tryz.func6
  (witness_row_at (enc:=enc) (C:=Tryz.checked) false (laidWorld os) wit rfl (by kernel_rfl) (by kernel_rfl) (by kernel_rfl)
   (OpenSpec.preRow_of_cond 8 hx (by kernel_rfl) (fun k hk=>by cases hk) (by kernel_rfl) (laid_met os))) ?_
 intro W base args ds gs before hval hW _ _ hsz hL _ _
 exact contract H enc W base args ds gs before hval hW hsz
set_option maxRecDepth 100000 in
theorem said:Rows.SegmentWritesSaid:=
 OpenClaim.holds_of_cond 6 Tryz.f6 rfl rfl rfl rfl rfl rfl rfl ⟨rfl,rfl,rfl,rfl,rfl⟩ rfl rfl rfl rfl rfl (by kernel_rfl) Tryz.func6 (by kernel_rfl)
  (of_decide_eq_true (by kernel_rfl)) (by unfold Func.isWrapper;first | (rw[if_pos (by decide +kernel)];kernel_rfl) | (rw[if_neg (by decide +kernel)];exact ⟨rfl,rfl⟩))
  (fun os started H enc _ F=>by rw[OpenClaim.pre_eq_preRow];exact lifted os started H enc F)
end Go.Proofs.YtplnodcbbcdcgaaGreat.SegmentWrites

import Derived.Test.YtplnodcbbcdcgaaGreatR02
import Derived.Test.YtplnodcbbcdcgaaGreatP44
set_option linter.unusedVariables false
set_option linter.unusedSimpArgs false
namespace Go.Proofs.YtplnodcbbcdcgaaGreat.Lib0
open Go.RowKit Go.Proofs.YtplnodcbbcdcgaaGreatW.PrintWords Go.ChangeMaps
structure RowsFit (M:List RowM):Prop where
 n:M.length≤1000
 i:∀ r ∈ M,∀ c ∈ r.cs,I64 c.n
 c:∀ r ∈ M,∀ c ∈ r.cs,c.col.size≤1099511627776
 l:∀ r ∈ M,r.cs.length≤1000
theorem cut20_size (s:ByteArray):(cut20 s).size≤20:=by
 unfold cut20
 split
 ·rw[ByteArray.size_extract];omega
 ·omega
theorem shortM_len (M:List RowM) (n:Nat):(shortM M n).length=min n M.length:=by simp[shortM]
theorem short_fit (M:List RowM) (n:Nat) (hn:n≤1000) (hi:∀ r ∈ M,∀ c ∈ r.cs,I64 c.n):RowsFit (shortM M n):=by
 have hm:∀ r ∈ shortM M n,∃ q ∈ M,r=⟨q.t,q.s,shortCs q.cs⟩:=fun r hr=>by
  unfold shortM at hr
  obtain ⟨q,hq,rfl⟩:=List.mem_map.1 hr
  exact ⟨q,List.mem_of_mem_take hq,rfl⟩
 have hc:∀ q:List CellM,∀ c ∈ shortCs q,∃ d ∈ q,c=shortC d:=fun q c hc=>by
  unfold shortCs at hc
  obtain ⟨d,hd,rfl⟩:=List.mem_map.1 hc
  exact ⟨d,List.mem_of_mem_take hd,rfl⟩
 refine ⟨by rw[shortM_len];omega,fun r hr c h=>?_,fun r hr c h=>?_,fun r hr=>?_⟩
 ·obtain ⟨q,hq,rfl⟩:=hm r hr
  obtain ⟨d,hd,rfl⟩:=hc q.cs c h
  exact hi q hq d hd
 ·obtain ⟨q,hq,rfl⟩:=hm r hr
  obtain ⟨d,hd,rfl⟩:=hc q.cs c h
  have:=cut20_size d.col
  show (cut20 d.col).size≤_
  omega
 ·obtain ⟨q,hq,rfl⟩:=hm r hr
  show (shortCs q.cs).length≤1000
  unfold shortCs
  rw[List.length_map,List.length_take]
  omega
end Go.Proofs.YtplnodcbbcdcgaaGreat.Lib0
namespace Go.Proofs.YtplnodcbbcdcgaaGreat.Lib0
open Go.RowKit Go.Proofs.YtplnodcbbcdcgaaGreatW.PrintWords Go.ChangeMaps
end Go.Proofs.YtplnodcbbcdcgaaGreat.Lib0
namespace Go.Proofs.YtplnodcbbcdcgaaGreat.Lib0
open Go.RowKit Go.Proofs.YtplnodcbbcdcgaaGreatW.PrintWords Go.ChangeMaps
set_option maxRecDepth 100000 in
theorem seg_Span {w:World} {sg:Nat} {M:List RowM} {PT:List Nat} (h:SegAt w sg M PT) :
  Calls Tryz.prog 16 #[.pointer (some ⟨sg,0,none⟩)] w fun e w'=>∃ lo hi,e = .returned (.tuple #[.int .i64 lo,.int .i64 hi])∧(M.map (·.t))[0]?=some lo∧(M.map (·.t))[M.length-1]?=some hi∧Below w.heap.size w w':=by
 have mixed:Tryz.prog.follows .mixedOrders=true:=by kernel_rfl
 have late:Tryz.prog.follows .lateStores=true:=by kernel_rfl
 obtain ⟨Ap,cp,Ac,cc,lo,hi,hh,_,_,h2,h3⟩:=h.ex
 have x2:w.cell? ⟨sg,2,none⟩=some (.int .i64 lo):=cell_of_heap (i:=2) hh rfl
 have x3:w.cell? ⟨sg,3,none⟩=some (.int .i64 hi):=cell_of_heap (i:=3) hh rfl
 have HH:=mk0 (And.intro h2 h3)
 clear h hh h2 h3
 go_enter Tryz.func16,Tryz.ntmps16
 go_wp2_with fail
 go_quiet (fail)
 have BQ:=mk0 (Drawn0.below (Drawn0.step (Drawn0.refl w) nq))
 generalize w.drewN nq=wf at *
 go_wp2
 refine bodyPost_ret (v:=.tuple #[.int .i64 lo,.int .i64 hi]) (by simp[results,Tryz.results16,go_sem]) rfl ?_
 exact ⟨lo,hi,rfl,HH.out.1,HH.out.2,BQ.out⟩
end Go.Proofs.YtplnodcbbcdcgaaGreat.Lib0
namespace Go.Proofs.YtplnodcbbcdcgaaGreat.Lib0
open Go.RowKit Go.Proofs.YtplnodcbbcdcgaaGreatW.PrintWords Go.ChangeMaps
set_option maxRecDepth 100000 in
theorem eqA_col (d:Nat) (w:World) (x0 y0:ByteArray) (x1 y1:Int) :
  (Op.equalIn (d+2) 91 (.agg #[.string x0,.int .i64 x1]) (.agg #[.string y0,.int .i64 y1])).run Tryz.prog w = .ok (x0.toList==y0.toList && (x1==y1)) w:=by
 refine eqA_of Tryz.underlying91 (by kernel_rfl) ?_
 refine eqf_cons (by rfl) (by go_simp;rfl) (by go_simp;rfl) (by go_simp) ?_
 exact eqf_last (by rfl) (by go_simp;rfl) (by go_simp;rfl) (by go_simp)
attribute [local go_sem high] eqA_col
set_option maxHeartbeats 1600000 in
set_option maxRecDepth 100000 in
theorem keep_Cols (A B:Option Addr) (ca cb:Nat) (l:List ColM) (w:World) (ha:kl.C w A l.length l) (hb:kl.C w B l.length l) (hl:l.length≤1099511627776) :
  Calls Tryz.prog 20 #[.slice A l.length ca,.slice B l.length cb] w fun e w'=>e = .returned (.bool true)∧Below w.heap.size w w':=by
 have HA:=mk0 ha
 have HB:=mk0 hb
 have hli:(l.length:Int)≤1099511627776:=by omega
 have HB0:=mk0 (Below.refl w.heap.size w)
 clear ha hb
 go_enter Tryz.func20,Tryz.ntmps20
 go_wp2_with fail
 go_loopw[5] (fun v5 wr=>∃ (k:Nat),k≤l.length∧v5 = .int .i64 k∧Aside0 (Below w.heap.size w wr)) (fun i _=>l.length-(intOf i).toNat)
 case atStart=>exact ⟨0,by omega,rfl,HB0⟩
 case round=>
  clear HB0
  obtain ⟨k,hk,rfl,HBW⟩:=hrel
  by_cases hlt:k<l.length
  ·have hlt2:(k:Int)<l.length:=by omega
   obtain ⟨b,o,rfl,hx⟩:=kl_open (Kd.C_below HA.out HBW.out) (by omega)
   obtain ⟨b',o',rfl,hy⟩:=kl_open (Kd.C_below HB.out HBW.out) (by omega)
   obtain ⟨x0,x1⟩:=hx k hlt
   obtain ⟨y0,y1⟩:=hy k hlt
   obtain ⟨x,hxx⟩:∃ x,x=l[k]:=⟨_,rfl⟩
   rw[← hxx] at x0 x1 y0 y1
   have hself:(x.name.toList==x.name.toList)=true:=by simp
   clear hx hy hxx
   go_wp2_with fail
   go_region_held3 (fun w'=>w'.cell? ⟨b,o+k*2,none⟩=some (.string x.name)∧w'.cell? ⟨b,o+k*2+1,none⟩=some (.int .i64 x.kind)∧w'.cell? ⟨b',o'+k*2,none⟩=some (.string x.name)∧w'.cell? ⟨b',o'+k*2+1,none⟩=some (.int .i64 x.kind)) (go_keep) (fail)
   have HB1:=mk0 (HBW.out.trans (below_drew _ _))
   clear x0 x1 y0 y1
   go_wp2
   go_roundw
   case rel=>exact ⟨k+1,by omega,by go_num,HB1⟩
   case measure=>simp[intOf];omega
  ·have hlt2:¬ (k:Int)<l.length:=by omega
   go_wp2
   go_ret
   exact ⟨rfl,HBW.out⟩
set_option maxRecDepth 100000 in
theorem seg_Cols {w:World} {sg:Nat} {M:List RowM} {PT:List Nat} (h:SegAt w sg M PT) :
  Calls Tryz.prog 21 #[.pointer (some ⟨sg,0,none⟩)] w fun e w'=>∃ A c,e = .returned (.slice A (growsR [] M).1.length c)∧kl.C w' A (growsR [] M).1.length (growsR [] M).1∧Below w.heap.size w w':=by
 obtain ⟨Ap,cp,Ac,cc,lo,hi,hh,_,hk,_⟩:=h.ex
 have x4:w.cell? ⟨sg,4,none⟩=some (.slice Ac (growsR [] M).1.length cc):=cell_of_heap (i:=4) hh rfl
 have HCL:=mk0 (clone_col Ac cc (growsR [] M).1 w hk (Nat.le_trans (growsR_len M) (by decide)))
 generalize (growsR [] M).1=cols at *
 clear h hh hk
 go_enter Tryz.func21,Tryz.ntmps21
 go_wp2_with fail
 (with_reducible refine HCL.out.mono ?_)
 rintro e w1 ⟨v,rfl,hr1,hb1⟩
 obtain ⟨A1,c1,rfl⟩:=Kd.R_slice hr1
 have HR1:=mk0 (C_of hr1)
 have HB1:=mk0 hb1
 clear hr1 hb1 HCL x4
 go_wp2
 go_ret
 exact ⟨A1,c1,rfl,HR1.out,HB1.out⟩
end Go.Proofs.YtplnodcbbcdcgaaGreat.Lib0

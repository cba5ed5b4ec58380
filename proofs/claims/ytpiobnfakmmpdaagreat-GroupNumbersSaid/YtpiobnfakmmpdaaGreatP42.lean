import Derived.BigRegion
import Derived.Test.YtpiobnfakmmpdaaGreatP31
import Derived.Test.YtpiobnfakmmpdaaGreatP25
set_option linter.unusedVariables false
set_option linter.unusedSimpArgs false
namespace Go.Proofs.YtpiobnfakmmpdaaGreat.Lib0
open Go.RowKit Go.Proofs.YtpiobnfakmmpdaaGreatW.PrintWords Go.ChangeMaps
def bK (k:Int):Int:=if 1≤k∧k≤10 then k else 0
def bCol (k:Int) (c:ByteArray):ByteArray:=if 4≤k∧k≤9 then c else ⟨#[]⟩
def bN (k n:Int):Int:=if k=4∨k=5∨k=10 then n else 0
def bM (k m:Int):Int:=if k=10 then m else 0
def bS (k:Int) (s:ByteArray):ByteArray:=if k=6∨k=8 then s else ⟨#[]⟩
def bNs (k:Int) (n:Nat):Nat:=if k=7 then n else 0
def bNk (k:Int) (n:Nat):Nat:=if k=1∨k=2∨k=3 then n else 0
def BareS (w:World) (h:PredH) (e:Ending) (w':World):Prop:=
 ∃ (A:Option Addr) (c:Nat) (B:Option Addr) (d:Nat),e = .returned (.agg #[.int .i64 (bK h.kind),.string (bCol h.kind h.col),.int .i64 (bN h.kind h.n),.int .i64 (bM h.kind h.m),.string (bS h.kind h.s),.slice A (bNs h.kind h.ns) c,.slice B (bNk h.kind h.nk) d])∧Below w.heap.size w w'
set_option maxHeartbeats 6400000 in
set_option maxRecDepth 100000 in
theorem pred_bare (h:PredH) (w:World):Calls Tryz.prog 202 #[h.val] w (BareS w h):=by
 obtain ⟨kind,col,n,m,s,As,ns,cs,Ak,nk,ck⟩:=h
 show Calls _ _ #[.agg #[.int .i64 kind,.string col,.int .i64 n,.int .i64 m,.string s,.slice As ns cs,.slice Ak nk ck]] w _
 have HB:=mk0 (fun (o:Obj)=>(below_alloc (Below.refl w.heap.size w) (.cells #[.int .i64 kind,.string col,.int .i64 n,.int .i64 m,.string s,.slice As ns cs,.slice Ak nk ck] 51)).trans ((below_alloc (Below.refl (w.alloc (.cells #[.int .i64 kind,.string col,.int .i64 n,.int .i64 m,.string s,.slice As ns cs,.slice Ak nk ck] 51)).heap.size (w.alloc (.cells #[.int .i64 kind,.string col,.int .i64 n,.int .i64 m,.string s,.slice As ns cs,.slice Ak nk ck] 51))) o).mono (by simp)))
 rcases (show kind=1∨kind=2∨kind=3∨kind=4∨kind=5∨kind=6∨kind=7∨kind=8∨kind=9∨kind=10∨(¬ kind=1∧¬ kind=2∧¬ kind=3∧¬ kind=4∧¬ kind=5∧¬ kind=6∧¬ kind=7∧¬ kind=8∧¬ kind=9∧¬ kind=10) by omega) with rfl | rfl | rfl | rfl | rfl | rfl | rfl | rfl | rfl | rfl | hk
 ·have hn:=heap_alloc_new (w.alloc (.cells #[.int .i64 1,.string col,.int .i64 n,.int .i64 m,.string s,.slice As ns cs,.slice Ak nk ck] 51)) (.cells #[.int .i64 1,.string ⟨#[]⟩,.int .i64 0,.int .i64 0,.string ⟨#[]⟩,.slice none 0 0,.slice Ak nk ck] 51)
  rw[show (w.alloc (.cells #[.int .i64 1,.string col,.int .i64 n,.int .i64 m,.string s,.slice As ns cs,.slice Ak nk ck] 51)).heap.size=w.heap.size+1 by simp] at hn
  have g0:=cell_of_heap (i:=0) hn rfl
  have g1:=cell_of_heap (i:=1) hn rfl
  have g2:=cell_of_heap (i:=2) hn rfl
  have g3:=cell_of_heap (i:=3) hn rfl
  have g4:=cell_of_heap (i:=4) hn rfl
  have g5:=cell_of_heap (i:=5) hn rfl
  have g6:=cell_of_heap (i:=6) hn rfl
  have G:=mk0 (And.intro g0 (And.intro g1 (And.intro g2 (And.intro g3 (And.intro g4 (And.intro g5 g6))))))
  clear hn g0 g1 g2 g3 g4 g5 g6
  go_enter Tryz.func202,Tryz.ntmps202
  go_wp2
  obtain ⟨g0,g1,g2,g3,g4,g5,g6⟩:=G.out
  refine bodyPost_ret (v:=.agg #[.int .i64 1,.string ⟨#[]⟩,.int .i64 0,.int .i64 0,.string ⟨#[]⟩,.slice none 0 0,.slice Ak nk ck]) (by simp[results,Tryz.results202,go_sem,g0,g1,g2,g3,g4,g5,g6]) rfl ?_
  exact ⟨_,_,_,_,rfl,HB.out _⟩
 ·have hn:=heap_alloc_new (w.alloc (.cells #[.int .i64 2,.string col,.int .i64 n,.int .i64 m,.string s,.slice As ns cs,.slice Ak nk ck] 51)) (.cells #[.int .i64 2,.string ⟨#[]⟩,.int .i64 0,.int .i64 0,.string ⟨#[]⟩,.slice none 0 0,.slice Ak nk ck] 51)
  rw[show (w.alloc (.cells #[.int .i64 2,.string col,.int .i64 n,.int .i64 m,.string s,.slice As ns cs,.slice Ak nk ck] 51)).heap.size=w.heap.size+1 by simp] at hn
  have g0:=cell_of_heap (i:=0) hn rfl
  have g1:=cell_of_heap (i:=1) hn rfl
  have g2:=cell_of_heap (i:=2) hn rfl
  have g3:=cell_of_heap (i:=3) hn rfl
  have g4:=cell_of_heap (i:=4) hn rfl
  have g5:=cell_of_heap (i:=5) hn rfl
  have g6:=cell_of_heap (i:=6) hn rfl
  have G:=mk0 (And.intro g0 (And.intro g1 (And.intro g2 (And.intro g3 (And.intro g4 (And.intro g5 g6))))))
  clear hn g0 g1 g2 g3 g4 g5 g6
  go_enter Tryz.func202,Tryz.ntmps202
  go_wp2
  obtain ⟨g0,g1,g2,g3,g4,g5,g6⟩:=G.out
  refine bodyPost_ret (v:=.agg #[.int .i64 2,.string ⟨#[]⟩,.int .i64 0,.int .i64 0,.string ⟨#[]⟩,.slice none 0 0,.slice Ak nk ck]) (by simp[results,Tryz.results202,go_sem,g0,g1,g2,g3,g4,g5,g6]) rfl ?_
  exact ⟨_,_,_,_,rfl,HB.out _⟩
 ·have hn:=heap_alloc_new (w.alloc (.cells #[.int .i64 3,.string col,.int .i64 n,.int .i64 m,.string s,.slice As ns cs,.slice Ak nk ck] 51)) (.cells #[.int .i64 3,.string ⟨#[]⟩,.int .i64 0,.int .i64 0,.string ⟨#[]⟩,.slice none 0 0,.slice Ak nk ck] 51)
  rw[show (w.alloc (.cells #[.int .i64 3,.string col,.int .i64 n,.int .i64 m,.string s,.slice As ns cs,.slice Ak nk ck] 51)).heap.size=w.heap.size+1 by simp] at hn
  have g0:=cell_of_heap (i:=0) hn rfl
  have g1:=cell_of_heap (i:=1) hn rfl
  have g2:=cell_of_heap (i:=2) hn rfl
  have g3:=cell_of_heap (i:=3) hn rfl
  have g4:=cell_of_heap (i:=4) hn rfl
  have g5:=cell_of_heap (i:=5) hn rfl
  have g6:=cell_of_heap (i:=6) hn rfl
  have G:=mk0 (And.intro g0 (And.intro g1 (And.intro g2 (And.intro g3 (And.intro g4 (And.intro g5 g6))))))
  clear hn g0 g1 g2 g3 g4 g5 g6
  go_enter Tryz.func202,Tryz.ntmps202
  go_wp2
  obtain ⟨g0,g1,g2,g3,g4,g5,g6⟩:=G.out
  refine bodyPost_ret (v:=.agg #[.int .i64 3,.string ⟨#[]⟩,.int .i64 0,.int .i64 0,.string ⟨#[]⟩,.slice none 0 0,.slice Ak nk ck]) (by simp[results,Tryz.results202,go_sem,g0,g1,g2,g3,g4,g5,g6]) rfl ?_
  exact ⟨_,_,_,_,rfl,HB.out _⟩
 ·have hn:=heap_alloc_new (w.alloc (.cells #[.int .i64 4,.string col,.int .i64 n,.int .i64 m,.string s,.slice As ns cs,.slice Ak nk ck] 51)) (.cells #[.int .i64 4,.string col,.int .i64 n,.int .i64 0,.string ⟨#[]⟩,.slice none 0 0,.slice none 0 0] 51)
  rw[show (w.alloc (.cells #[.int .i64 4,.string col,.int .i64 n,.int .i64 m,.string s,.slice As ns cs,.slice Ak nk ck] 51)).heap.size=w.heap.size+1 by simp] at hn
  have g0:=cell_of_heap (i:=0) hn rfl
  have g1:=cell_of_heap (i:=1) hn rfl
  have g2:=cell_of_heap (i:=2) hn rfl
  have g3:=cell_of_heap (i:=3) hn rfl
  have g4:=cell_of_heap (i:=4) hn rfl
  have g5:=cell_of_heap (i:=5) hn rfl
  have g6:=cell_of_heap (i:=6) hn rfl
  have G:=mk0 (And.intro g0 (And.intro g1 (And.intro g2 (And.intro g3 (And.intro g4 (And.intro g5 g6))))))
  clear hn g0 g1 g2 g3 g4 g5 g6
  go_enter Tryz.func202,Tryz.ntmps202
  go_wp2
  obtain ⟨g0,g1,g2,g3,g4,g5,g6⟩:=G.out
  refine bodyPost_ret (v:=.agg #[.int .i64 4,.string col,.int .i64 n,.int .i64 0,.string ⟨#[]⟩,.slice none 0 0,.slice none 0 0]) (by simp[results,Tryz.results202,go_sem,g0,g1,g2,g3,g4,g5,g6]) rfl ?_
  exact ⟨_,_,_,_,rfl,HB.out _⟩
 ·have hn:=heap_alloc_new (w.alloc (.cells #[.int .i64 5,.string col,.int .i64 n,.int .i64 m,.string s,.slice As ns cs,.slice Ak nk ck] 51)) (.cells #[.int .i64 5,.string col,.int .i64 n,.int .i64 0,.string ⟨#[]⟩,.slice none 0 0,.slice none 0 0] 51)
  rw[show (w.alloc (.cells #[.int .i64 5,.string col,.int .i64 n,.int .i64 m,.string s,.slice As ns cs,.slice Ak nk ck] 51)).heap.size=w.heap.size+1 by simp] at hn
  have g0:=cell_of_heap (i:=0) hn rfl
  have g1:=cell_of_heap (i:=1) hn rfl
  have g2:=cell_of_heap (i:=2) hn rfl
  have g3:=cell_of_heap (i:=3) hn rfl
  have g4:=cell_of_heap (i:=4) hn rfl
  have g5:=cell_of_heap (i:=5) hn rfl
  have g6:=cell_of_heap (i:=6) hn rfl
  have G:=mk0 (And.intro g0 (And.intro g1 (And.intro g2 (And.intro g3 (And.intro g4 (And.intro g5 g6))))))
  clear hn g0 g1 g2 g3 g4 g5 g6
  go_enter Tryz.func202,Tryz.ntmps202
  go_wp2
  obtain ⟨g0,g1,g2,g3,g4,g5,g6⟩:=G.out
  refine bodyPost_ret (v:=.agg #[.int .i64 5,.string col,.int .i64 n,.int .i64 0,.string ⟨#[]⟩,.slice none 0 0,.slice none 0 0]) (by simp[results,Tryz.results202,go_sem,g0,g1,g2,g3,g4,g5,g6]) rfl ?_
  exact ⟨_,_,_,_,rfl,HB.out _⟩
 ·have hn:=heap_alloc_new (w.alloc (.cells #[.int .i64 6,.string col,.int .i64 n,.int .i64 m,.string s,.slice As ns cs,.slice Ak nk ck] 51)) (.cells #[.int .i64 6,.string col,.int .i64 0,.int .i64 0,.string s,.slice none 0 0,.slice none 0 0] 51)
  rw[show (w.alloc (.cells #[.int .i64 6,.string col,.int .i64 n,.int .i64 m,.string s,.slice As ns cs,.slice Ak nk ck] 51)).heap.size=w.heap.size+1 by simp] at hn
  have g0:=cell_of_heap (i:=0) hn rfl
  have g1:=cell_of_heap (i:=1) hn rfl
  have g2:=cell_of_heap (i:=2) hn rfl
  have g3:=cell_of_heap (i:=3) hn rfl
  have g4:=cell_of_heap (i:=4) hn rfl
  have g5:=cell_of_heap (i:=5) hn rfl
  have g6:=cell_of_heap (i:=6) hn rfl
  have G:=mk0 (And.intro g0 (And.intro g1 (And.intro g2 (And.intro g3 (And.intro g4 (And.intro g5 g6))))))
  clear hn g0 g1 g2 g3 g4 g5 g6
  go_enter Tryz.func202,Tryz.ntmps202
  go_wp2
  obtain ⟨g0,g1,g2,g3,g4,g5,g6⟩:=G.out
  refine bodyPost_ret (v:=.agg #[.int .i64 6,.string col,.int .i64 0,.int .i64 0,.string s,.slice none 0 0,.slice none 0 0]) (by simp[results,Tryz.results202,go_sem,g0,g1,g2,g3,g4,g5,g6]) rfl ?_
  exact ⟨_,_,_,_,rfl,HB.out _⟩
 ·have hn:=heap_alloc_new (w.alloc (.cells #[.int .i64 7,.string col,.int .i64 n,.int .i64 m,.string s,.slice As ns cs,.slice Ak nk ck] 51)) (.cells #[.int .i64 7,.string col,.int .i64 0,.int .i64 0,.string ⟨#[]⟩,.slice As ns cs,.slice none 0 0] 51)
  rw[show (w.alloc (.cells #[.int .i64 7,.string col,.int .i64 n,.int .i64 m,.string s,.slice As ns cs,.slice Ak nk ck] 51)).heap.size=w.heap.size+1 by simp] at hn
  have g0:=cell_of_heap (i:=0) hn rfl
  have g1:=cell_of_heap (i:=1) hn rfl
  have g2:=cell_of_heap (i:=2) hn rfl
  have g3:=cell_of_heap (i:=3) hn rfl
  have g4:=cell_of_heap (i:=4) hn rfl
  have g5:=cell_of_heap (i:=5) hn rfl
  have g6:=cell_of_heap (i:=6) hn rfl
  have G:=mk0 (And.intro g0 (And.intro g1 (And.intro g2 (And.intro g3 (And.intro g4 (And.intro g5 g6))))))
  clear hn g0 g1 g2 g3 g4 g5 g6
  go_enter Tryz.func202,Tryz.ntmps202
  go_wp2
  obtain ⟨g0,g1,g2,g3,g4,g5,g6⟩:=G.out
  refine bodyPost_ret (v:=.agg #[.int .i64 7,.string col,.int .i64 0,.int .i64 0,.string ⟨#[]⟩,.slice As ns cs,.slice none 0 0]) (by simp[results,Tryz.results202,go_sem,g0,g1,g2,g3,g4,g5,g6]) rfl ?_
  exact ⟨_,_,_,_,rfl,HB.out _⟩
 ·have hn:=heap_alloc_new (w.alloc (.cells #[.int .i64 8,.string col,.int .i64 n,.int .i64 m,.string s,.slice As ns cs,.slice Ak nk ck] 51)) (.cells #[.int .i64 8,.string col,.int .i64 0,.int .i64 0,.string s,.slice none 0 0,.slice none 0 0] 51)
  rw[show (w.alloc (.cells #[.int .i64 8,.string col,.int .i64 n,.int .i64 m,.string s,.slice As ns cs,.slice Ak nk ck] 51)).heap.size=w.heap.size+1 by simp] at hn
  have g0:=cell_of_heap (i:=0) hn rfl
  have g1:=cell_of_heap (i:=1) hn rfl
  have g2:=cell_of_heap (i:=2) hn rfl
  have g3:=cell_of_heap (i:=3) hn rfl
  have g4:=cell_of_heap (i:=4) hn rfl
  have g5:=cell_of_heap (i:=5) hn rfl
  have g6:=cell_of_heap (i:=6) hn rfl
  have G:=mk0 (And.intro g0 (And.intro g1 (And.intro g2 (And.intro g3 (And.intro g4 (And.intro g5 g6))))))
  clear hn g0 g1 g2 g3 g4 g5 g6
  go_enter Tryz.func202,Tryz.ntmps202
  go_wp2
  obtain ⟨g0,g1,g2,g3,g4,g5,g6⟩:=G.out
  refine bodyPost_ret (v:=.agg #[.int .i64 8,.string col,.int .i64 0,.int .i64 0,.string s,.slice none 0 0,.slice none 0 0]) (by simp[results,Tryz.results202,go_sem,g0,g1,g2,g3,g4,g5,g6]) rfl ?_
  exact ⟨_,_,_,_,rfl,HB.out _⟩
 ·have hn:=heap_alloc_new (w.alloc (.cells #[.int .i64 9,.string col,.int .i64 n,.int .i64 m,.string s,.slice As ns cs,.slice Ak nk ck] 51)) (.cells #[.int .i64 9,.string col,.int .i64 0,.int .i64 0,.string ⟨#[]⟩,.slice none 0 0,.slice none 0 0] 51)
  rw[show (w.alloc (.cells #[.int .i64 9,.string col,.int .i64 n,.int .i64 m,.string s,.slice As ns cs,.slice Ak nk ck] 51)).heap.size=w.heap.size+1 by simp] at hn
  have g0:=cell_of_heap (i:=0) hn rfl
  have g1:=cell_of_heap (i:=1) hn rfl
  have g2:=cell_of_heap (i:=2) hn rfl
  have g3:=cell_of_heap (i:=3) hn rfl
  have g4:=cell_of_heap (i:=4) hn rfl
  have g5:=cell_of_heap (i:=5) hn rfl
  have g6:=cell_of_heap (i:=6) hn rfl
  have G:=mk0 (And.intro g0 (And.intro g1 (And.intro g2 (And.intro g3 (And.intro g4 (And.intro g5 g6))))))
  clear hn g0 g1 g2 g3 g4 g5 g6
  go_enter Tryz.func202,Tryz.ntmps202
  go_wp2
  obtain ⟨g0,g1,g2,g3,g4,g5,g6⟩:=G.out
  refine bodyPost_ret (v:=.agg #[.int .i64 9,.string col,.int .i64 0,.int .i64 0,.string ⟨#[]⟩,.slice none 0 0,.slice none 0 0]) (by simp[results,Tryz.results202,go_sem,g0,g1,g2,g3,g4,g5,g6]) rfl ?_
  exact ⟨_,_,_,_,rfl,HB.out _⟩
 ·have hn:=heap_alloc_new (w.alloc (.cells #[.int .i64 10,.string col,.int .i64 n,.int .i64 m,.string s,.slice As ns cs,.slice Ak nk ck] 51)) (.cells #[.int .i64 10,.string ⟨#[]⟩,.int .i64 n,.int .i64 m,.string ⟨#[]⟩,.slice none 0 0,.slice none 0 0] 51)
  rw[show (w.alloc (.cells #[.int .i64 10,.string col,.int .i64 n,.int .i64 m,.string s,.slice As ns cs,.slice Ak nk ck] 51)).heap.size=w.heap.size+1 by simp] at hn
  have g0:=cell_of_heap (i:=0) hn rfl
  have g1:=cell_of_heap (i:=1) hn rfl
  have g2:=cell_of_heap (i:=2) hn rfl
  have g3:=cell_of_heap (i:=3) hn rfl
  have g4:=cell_of_heap (i:=4) hn rfl
  have g5:=cell_of_heap (i:=5) hn rfl
  have g6:=cell_of_heap (i:=6) hn rfl
  have G:=mk0 (And.intro g0 (And.intro g1 (And.intro g2 (And.intro g3 (And.intro g4 (And.intro g5 g6))))))
  clear hn g0 g1 g2 g3 g4 g5 g6
  go_enter Tryz.func202,Tryz.ntmps202
  go_wp2
  obtain ⟨g0,g1,g2,g3,g4,g5,g6⟩:=G.out
  refine bodyPost_ret (v:=.agg #[.int .i64 10,.string ⟨#[]⟩,.int .i64 n,.int .i64 m,.string ⟨#[]⟩,.slice none 0 0,.slice none 0 0]) (by simp[results,Tryz.results202,go_sem,g0,g1,g2,g3,g4,g5,g6]) rfl ?_
  exact ⟨_,_,_,_,rfl,HB.out _⟩
 ·obtain ⟨k1,k2,k3,k4,k5,k6,k7,k8,k9,k10⟩:=hk
  have b1:(kind==1)=false:=by rw[beq_eq_false_iff_ne];exact k1
  have b2:(kind==2)=false:=by rw[beq_eq_false_iff_ne];exact k2
  have b3:(kind==3)=false:=by rw[beq_eq_false_iff_ne];exact k3
  have b4:(kind==4)=false:=by rw[beq_eq_false_iff_ne];exact k4
  have b5:(kind==5)=false:=by rw[beq_eq_false_iff_ne];exact k5
  have b6:(kind==6)=false:=by rw[beq_eq_false_iff_ne];exact k6
  have b7:(kind==7)=false:=by rw[beq_eq_false_iff_ne];exact k7
  have b8:(kind==8)=false:=by rw[beq_eq_false_iff_ne];exact k8
  have b9:(kind==9)=false:=by rw[beq_eq_false_iff_ne];exact k9
  have b10:(kind==10)=false:=by rw[beq_eq_false_iff_ne];exact k10
  have E:=mk0 (show bK kind=0∧bCol kind col=⟨#[]⟩∧bN kind n=0∧bM kind m=0∧bS kind s=⟨#[]⟩∧bNs kind ns=0∧bNk kind nk=0 by
   refine ⟨if_neg (by omega),if_neg (by omega),if_neg (by omega),if_neg (by omega),if_neg (by omega),if_neg (by omega),if_neg (by omega)⟩)
  have hn:=heap_alloc_new (w.alloc (.cells #[.int .i64 kind,.string col,.int .i64 n,.int .i64 m,.string s,.slice As ns cs,.slice Ak nk ck] 51)) (.cells #[.int .i64 0,.string ⟨#[]⟩,.int .i64 0,.int .i64 0,.string ⟨#[]⟩,.slice none 0 0,.slice none 0 0] 51)
  rw[show (w.alloc (.cells #[.int .i64 kind,.string col,.int .i64 n,.int .i64 m,.string s,.slice As ns cs,.slice Ak nk ck] 51)).heap.size=w.heap.size+1 by simp] at hn
  have g0:=cell_of_heap (i:=0) hn rfl
  have g1:=cell_of_heap (i:=1) hn rfl
  have g2:=cell_of_heap (i:=2) hn rfl
  have g3:=cell_of_heap (i:=3) hn rfl
  have g4:=cell_of_heap (i:=4) hn rfl
  have g5:=cell_of_heap (i:=5) hn rfl
  have g6:=cell_of_heap (i:=6) hn rfl
  have G:=mk0 (And.intro g0 (And.intro g1 (And.intro g2 (And.intro g3 (And.intro g4 (And.intro g5 g6))))))
  clear hn g0 g1 g2 g3 g4 g5 g6
  go_enter Tryz.func202,Tryz.ntmps202
  go_wp2
  obtain ⟨g0,g1,g2,g3,g4,g5,g6⟩:=G.out
  refine bodyPost_ret (v:=.agg #[.int .i64 0,.string ⟨#[]⟩,.int .i64 0,.int .i64 0,.string ⟨#[]⟩,.slice none 0 0,.slice none 0 0]) (by simp[results,Tryz.results202,go_sem,g0,g1,g2,g3,g4,g5,g6]) rfl ?_
  obtain ⟨e0,e1,e2,e3,e4,e5,e6⟩:=E.out
  exact ⟨none,0,none,0,by dsimp only;rw[e0,e1,e2,e3,e4,e5,e6],HB.out _⟩
end Go.Proofs.YtpiobnfakmmpdaaGreat.Lib0
namespace Go.Proofs.YtpiobnfakmmpdaaGreat.Lib0
open Go.RowKit Go.Proofs.YtpiobnfakmmpdaaGreatW.PrintWords Go.ChangeMaps
set_option maxHeartbeats 3200000 in
set_option maxRecDepth 100000 in
theorem idx_strT (A:Option Addr) (c:Nat) (l:List ByteArray) (p:ByteArray→Bool) (w:World) (h:Kd.string.C w A l.length l) (hl:l.length≤1099511627776)
  (hp:∀ W (x:ByteArray),x ∈ l→Below w.heap.size w W→Calls Tryz.prog 237 #[.string x] W fun e w'=>e = .returned (.bool (p x))∧Below W.heap.size W w') :
  Calls Tryz.prog 259 #[.slice A l.length c,.func (.func 237) #[] #[]] w fun e w'=>e = .returned (.int .i64 (idxP p l))∧Below w.heap.size w w':=by
 have HC:=mk0 h
 have HP:=mk0 hp
 have hli:(l.length:Int)≤1099511627776:=by omega
 obtain ⟨r,hr⟩:∃ r,r=idxP p l:=⟨_,rfl⟩
 rw[← hr]
 have HR:=mk0 hr
 clear hr h hp
 go_enter Tryz.func259,Tryz.ntmps259
 go_wp2_with fail
 go_loopw[8] (fun v8 wr=>∃ (k:Nat),k≤l.length∧v8 = .int .i64 k∧Aside0 (∀ i (h:i<l.length),i<k→p l[i]=false)∧Aside0 (Below w.heap.size w wr)) (fun i _=>l.length-(intOf i).toNat)
 case atStart=>exact ⟨0,by omega,rfl,⟨fun i h1 h2=>by omega⟩,⟨Below.refl _ _⟩⟩
 case round=>
  obtain ⟨k,hk,rfl,HA,HB⟩:=hrel
  by_cases hlt:k<l.length
  ·have hlti:(k:Int)<l.length:=by omega
   obtain ⟨b,o,rfl,hx⟩:=str_open (Kd.C_below HC.out HB.out) (by omega)
   obtain hx1:=hx k hlt
   have HX:=mk0 (HP.out wr l[k] (List.getElem_mem hlt) HB.out)
   have HT:=mk0 (show p l[k]=true→r=(k:Int) from fun ht=>by rw[HR.out];exact idxP_at p l k hlt HA.out ht)
   have HN:=mk0 (show p l[k]=false→∀ i (h:i<l.length),i<k+1→p l[i]=false from fun hf i h1 h2=>by
    by_cases hik:i=k
    ·subst hik;exact hf
    ·exact HA.out i h1 (by omega))
   clear hx
   generalize l[k]=x at *
   generalize p x=px at *
   go_wp2_with fail
   (with_reducible refine HX.out.mono ?_)
   rintro e w2 ⟨rfl,hb2⟩
   have HB2:=mk0 (HB.out.trans (hb2.mono HB.out.size))
   clear hb2 hx1
   cases px
   ·have HN2:=mk0 (HN.out rfl)
    go_wp2
    go_roundw
    case rel=>exact ⟨k+1,by omega,by go_num,HN2,HB2⟩
    case measure=>simp[intOf];omega
   ·have HT2:=mk0 (HT.out rfl)
    go_wp2
    go_ret
    exact ⟨by rw[HT2.out];rfl,HB2.out⟩
  ·have HT2:=mk0 (show r = -1 by rw[HR.out];exact idxP_no p l (fun i h=>HA.out i h (by omega)))
   have hlti:¬ (k:Int)<l.length:=by omega
   go_wp2
   go_ret
   exact ⟨by rw[HT2.out];rfl,HB.out⟩
set_option maxRecDepth 100000 in
theorem has_strT (A:Option Addr) (c:Nat) (l:List ByteArray) (p:ByteArray→Bool) (w:World) (h:Kd.string.C w A l.length l) (hl:l.length≤1099511627776)
  (hp:∀ W (x:ByteArray),x ∈ l→Below w.heap.size w W→Calls Tryz.prog 237 #[.string x] W fun e w'=>e = .returned (.bool (p x))∧Below W.heap.size W w') :
  Calls Tryz.prog 233 #[.slice A l.length c,.func (.func 237) #[] #[]] w fun e w'=>e = .returned (.bool (l.any p))∧Below w.heap.size w w':=by
 have HI:=mk0 (idx_strT A c l p w h hl hp)
 have HQ:=mk0 (idxP_ge p l)
 obtain ⟨q,hq⟩:∃ q,q=l.any p:=⟨_,rfl⟩
 rw[← hq] at HQ ⊢
 generalize idxP p l=r at *
 clear h hp hq
 cases q
 ·have hr:¬ (0:Int)≤r:=by have:=HQ.out;simp at this;omega
  go_enter Tryz.func233,Tryz.ntmps233
  go_wp2_with fail
  (with_reducible refine HI.out.mono ?_)
  rintro e w2 ⟨rfl,hb2⟩
  have HB2:=mk0 hb2
  clear hb2
  go_wp2
  go_ret
  exact ⟨by first | rfl | simp[hr],HB2.out⟩
 ·have hr:(0:Int)≤r:=by have:=HQ.out;simp at this;omega
  go_enter Tryz.func233,Tryz.ntmps233
  go_wp2_with fail
  (with_reducible refine HI.out.mono ?_)
  rintro e w2 ⟨rfl,hb2⟩
  have HB2:=mk0 hb2
  clear hb2
  go_wp2
  go_ret
  exact ⟨by first | rfl | simp[hr],HB2.out⟩
end Go.Proofs.YtpiobnfakmmpdaaGreat.Lib0

import Derived.Test.YtpiobnfakmmpdaaGreatP14
import Derived.Test.YtpiobnfakmmpdaaGreatP15
set_option linter.unusedVariables false
set_option linter.unusedSimpArgs false
namespace Go.Proofs.YtpiobnfakmmpdaaGreat.Lib0
open Go.RowKit Go.Proofs.YtpiobnfakmmpdaaGreatW.PrintWords Go.ChangeMaps
theorem cell_block_facts (w:World) (O O':Obj):((w.alloc O).alloc O').heap[w.heap.size]?=some O∧((w.alloc O).alloc O').heap[w.heap.size+1]?=some O'∧((w.alloc O).alloc O').heap.size=w.heap.size+2:=by
 have h1:=heap_alloc_new w O
 have h2:=heap_alloc_new (w.alloc O) O'
 have h3:(w.alloc O).heap.size=w.heap.size+1:=by simp
 rw[h3] at h2
 refine ⟨?_,h2,by simp⟩
 have:=(below_alloc (Below.refl (w.alloc O).heap.size (w.alloc O)) O').block w.heap.size (by omega)
 rw[this,h1]
theorem Keep1.far {b:Nat} {w W:World} (h:Keep1 b w W) {p:Addr} (ha:w.heap.size≤p.block) (u:Value):Keep1 b w (W.setCell p u):=
 ⟨h.os,h.tape,h.output,by simpa [World.setCell] using h.size,fun k hk hn=>(Below.heap_setCell _ _ _ _ (by omega)).trans (h.block k hk hn)⟩
theorem set4 {W:World} {rb:Nat} {T:TypeId} {a b c d:Value} (h:W.heap[rb]?=some (.cells #[a,b,c,d] T (0,0))) (a' b' c' d':Value) :
  ((((W.setCell ⟨rb,0,none⟩ a').setCell ⟨rb,1,none⟩ b').setCell ⟨rb,2,none⟩ c').setCell ⟨rb,3,none⟩ d').heap[rb]?=some (.cells #[a',b',c',d'] T (0,0)):=by
 rw[heap_at_setCell (heap_at_setCell (heap_at_setCell (heap_at_setCell h)))]
 rfl
theorem CrAt.far {w:World} {rp:Nat} {A:Option Addr} {c:Nat} {l:List UInt8} {p why:Int} (h:CrAt w rp A c l p why) {q:Addr} (hq:rp≠q.block) (u:Value):CrAt (w.setCell q u) rp A c l p why:=(Below.heap_setCell _ _ _ _ hq).trans h
def noCell:CellM:=⟨ByteArray.empty,0,0,ByteArray.empty⟩
def valueR (l:List UInt8) (p form:Int):CellM × Int × Int:=
 if form=1 then (⟨ByteArray.empty,1,zag (getA l p).1,ByteArray.empty⟩,endA p (getA l p),(getA l p).2.2)
 else (⟨ByteArray.empty,2,0,str (getT l p 40).1⟩,(getT l p 40).2.1,(getT l p 40).2.2)
def ValueS (w:World) (rp:Nat) (A:Option Addr) (c:Nat) (l:List UInt8) (r:CellM × Int × Int) (e:Ending) (w':World):Prop:=
 e = .returned (.agg #[.string r.1.col,.int .i64 r.1.kind,.int .i64 r.1.n,.string r.1.s])∧CrAt w' rp A c l r.2.1 r.2.2∧Keep1 rp w w'
set_option maxHeartbeats 1600000 in
set_option maxRecDepth 100000 in
theorem cr_value {base:Nat} {w:World} {rp:Nat} {A:Option Addr} {c:Nat} {l:List UInt8} {p:Int} (h:CrAt w rp A c l p 0) (hC:∀ W,Below base w W→u8.C W A l.length l) (hbase:base≤w.heap.size) (hc:l.length≤c) (hl:l.length≤1099511627776) (form:Int) :
  Calls Tryz.prog 199 #[.pointer (some ⟨rp,0,none⟩),.int .i64 form] w (ValueS w rp A c l (valueR l p form)):=by
 obtain ⟨O,hO⟩:∃ O,O=Obj.cells #[.string ⟨#[]⟩,.int .i64 0,.int .i64 0,.string ⟨#[]⟩] 37:=⟨_,rfl⟩
 have BO:=(below_alloc (below_alloc (Below.refl w.heap.size w) O) O)
 have HS:Aside0 (valueR l p form=if form=1 then (⟨ByteArray.empty,1,zag (getA l p).1,ByteArray.empty⟩,endA p (getA l p),(getA l p).2.2) else (⟨ByteArray.empty,2,0,str (getT l p 40).1⟩,(getT l p 40).2.1,(getT l p 40).2.2)):=⟨rfl⟩
 have H:=mk0 (h.below BO)
 have H0:=mk0 h
 have x0:=H.out.c0
 have x1:=H.out.c1
 have x2:=H.out.c2
 have f1:=H.out.fr 1
 have f2:=H.out.fr 2
 have hlt:=h.lt
 subst hO
 by_cases hf:form=1
 ·subst hf
  have HG:=mk0 (fun W hb=>v_GetZag A c l p W (hC W hb) hc hl)
  generalize valueR l p 1=r at *
  generalize endA p (getA l p)=pe at *
  generalize getA l p=g at *
  obtain ⟨gv,gn,gw⟩:=g
  simp only at HG HS
  generalize zag gv=z at *
  have HS2:=mk0 (show r=(⟨ByteArray.empty,1,z,ByteArray.empty⟩,pe,gw) by rw[HS.out];simp)
  have hrb:=cell_block_facts w (.cells #[.string ⟨#[]⟩,.int .i64 0,.int .i64 0,.string ⟨#[]⟩] 37) (.cells #[.string ⟨#[]⟩,.int .i64 0,.int .i64 0,.string ⟨#[]⟩] 37)
  have HRB:=mk0 hrb
  have HB2:=mk0 BO
  clear HS h hC hrb BO
  go_enter Tryz.func199,Tryz.ntmps199
  go_wp2_with fail
  have BB:=below_alloc (below_alloc (Below.refl w.heap.size w) (.cells #[.string ⟨#[]⟩,.int .i64 0,.int .i64 0,.string ⟨#[]⟩] 37)) (.cells #[.string ⟨#[]⟩,.int .i64 1,.int .i64 0,.string ⟨#[]⟩] 37)
  obtain ⟨h1,h2,h3⟩:=cell_block_facts w (.cells #[.string ⟨#[]⟩,.int .i64 0,.int .i64 0,.string ⟨#[]⟩] 37) (.cells #[.string ⟨#[]⟩,.int .i64 1,.int .i64 0,.string ⟨#[]⟩] 37)
  obtain ⟨cb,hcb⟩:∃ cb,cb=w.heap.size+1:=⟨_,rfl⟩
  obtain ⟨rb,hrb⟩:∃ rb,rb=w.heap.size:=⟨_,rfl⟩
  clear x0 x1 x2 f1 f2 H HRB HB2
  generalize (w.alloc (.cells #[.string ⟨#[]⟩,.int .i64 0,.int .i64 0,.string ⟨#[]⟩] 37)).alloc (.cells #[.string ⟨#[]⟩,.int .i64 1,.int .i64 0,.string ⟨#[]⟩] 37)=wB at *
  have HW0:=H0.out.below BB
  have H2:=mk0 HW0
  have BB2:=mk0 BB
  have hn1:cb≠rp:=by omega
  have hn2:rb≠rp:=by omega
  have hn3:rb≠cb:=by omega
  have HSZ:=mk0 (And.intro h3 (And.intro hcb hrb))
  rw[← hcb] at h2
  rw[← hrb] at h1
  rw[← hcb,← hrb]
  have K1:=mk0 h1
  have K2:=mk0 h2
  have y0:wB.cell? ⟨cb,2,none⟩=some (.int .i64 0):=cell_of_heap h2 rfl
  have y1:wB.frozen? ⟨cb,2,none⟩=false:=frozen_of_heap h2
  have x0:=HW0.c0
  have x1:=HW0.c1
  have x2:=HW0.c2
  have f1:=HW0.fr 1
  have f2:=HW0.fr 2
  clear h1 h2 h3 hcb hrb BB HW0
  go_region_with ((go_at_call 109;refine (HG.out _ (by exact (BB2.out.mono hbase).trans (below_drew _ _))).mono ?_;rintro e w' ⟨rfl,rfl⟩))
  all_goals
   obtain ⟨W,hW⟩:∃ W,W=(((wB.setCell ⟨cb,2,none⟩ (.int .i64 z)).setCell ⟨rp,1,none⟩ (.int .i64 pe)).setCell ⟨rp,2,none⟩ (.int .i64 gw)).drew:=⟨_,rfl⟩
   have L1:W.heap[rb]?=some (.cells #[.string ⟨#[]⟩,.int .i64 0,.int .i64 0,.string ⟨#[]⟩] 37 (0,0)):=by
    rw[hW]
    exact (Below.heap_setCell _ _ _ _ hn2).trans ((Below.heap_setCell _ _ _ _ hn2).trans ((Below.heap_setCell _ _ _ _ hn3).trans K1.out))
   have L2:W.heap[cb]?=some (.cells #[.string ⟨#[]⟩,.int .i64 1,.int .i64 z,.string ⟨#[]⟩] 37 (0,0)):=by
    rw[hW]
    exact (Below.heap_setCell _ _ _ _ hn1).trans ((Below.heap_setCell _ _ _ _ hn1).trans (heap_at_setCell K2.out))
   have L3:CrAt W rp A c l pe gw:=by
    rw[hW]
    exact CrAt.set2 (CrAt.set1 (show CrAt (wB.setCell ⟨cb,2,none⟩ (.int .i64 z)) rp A c l p 0 from (Below.heap_setCell _ _ _ _ hn1.symm).trans H2.out) pe) gw
   have L4:Keep1 rp w W:=by
    rw[hW]
    have k1:Below w.heap.size w (wB.setCell ⟨cb,2,none⟩ (.int .i64 z)):=BB2.out.setCell (by show w.heap.size≤cb;have:=HSZ.out;omega) _
    exact (((Keep1.of_below (b:=rp) k1).set 1 _).set 2 _).drew'
   rw[← hW]
   have M1:=mk0 L1
   have M3:=mk0 L3
   have M4:=mk0 L4
   have c0:=cell_of_heap (i:=0) L2 rfl
   have c1:=cell_of_heap (i:=1) L2 rfl
   have c2:=cell_of_heap (i:=2) L2 rfl
   have c3:=cell_of_heap (i:=3) L2 rfl
   have d0:=cell_of_heap (i:=0) L1 rfl
   have d1:=cell_of_heap (i:=1) L1 rfl
   have d2:=cell_of_heap (i:=2) L1 rfl
   have d3:=cell_of_heap (i:=3) L1 rfl
   have e0:=frozen_of_heap (i:=0) L1
   have e1:=frozen_of_heap (i:=1) L1
   have e2:=frozen_of_heap (i:=2) L1
   have e3:=frozen_of_heap (i:=3) L1
   have N1:=set4 L1 (.string ⟨#[]⟩) (.int .i64 1) (.int .i64 z) (.string ⟨#[]⟩)
   have N2:=mk0 ((((L3.far (q:=⟨rb,0,none⟩) hn2.symm (.string ⟨#[]⟩)).far (q:=⟨rb,1,none⟩) hn2.symm (.int .i64 1)).far (q:=⟨rb,2,none⟩) hn2.symm (.int .i64 z)).far (q:=⟨rb,3,none⟩) hn2.symm (.string ⟨#[]⟩))
   have hrw:w.heap.size≤rb:=by have:=HSZ.out;omega
   have N3:=mk0 ((((L4.far (p:=⟨rb,0,none⟩) hrw (.string ⟨#[]⟩)).far (p:=⟨rb,1,none⟩) hrw (.int .i64 1)).far (p:=⟨rb,2,none⟩) hrw (.int .i64 z)).far (p:=⟨rb,3,none⟩) hrw (.string ⟨#[]⟩))
   have g0:=cell_of_heap (i:=0) N1 rfl
   have g1:=cell_of_heap (i:=1) N1 rfl
   have g2:=cell_of_heap (i:=2) N1 rfl
   have g3:=cell_of_heap (i:=3) N1 rfl
   have G:=mk0 (And.intro g0 (And.intro g1 (And.intro g2 g3)))
   clear hW L1 L2 L3 L4 x0 x1 x2 f1 f2 y0 y1 N1 g0 g1 g2 g3 hrw
   go_wp2
   generalize (((W.setCell ⟨rb,0,none⟩ (.string ⟨#[]⟩)).setCell ⟨rb,1,none⟩ (.int .i64 1)).setCell ⟨rb,2,none⟩ (.int .i64 z)).setCell ⟨rb,3,none⟩ (.string ⟨#[]⟩)=Wf at *
   obtain ⟨g0,g1,g2,g3⟩:=G.out
   refine bodyPost_ret (v:=.agg #[.string ⟨#[]⟩,.int .i64 1,.int .i64 z,.string ⟨#[]⟩]) (by simp[results,Tryz.results199,go_sem,g0,g1,g2,g3]) rfl ?_
   rw[HS2.out]
   exact ⟨rfl,N2.out,N3.out⟩
 ·have hfb:(form==1)=false:=by rw[beq_eq_false_iff_ne];exact hf
  have HG:Aside0 (∀ W,Below base w W→Calls Tryz.prog 111 #[.slice A l.length c,.int .i64 p,.int .i64 40] W fun e w'=>e = .returned (.tuple #[.string (str (getT l p 40).1),.int .i64 (getT l p 40).2.1,.int .i64 (getT l p 40).2.2])∧W=w'):=⟨fun W hb=>v_GetText A c l p 40 W (hC W hb) hc hl (by omega)⟩
  generalize valueR l p form=r at *
  generalize getT l p 40=g at *
  obtain ⟨gt,pe,gw⟩:=g
  simp only at HG HS
  generalize str gt=ts at *
  have HS2:=mk0 (show r=(⟨ByteArray.empty,2,0,ts⟩,pe,gw) by rw[HS.out];simp[hf])
  have hrb:=cell_block_facts w (.cells #[.string ⟨#[]⟩,.int .i64 0,.int .i64 0,.string ⟨#[]⟩] 37) (.cells #[.string ⟨#[]⟩,.int .i64 0,.int .i64 0,.string ⟨#[]⟩] 37)
  have HRB:=mk0 hrb
  have HB2:=mk0 BO
  clear HS h hC hrb BO
  go_enter Tryz.func199,Tryz.ntmps199
  go_wp2_with fail
  have BB:=below_alloc (below_alloc (Below.refl w.heap.size w) (.cells #[.string ⟨#[]⟩,.int .i64 0,.int .i64 0,.string ⟨#[]⟩] 37)) (.cells #[.string ⟨#[]⟩,.int .i64 2,.int .i64 0,.string ⟨#[]⟩] 37)
  obtain ⟨h1,h2,h3⟩:=cell_block_facts w (.cells #[.string ⟨#[]⟩,.int .i64 0,.int .i64 0,.string ⟨#[]⟩] 37) (.cells #[.string ⟨#[]⟩,.int .i64 2,.int .i64 0,.string ⟨#[]⟩] 37)
  obtain ⟨cb,hcb⟩:∃ cb,cb=w.heap.size+1:=⟨_,rfl⟩
  obtain ⟨rb,hrb⟩:∃ rb,rb=w.heap.size:=⟨_,rfl⟩
  clear x0 x1 x2 f1 f2 H HRB HB2
  generalize (w.alloc (.cells #[.string ⟨#[]⟩,.int .i64 0,.int .i64 0,.string ⟨#[]⟩] 37)).alloc (.cells #[.string ⟨#[]⟩,.int .i64 2,.int .i64 0,.string ⟨#[]⟩] 37)=wB at *
  have HW0:=H0.out.below BB
  have H2:=mk0 HW0
  have BB2:=mk0 BB
  have hn1:cb≠rp:=by omega
  have hn2:rb≠rp:=by omega
  have hn3:rb≠cb:=by omega
  have HSZ:=mk0 (And.intro h3 (And.intro hcb hrb))
  rw[← hcb] at h2
  rw[← hrb] at h1
  rw[← hcb,← hrb]
  have K1:=mk0 h1
  have K2:=mk0 h2
  have y0:wB.cell? ⟨cb,3,none⟩=some (.string ⟨#[]⟩):=cell_of_heap h2 rfl
  have y1:wB.frozen? ⟨cb,3,none⟩=false:=frozen_of_heap h2
  have x0:=HW0.c0
  have x1:=HW0.c1
  have x2:=HW0.c2
  have f1:=HW0.fr 1
  have f2:=HW0.fr 2
  clear h1 h2 h3 hcb hrb BB HW0
  go_region_with ((go_at_call 111;refine (HG.out _ (by exact (BB2.out.mono hbase).trans (below_drew _ _))).mono ?_;rintro e w' ⟨rfl,rfl⟩))
  all_goals
   obtain ⟨W,hW⟩:∃ W,W=(((wB.setCell ⟨cb,3,none⟩ (.string ts)).setCell ⟨rp,1,none⟩ (.int .i64 pe)).setCell ⟨rp,2,none⟩ (.int .i64 gw)).drew:=⟨_,rfl⟩
   have L1:W.heap[rb]?=some (.cells #[.string ⟨#[]⟩,.int .i64 0,.int .i64 0,.string ⟨#[]⟩] 37 (0,0)):=by
    rw[hW]
    exact (Below.heap_setCell _ _ _ _ hn2).trans ((Below.heap_setCell _ _ _ _ hn2).trans ((Below.heap_setCell _ _ _ _ hn3).trans K1.out))
   have L2:W.heap[cb]?=some (.cells #[.string ⟨#[]⟩,.int .i64 2,.int .i64 0,.string ts] 37 (0,0)):=by
    rw[hW]
    exact (Below.heap_setCell _ _ _ _ hn1).trans ((Below.heap_setCell _ _ _ _ hn1).trans (heap_at_setCell K2.out))
   have L3:CrAt W rp A c l pe gw:=by
    rw[hW]
    exact CrAt.set2 (CrAt.set1 (show CrAt (wB.setCell ⟨cb,3,none⟩ (.string ts)) rp A c l p 0 from (Below.heap_setCell _ _ _ _ hn1.symm).trans H2.out) pe) gw
   have L4:Keep1 rp w W:=by
    rw[hW]
    have k1:Below w.heap.size w (wB.setCell ⟨cb,3,none⟩ (.string ts)):=BB2.out.setCell (by show w.heap.size≤cb;have:=HSZ.out;omega) _
    exact (((Keep1.of_below (b:=rp) k1).set 1 _).set 2 _).drew'
   rw[← hW]
   have M1:=mk0 L1
   have M3:=mk0 L3
   have M4:=mk0 L4
   have c0:=cell_of_heap (i:=0) L2 rfl
   have c1:=cell_of_heap (i:=1) L2 rfl
   have c2:=cell_of_heap (i:=2) L2 rfl
   have c3:=cell_of_heap (i:=3) L2 rfl
   have d0:=cell_of_heap (i:=0) L1 rfl
   have d1:=cell_of_heap (i:=1) L1 rfl
   have d2:=cell_of_heap (i:=2) L1 rfl
   have d3:=cell_of_heap (i:=3) L1 rfl
   have e0:=frozen_of_heap (i:=0) L1
   have e1:=frozen_of_heap (i:=1) L1
   have e2:=frozen_of_heap (i:=2) L1
   have e3:=frozen_of_heap (i:=3) L1
   have N1:=set4 L1 (.string ⟨#[]⟩) (.int .i64 2) (.int .i64 0) (.string ts)
   have N2:=mk0 ((((L3.far (q:=⟨rb,0,none⟩) hn2.symm (.string ⟨#[]⟩)).far (q:=⟨rb,1,none⟩) hn2.symm (.int .i64 2)).far (q:=⟨rb,2,none⟩) hn2.symm (.int .i64 0)).far (q:=⟨rb,3,none⟩) hn2.symm (.string ts))
   have hrw:w.heap.size≤rb:=by have:=HSZ.out;omega
   have N3:=mk0 ((((L4.far (p:=⟨rb,0,none⟩) hrw (.string ⟨#[]⟩)).far (p:=⟨rb,1,none⟩) hrw (.int .i64 2)).far (p:=⟨rb,2,none⟩) hrw (.int .i64 0)).far (p:=⟨rb,3,none⟩) hrw (.string ts))
   have g0:=cell_of_heap (i:=0) N1 rfl
   have g1:=cell_of_heap (i:=1) N1 rfl
   have g2:=cell_of_heap (i:=2) N1 rfl
   have g3:=cell_of_heap (i:=3) N1 rfl
   have G:=mk0 (And.intro g0 (And.intro g1 (And.intro g2 g3)))
   clear hW L1 L2 L3 L4 x0 x1 x2 f1 f2 y0 y1 N1 g0 g1 g2 g3 hrw
   go_wp2
   generalize (((W.setCell ⟨rb,0,none⟩ (.string ⟨#[]⟩)).setCell ⟨rb,1,none⟩ (.int .i64 2)).setCell ⟨rb,2,none⟩ (.int .i64 0)).setCell ⟨rb,3,none⟩ (.string ts)=Wf at *
   obtain ⟨g0,g1,g2,g3⟩:=G.out
   refine bodyPost_ret (v:=.agg #[.string ⟨#[]⟩,.int .i64 2,.int .i64 0,.string ts]) (by simp[results,Tryz.results199,go_sem,g0,g1,g2,g3]) rfl ?_
   rw[HS2.out]
   exact ⟨rfl,N2.out,N3.out⟩
end Go.Proofs.YtpiobnfakmmpdaaGreat.Lib0
namespace Go.Proofs.YtpiobnfakmmpdaaGreat.Lib0
open Go.RowKit Go.Proofs.YtpiobnfakmmpdaaGreatW.PrintWords Go.ChangeMaps
theorem endA_ok {l:List UInt8} {a:Int} (h:(getA l a).2.2=0):0≤endA a (getA l a)∧endA a (getA l a)≤l.length:=by
 have:=(getA_lt l a).2 h
 unfold endA
 rw[if_pos h]
 omega
theorem getT_ok {l:List UInt8} {a:Int} {m:Nat} (h:(getT l a m).2.2=0):0≤(getT l a m).2.1∧(getT l a m).2.1≤l.length:=by
 unfold getT at *
 split at h
 ·exact absurd h (by assumption)
 ·split at h
  ·cases h
  ·split at h
   ·cases h
   ·rename_i h1 h2 h3
    have:=endA_ok (l:=l) (a:=a) (by simpa using h1)
    rw[if_neg h1,if_neg h2,if_neg h3]
    simp only
    omega
theorem decDL_ok (l:List UInt8):∀ (m:Nat) (a:Int) (out:List ByteArray),0≤a∧a≤l.length→(decDL l m a out).2.2=0→(0≤(decDL l m a out).2.1∧(decDL l m a out).2.1≤l.length)∧(decDL l m a out).1.length=out.length+m
 | 0,a,out,ha,_=>by simp[decDL,ha]
 | m+1,a,out,ha,h=>by
  rw[decDL] at *
  split at h
  ·exact absurd h (by assumption)
  ·rename_i h1
   rw[if_neg h1]
   have:=decDL_ok l m _ (out++[str (getT l a 40).1]) (getT_ok (by simpa using h1)) h
   refine ⟨this.1,?_⟩
   rw[this.2];simp;omega
theorem dictR_ok {l:List UInt8} {a:Int} (h:(dictR l a).2.2=0):(0≤(dictR l a).2.1∧(dictR l a).2.1≤l.length)∧(dictR l a).1.length≤16:=by
 unfold dictR at *
 split at h
 ·exact absurd h (by assumption)
 ·split at h
  ·cases h
  ·rename_i h1 h2
   rw[if_neg h1,if_neg h2]
   unfold dictE at *
   split at h
   ·exact absurd h (by assumption)
   ·split at h
    ·rename_i h3 h4
     rw[if_neg h3,if_pos h4]
     have:=decDL_ok l (small (getA l a).1) (endA a (getA l a)) [] (endA_ok (by simpa using h1)) (by simpa using h3)
     refine ⟨this.1,?_⟩
     rw[this.2];simp;omega
    ·cases h
theorem dictR_len (l:List UInt8) (a:Int):(dictR l a).1.length≤16:=by
 by_cases h:(dictR l a).2.2=0
 ·exact (dictR_ok h).2
 ·unfold dictR at *
  split
  ·simp
  ·split
   ·simp
   ·rename_i h1 h2
    rw[if_neg h1,if_neg h2] at h
    unfold dictE at *
    split
    ·simp
    ·split
     ·rename_i h3 h4;rw[if_neg h3,if_pos h4] at h;exact absurd h h3
     ·simp
theorem CrAt.C_keep {α:Type} {enc:α→Value} {h1:∀ x,(enc x).oneCell'=true} {w w':World} {A':Option Addr} {n:Nat} {l':List α} (hc:(Kd.scalar enc h1).C w A' n l') (hno:∀ x,(∀ n,enc x≠.int .i64 n)∧(∀ a b d,enc x≠.slice a b d)) {rp:Nat} {A:Option Addr} {c:Nat} {l:List UInt8} {p why:Int} (h:CrAt w rp A c l p why) (hk:Keep1 rp w w'):(Kd.scalar enc h1).C w' A' n l':=by
 refine ⟨hc.1,hc.2.1,fun hn=>?_⟩
 obtain ⟨b,o,rfl,hx⟩:=sc_open hc (by have:=hc.1;omega)
 have hx0:=hx 0 (by have:=hc.1;omega)
 have hb:b≠rp:=by
  rintro rfl
  exact h.no _ (hno _).1 (hno _).2 _ hx0
 have hlt:=World.block_lt_of_cell? w _ hx0
 refine ⟨_,rfl,fun j p hp=>?_⟩
 obtain ⟨ad,e,hcc⟩:=hc.2.2 hn
 cases e
 obtain ⟨cs,hl,hkk,hcell⟩:=hcc j p hp
 refine ⟨cs,hl,hkk,fun q v hv=>?_⟩
 have:=hcell q v hv
 rw[← this]
 exact World.cell?_of_block (by rw[add_block];exact hk.block b hlt hb)
def codedR (l:List UInt8) (p:Int) (n:Nat):List ByteArray × List Nat × Int × Int:=
 ((dictR l p).1,(numbersR l (dictR l p).2.1 (dictR l p).2.2 n (widthL [(dictR l p).1.length-1])).1,(numbersR l (dictR l p).2.1 (dictR l p).2.2 n (widthL [(dictR l p).1.length-1])).2.1,(numbersR l (dictR l p).2.1 (dictR l p).2.2 n (widthL [(dictR l p).1.length-1])).2.2)
def CodedS (w:World) (rp:Nat) (A:Option Addr) (c:Nat) (l:List UInt8) (r:List ByteArray × List Nat × Int × Int) (e:Ending) (w':World):Prop:=
 ∃ A1 c1 A2 c2,e = .returned (.tuple #[.slice A1 r.1.length c1,.slice A2 r.2.1.length c2])∧r.1.length≤c1∧r.2.1.length≤c2∧Kd.string.C w' A1 r.1.length r.1∧kn.C w' A2 r.2.1.length r.2.1∧CrAt w' rp A c l r.2.2.1 r.2.2.2∧Keep1 rp w w'
set_option maxHeartbeats 1600000 in
set_option maxRecDepth 100000 in
theorem cr_coded {base:Nat} {w:World} {rp:Nat} {A:Option Addr} {c:Nat} {l:List UInt8} {p:Int} (h:CrAt w rp A c l p 0) (hC:∀ W,Below base w W→u8.C W A l.length l) (hbr:base≤rp) (hc:l.length≤c) (hl:l.length≤1073741824) (n:Nat) (hn:n≤1048576) :
  Calls Tryz.prog 198 #[.pointer (some ⟨rp,0,none⟩),.int .i64 n] w (CodedS w rp A c l (codedR l p n)):=by
 have H:=mk0 h
 have x0:=h.c0
 have x1:=h.c1
 have x2:=h.c2
 have f1:=h.fr 1
 have f2:=h.fr 2
 have HLR:=mk0 h.lt
 have HCW:=mk0 hC
 have HD:=dict_Decode A c l p w.drew (hC _ (below_drew _ _)) hc (by omega)
 have HOK:=mk0 (dictR_ok (l:=l) (a:=p))
 have HLE:=mk0 (dictR_len l p)
 have HS:Aside0 (codedR l p n=((dictR l p).1,(numbersR l (dictR l p).2.1 (dictR l p).2.2 n (widthL [(dictR l p).1.length-1])).1,(numbersR l (dictR l p).2.1 (dictR l p).2.2 n (widthL [(dictR l p).1.length-1])).2.1,(numbersR l (dictR l p).2.1 (dictR l p).2.2 n (widthL [(dictR l p).1.length-1])).2.2)):=⟨rfl⟩
 generalize codedR l p n=r at *
 generalize dictR l p=d at *
 obtain ⟨dl,dp,dw⟩:=d
 simp only at HD HS HOK HLE
 have HD2:=mk0 (HD.mono (R':=fun e w1=>∃ A1 c1,e = .returned (.tuple #[.slice A1 dl.length c1,.int .i64 dp,.int .i64 dw])∧Aside0 (dl.length≤c1∧Kd.string.C w1 A1 dl.length dl∧CrAt w1 rp A c l p 0∧Keep1 rp w w1)∧w1.frozen? ⟨rp,1,none⟩=false∧w1.frozen? ⟨rp,2,none⟩=false∧w1.cell? ⟨rp,1,none⟩=some (.int .i64 p)∧w1.cell? ⟨rp,2,none⟩=some (.int .i64 0)) (by
  rintro e w1 ⟨A1,c1,rfl,hc1,hC1,hb1⟩
  have hb:=(below_drew w.heap.size w).trans hb1
  have hh:=H.out.below hb
  exact ⟨A1,c1,rfl,⟨hc1,hC1,hh,Keep1.of_below hb⟩,hh.fr 1,hh.fr 2,hh.c1,hh.c2⟩))
 have hdl:dl.length≤16:=HLE.out
 clear h hC HD
 go_enter Tryz.func198,Tryz.ntmps198
 go_wp2_with fail
 go_region_with ((go_at_call 236;refine HD2.out.mono ?_;rintro e w1 ⟨A1,c1,rfl,H1,y1,y2,z1,z2⟩))
 all_goals
  obtain ⟨W,hW⟩:∃ W,W=((w1.setCell ⟨rp,1,none⟩ (.int .i64 dp)).setCell ⟨rp,2,none⟩ (.int .i64 dw)):=⟨_,rfl⟩
  rw[← hW]
  have Q1:=mk0 (show Kd.string.C W A1 dl.length dl by rw[hW];exact CrAt.C_set (CrAt.C_set H1.out.2.1 str_no H1.out.2.2.1 1 (.int .i64 dp)) str_no (H1.out.2.2.1.set1 dp) 2 (.int .i64 dw))
  have Q2:=mk0 (show CrAt W rp A c l dp dw by rw[hW];exact (H1.out.2.2.1.set1 dp).set2 dw)
  have Q3:=mk0 (show Keep1 rp w W by rw[hW];exact (H1.out.2.2.2.set 1 _).set 2 _)
  have Q4:=mk0 H1.out.1
  clear hW x0 x1 x2 f1 f2 y1 y2 z1 z2 H1
  go_wp2_with fail
  obtain ⟨x,hx⟩:∃ x,x=dl.length-1:=⟨_,rfl⟩
  rw[show max ((dl.length:Int)-1) 0=(x:Int) by omega]
  have BW:=below_alloc (Below.refl W.heap.size W) (.cells #[.int .u64 (x:Int)] 117)
  have hk:=sc_C_lit (enc:=fun n:Nat=>Value.int .u64 (n:Int)) (h1:=fun _=>rfl) W [x] 117 (by simp)
  have hw4:widthL [x]≤4:=width_of (fun n hn=>by simp at hn;subst hn;omega)
  have HWC:=bits_Width (some ⟨W.heap.size,0,none⟩) 1 [x] _ hk (fun n hn=>by simp at hn;subst hn;unfold U64;omega)
  rw[show [x].length=1 from rfl,show ([x].map fun n:Nat=>Value.int .u64 (n:Int)).toArray=#[.int .u64 (x:Int)] from rfl] at HWC
  have HWC:=mk0 HWC
  have HS2:=mk0 HS.out
  rw[← hx] at HS2
  generalize hww:widthL [x]=wl at *
  generalize W.alloc (.cells #[.int .u64 (x:Int)] 117)=W2 at *
  have C2:=mk0 (Q2.out.below BW)
  have S2:=mk0 (Kd.C_below Q1.out BW)
  have K2:=mk0 (Q3.out.trans (Keep1.of_below BW))
  have HNM:=mk0 (cr_numbers (base:=base) C2.out (fun W' hb=>HCW.out W' ((K2.out.below hbr (by have:=HLR.out;omega)).trans hb)) hc hl (fun h=>(HOK.out h).1) n wl hn (by omega))
  have HNL:=mk0 (show numbersR l dp dw n wl=numbersR l dp dw n wl from rfl)
  generalize numbersR l dp dw n wl=q at *
  clear hk BW hx hww Q1 Q2 Q3
  (with_reducible refine HWC.out.mono ?_)
  rintro e w' ⟨rfl,rfl⟩
  go_wp2_with fail
  (with_reducible refine HNM.out.mono ?_)
  rintro e w3 ⟨A3,c3,rfl,hc3,hC3,hr3,hk3⟩
  have N1:=mk0 (And.intro hc3 (And.intro hC3 (And.intro hr3 (K2.out.trans hk3))))
  have N2:=mk0 (C2.out.C_keep S2.out str_no hk3)
  clear hc3 hC3 hr3 hk3
  go_wp2
  go_ret2
  rw[HS2.out]
  exact ⟨A1,c1,A3,c3,rfl,Q4.out,N1.out.1,N2.out,N1.out.2.1,N1.out.2.2.1,N1.out.2.2.2⟩
end Go.Proofs.YtpiobnfakmmpdaaGreat.Lib0
namespace Go.Proofs.YtpiobnfakmmpdaaGreat.Lib0
open Go.RowKit Go.Proofs.YtpiobnfakmmpdaaGreatW.PrintWords Go.ChangeMaps
def stepC (l:List UInt8) (d:List ByteArray) (form:Int) (x:Nat) (codes:List Nat) (p why:Int):CellM × Int × List Nat × Int × Int:=
 if x=1∨why≠0 then (noCell,-1,codes,p,why) else
 if form≠2 then ((valueR l p form).1,-1,codes,(valueR l p form).2.1,(valueR l p form).2.2) else
 if d.length≤codes.getD 0 0 then (noCell,-1,codes,p,12) else
 (⟨ByteArray.empty,2,0,d.getD (codes.getD 0 0) ByteArray.empty⟩,(codes.getD 0 0:Nat),codes.drop 1,p,why)
def readF (l:List UInt8) (d:List ByteArray) (form:Int):List Nat→List Nat→Int→Int→List CellM→List Int→List CellM × List Int × Int × Int
 | [],_,p,why,cs,ats=>(cs,ats,p,why)
 | x :: t,codes,p,why,cs,ats=>readF l d form t (stepC l d form x codes p why).2.2.1 (stepC l d form x codes p why).2.2.2.1 (stepC l d form x codes p why).2.2.2.2 (cs++[(stepC l d form x codes p why).1]) (ats++[(stepC l d form x codes p why).2.1])
def zerosN:List Nat→Nat
 | []=>0
 | x :: t=>(1-x)+zerosN t
structure ReadM where
 cells:List CellM
 d:List ByteArray
 ats:List Int
 ok:Bool
def codesOf (l:List UInt8) (form p:Int) (left:Nat):List ByteArray × List Nat × Int × Int:=if form=2 then codedR l p left else ([],[],p,0)
def readE (l:List UInt8) (form:Int) (nulls:List Nat) (cd:List ByteArray × List Nat × Int × Int):ReadM:=
 ⟨(readF l cd.1 form nulls cd.2.1 cd.2.2.1 cd.2.2.2 [] []).1,cd.1,(readF l cd.1 form nulls cd.2.1 cd.2.2.1 cd.2.2.2 [] []).2.1,
  decide ((readF l cd.1 form nulls cd.2.1 cd.2.2.1 cd.2.2.2 [] []).2.2.2=0) && decide ((readF l cd.1 form nulls cd.2.1 cd.2.2.1 cd.2.2.2 [] []).2.2.1=l.length)⟩
def readQ (l:List UInt8) (form:Int) (q:List Nat × Int × Int):ReadM:=if q.2.2≠0 then ⟨[],[],[],false⟩ else readE l form q.1 (codesOf l form q.2.1 (zerosN q.1))
def readR (l:List UInt8):ReadM:=
 if (smallR l 0 0).1<1∨3<(smallR l 0 0).1∨65536<(smallR l (smallR l 0 0).2.1 (smallR l 0 0).2.2).1 then ⟨[],[],[],false⟩
 else readQ l (smallR l 0 0).1 (numbersR l (smallR l (smallR l 0 0).2.1 (smallR l 0 0).2.2).2.1 (smallR l (smallR l 0 0).2.1 (smallR l 0 0).2.2).2.2 (smallR l (smallR l 0 0).2.1 (smallR l 0 0).2.2).1 1)
theorem decR_len (l:List UInt8) (n wd:Nat):∀ (f p:Nat) (out:List Nat),p≤l.length→l.length-p<f→out.length≤n+7→(∀ x ∈ out,U64 x)→(decR l n wd f p out).1=0→n≤(decR l n wd f p out).2.2.length
 | 0,p,out,_,hf,_,_,_=>by omega
 | f+1,p,out,hp,hf,ho,hu,h=>by
  rw[decR] at h ⊢
  split at h
  ·rename_i h1
   rw[if_pos h1];exact h1
  ·rename_i h1
   rw[if_neg h1]
   split at h
   ·exact absurd h (by assumption)
   ·rename_i h2
    rw[if_neg h2]
    split at h
    ·exact absurd h (by assumption)
    ·rename_i h3
     rw[if_neg h3]
     have hg:=(getA_lt l p).2 (by simpa using h2)
     have hs:=stepR_ok (l:=l) (e:=p+(getA l p).2.1) (n:=n) (wd:=wd) (h:=(getA l p).1) (out:=out) (by omega) hu (by simpa using h3)
     exact decR_len l n wd f _ _ hs.2.1 (by omega) hs.2.2.1 hs.2.2.2 h
theorem decR_rng (l:List UInt8) (n wd:Nat):∀ (f p:Nat) (out:List Nat),p≤l.length→out.length≤n+7→(∀ x ∈ out,U64 x)→(decR l n wd f p out).1=0→p≤(decR l n wd f p out).2.1∧(decR l n wd f p out).2.1≤l.length
 | 0,p,out,hp,_,_,_=>by simp[decR,hp]
 | f+1,p,out,hp,ho,hu,h=>by
  rw[decR] at h ⊢
  split at h
  ·rename_i h1
   rw[if_pos h1];exact ⟨Nat.le_refl _,hp⟩
  ·rename_i h1
   rw[if_neg h1]
   split at h
   ·exact absurd h (by assumption)
   ·rename_i h2
    rw[if_neg h2]
    split at h
    ·exact absurd h (by assumption)
    ·rename_i h3
     rw[if_neg h3]
     have hs:=stepR_ok (l:=l) (e:=p+(getA l p).2.1) (n:=n) (wd:=wd) (h:=(getA l p).1) (out:=out) (by omega) hu (by simpa using h3)
     have:=decR_rng l n wd f _ _ hs.2.1 hs.2.2.1 hs.2.2.2 h
     omega
theorem runsD_ok {l:List UInt8} {p n wd:Nat} (hp:p≤l.length) (h:(runsD l p n wd).2.2=0):(runsD l p n wd).1.length=n∧widthL (runsD l p n wd).1≤wd∧p≤(runsD l p n wd).2.1∧(runsD l p n wd).2.1≤l.length:=by
 unfold runsD at *
 have hl:=decR_len l n wd (l.length+1) p [] hp (by omega) (by simp) (by simp)
 have hr:=decR_rng l n wd (l.length+1) p [] hp (by simp) (by simp)
 generalize decR l n wd (l.length+1) p []=r at *
 unfold endR at *
 split at h
 ·exact absurd h (by assumption)
 ·rename_i h1
  split at h
  ·cases h
  ·rename_i h2
   split at h
   ·cases h
   ·rename_i h3
    rw[if_neg h1,if_neg h2,if_neg h3]
    have h0:r.1=0:=by simpa using h1
    refine ⟨?_,?_,(hr h0).1,(hr h0).2⟩
    ·have:=hl h0
     simp;omega
    ·have h4:(runsB (r.2.2.take n) wd).2=0:=by
      by_cases hx:(runsB (r.2.2.take n) wd).2=0
      ·exact hx
      ·exact absurd (.inl hx) h3
     unfold runsB at h4
     split at h4
     ·cases h4
     ·rename_i h5
      simp only
      omega
end Go.Proofs.YtpiobnfakmmpdaaGreat.Lib0

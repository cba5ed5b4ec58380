import Derived.Test.YtpiobnfakmmpdaaGreatP06
set_option linter.unusedVariables false
set_option linter.unusedSimpArgs false
namespace Go.Proofs.YtpiobnfakmmpdaaGreat.Lib0
open Go.RowKit Go.Proofs.YtpiobnfakmmpdaaGreatW.PrintWords Go.ChangeMaps
structure Keep1 (b:Nat) (w w':World):Prop where
 os:w'.os=w.os
 tape:w'.tape=w.tape
 output:w'.output=w.output
 size:w.heap.size≤w'.heap.size
 block:∀ k,k<w.heap.size→k≠b→w'.heap[k]?=w.heap[k]?
theorem Keep1.refl (b:Nat) (w:World):Keep1 b w w:=⟨rfl,rfl,rfl,Nat.le_refl _,fun _ _ _=>rfl⟩
theorem Keep1.trans {b:Nat} {w w1 w2:World} (h:Keep1 b w w1) (g:Keep1 b w1 w2):Keep1 b w w2:=
 ⟨g.os.trans h.os,g.tape.trans h.tape,g.output.trans h.output,Nat.le_trans h.size g.size,fun k hk hn=>(g.block k (Nat.lt_of_lt_of_le hk h.size) hn).trans (h.block k hk hn)⟩
theorem Keep1.of_below {b:Nat} {w w1:World} (h:Below w.heap.size w w1):Keep1 b w w1:=⟨h.os,h.tape,h.output,h.size,fun k hk _=>h.block k hk⟩
theorem Keep1.of_set (w:World) (a:Addr) (u:Value):Keep1 a.block w (w.setCell a u):=⟨rfl,rfl,rfl,by simp[World.setCell],fun k _ hn=>Below.heap_setCell _ _ _ _ hn⟩
theorem Keep1.below {b B:Nat} {w w':World} (h:Keep1 b w w') (hb:B≤b) (hB:B≤w.heap.size):Below B w w':=⟨h.os,h.tape,h.output,h.size,fun k hk=>h.block k (by omega) (by omega)⟩
def RdAt (w:World) (rp:Nat) (A:Option Addr) (c:Nat) (l:List UInt8) (p n wd:Nat) (v:Value):Prop:=
 w.heap[rp]?=some (.cells #[.slice A l.length c,.int .i64 p,.int .i64 n,.int .i64 wd,v] 329 (0,0))
section
variable {w w':World} {rp:Nat} {A:Option Addr} {c:Nat} {l:List UInt8} {p n wd:Nat} {v:Value}
theorem RdAt.c0 (h:RdAt w rp A c l p n wd v):w.cell? ⟨rp,0,none⟩=some (.slice A l.length c):=cell_of_heap h rfl
theorem RdAt.c1 (h:RdAt w rp A c l p n wd v):w.cell? ⟨rp,1,none⟩=some (.int .i64 p):=cell_of_heap h rfl
theorem RdAt.c2 (h:RdAt w rp A c l p n wd v):w.cell? ⟨rp,2,none⟩=some (.int .i64 n):=cell_of_heap h rfl
theorem RdAt.c3 (h:RdAt w rp A c l p n wd v):w.cell? ⟨rp,3,none⟩=some (.int .i64 wd):=cell_of_heap h rfl
theorem RdAt.c4 (h:RdAt w rp A c l p n wd v):w.cell? ⟨rp,4,none⟩=some v:=cell_of_heap h rfl
theorem RdAt.fr (h:RdAt w rp A c l p n wd v) (i:Nat):w.frozen? ⟨rp,i,none⟩=false:=frozen_of_heap h
theorem RdAt.lt (h:RdAt w rp A c l p n wd v):rp<w.heap.size:=(Array.getElem?_eq_some_iff.1 h).1
theorem RdAt.below (h:RdAt w rp A c l p n wd v) (hb:Below w.heap.size w w'):RdAt w' rp A c l p n wd v:=(hb.block rp h.lt).trans h
theorem RdAt.set1 (h:RdAt w rp A c l p n wd v) (q:Nat):RdAt (w.setCell ⟨rp,1,none⟩ (.int .i64 q)) rp A c l q n wd v:=by
 unfold RdAt at *
 rw[heap_at_setCell h]
 rfl
end
def TakePost (w:World) (rp:Nat) (A:Option Addr) (c:Nat) (l:List UInt8) (p n wd:Nat) (v:Value) (m:Nat) (e:Ending) (w':World):Prop:=
 (l.length<p+m∧e = .returned (.tuple #[.slice none 0 0,.bool false])∧Below w.heap.size w w')∨
 (p+m≤l.length∧∃ A' c',e = .returned (.tuple #[.slice A' ((l.take (p+m)).drop p).length c',.bool true])∧((l.take (p+m)).drop p).length≤c'∧(∀ W,u8.C W A l.length l→u8.C W A' ((l.take (p+m)).drop p).length ((l.take (p+m)).drop p))∧RdAt w' rp A c l (p+m) n wd v∧Keep1 rp w w')
set_option maxHeartbeats 3200000 in
set_option maxRecDepth 100000 in
theorem runs_take {w:World} {rp:Nat} {A:Option Addr} {c:Nat} {l:List UInt8} {p n wd:Nat} {v:Value} (h:RdAt w rp A c l p n wd v) (hp:p≤l.length) (hl:l.length≤1099511627776) (hc:l.length≤c) (m:Nat) (hm:m<18446744073709551616) :
  Calls Tryz.prog 271 #[.pointer (some ⟨rp,0,none⟩),.int .u64 m] w (TakePost w rp A c l p n wd v m):=by
 have x0:=h.c0
 have x1:=h.c1
 have H:=mk0 h
 have hpl:(p:Int)≤l.length:=by omega
 have hll:(l.length:Int)≤1099511627776:=by omega
 have hw1:IntKind.i64.wrap ((l.length:Int)-p)=(l.length:Int)-p:=IntWalk.i64_in _ (by omega)
 have hw2:IntKind.u64.wrap ((l.length:Int)-p)=(l.length:Int)-p:=by rw[IntKind.wrap_u64];omega
 by_cases hlt:l.length<p+m
 ·have hlt2:(l.length:Int)-p<m:=by omega
  go_enter Tryz.func271,Tryz.ntmps271
  go_wp2_with fail
  go_quiet (fail)
  have HB:=mk0 (Drawn0.below (Drawn0.step (Drawn0.refl w) nq))
  generalize w.drewN nq=w2 at *
  go_wp2
  go_ret2
  exact .inl ⟨hlt,rfl,HB.out⟩
 ·have hlt2:¬ (l.length:Int)-p<m:=by omega
  have hmb:(m:Int)≤1099511627776:=by omega
  have hwm:IntKind.i64.wrap (m:Int)=(m:Int):=IntWalk.i64_in _ (by omega)
  have hwm64:wrap64 (m:Int)=(m:Int):=wrap64_small _ (by omega)
  obtain ⟨A2,c2,hs,hc2,hC2⟩:=sl_mid (P:=Tryz.prog) u8 22 5 .i64 .i64 Tryz.underlying22 info_u8 rfl A l c (p:Int) ((p+m:Nat):Int) (by omega) (by omega) (by omega) hc
  rw[Int.toNat_natCast,Int.toNat_natCast] at hs hc2 hC2
  have hfin:∀ w3,RdAt w3 rp A c l (p+m) n wd v→Keep1 rp w w3→TakePost w rp A c l p n wd v m (.returned (.tuple #[.slice A2 ((l.take (p+m)).drop p).length c2,.bool true])) w3:=fun w3 h1 h2=>.inr ⟨by omega,A2,c2,rfl,hc2,hC2,h1,h2⟩
  have HFIN:=mk0 hfin
  generalize ((l.take (p+m)).drop p).length=tl at *
  obtain ⟨q,hq⟩:∃ q,q=p+m:=⟨_,rfl⟩
  rw[← hq] at hs HFIN
  have hpm:(p:Int)+m=(q:Int):=by omega
  have hqp:(q:Int)-m=(p:Int):=by omega
  have hwq:IntKind.i64.wrap (q:Int)=(q:Int):=IntWalk.i64_in _ (by omega)
  have hwp:IntKind.i64.wrap (p:Int)=(p:Int):=IntWalk.i64_in _ (by omega)
  clear hfin hc2 hC2 hq
  go_enter Tryz.func271,Tryz.ntmps271
  go_wp2_with fail
  go_quiet (fail)
  have hb:=Drawn0.below (Drawn0.step (Drawn0.refl w) nq)
  have H2:=mk0 (H.out.below hb)
  have K2:=mk0 (Keep1.of_below (b:=rp) hb)
  clear hb x0 x1
  generalize w.drewN nq=w2 at *
  have x1:=H2.out.c1
  have x1f:=H2.out.fr 1
  have H3:=mk0 (H2.out.set1 q)
  have K3:=mk0 (K2.out.trans (Keep1.of_set w2 ⟨rp,1,none⟩ (.int .i64 (q:Int))))
  go_wp2_with fail
  generalize w2.setCell ⟨rp,1,none⟩ (.int .i64 (q:Int))=w3 at *
  clear x1 x1f
  have x0:=H3.out.c0
  have x1:=H3.out.c1
  go_quiet (fail)
  have hb:=Drawn0.below (Drawn0.step (Drawn0.refl w3) nq)
  have H4:=mk0 (H3.out.below hb)
  have K4:=mk0 (K3.out.trans (Keep1.of_below (b:=rp) hb))
  clear hb
  generalize w3.drewN nq=w4 at *
  go_wp2
  go_ret2
  exact HFIN.out w4 H4.out K4.out
end Go.Proofs.YtpiobnfakmmpdaaGreat.Lib0
namespace Go.Proofs.YtpiobnfakmmpdaaGreat.Lib0
open Go.RowKit Go.Proofs.YtpiobnfakmmpdaaGreatW.PrintWords Go.ChangeMaps
theorem R_moved {α:Type} {dd:Kd α} {e:Nat} {ok:Nat→Prop} {w w':World} {base:Nat} {v:Value} {l:List α} (hE:dd.E = []) (h:dd.R e w base ok v l) (hm:∀ k,v.ownBlock=some k→w'.heap[k]?=w.heap[k]?):dd.R e w' base ok v l:=by
 refine Kd.R_mono (Kd.R_move (ok:=fun k=>ok k∧v.ownBlock=some k) ?_ (fun k hk=>hm k hk.2)) (fun _ hk=>hk.1)
 obtain ⟨h0,inner,ho,hr⟩:=h
 refine ⟨fun k hk=>⟨h0 k hk,hk⟩,inner,ho,hr.imp_ (fun _ _ hp=>dd.M_mono (fun k hk=>?_) (dd.M_bound hp))⟩
 obtain ⟨_,_,_,q,hq,_⟩:=hk
 rw[hE] at hq
 cases hq
theorem R_not_at {α:Type} {dd:Kd α} {e:Nat} {ok:Nat→Prop} {w:World} {base:Nat} {v:Value} {l:List α} (h:dd.R e w base ok v l) {k:Nat} {cs:Array Value} {t:TypeId} {fr:Nat × Nat} (hk:w.heap[k]?=some (.cells cs t fr)) (ht:t≠e):v.ownBlock≠some k:=by
 intro hv
 obtain ⟨inner,ho⟩:=Kd.R_own h
 obtain ⟨cells,hc⟩:=own_typed ho k hv
 rw[hk] at hc
 injection hc with hc
 injection hc with _ hc _
 exact ht hc
theorem R_lt {α:Type} {dd:Kd α} {e:Nat} {ok:Nat→Prop} {w:World} {base:Nat} {v:Value} {l:List α} (h:dd.R e w base ok v l):∀ k,v.ownBlock=some k→k<w.heap.size:=by
 intro k hk
 obtain ⟨inner,ho⟩:=Kd.R_own h
 obtain ⟨cells,hc⟩:=own_typed ho k hk
 exact (Array.getElem?_eq_some_iff.1 hc).1
def RdS (base:Nat) (w:World) (rp:Nat) (A:Option Addr) (c:Nat) (l:List UInt8) (p n wd:Nat) (out:List Nat):Prop:=
 ∃ v,RdAt w rp A c l p n wd v∧kn.R 117 w base (fun _=>True) v out∧base≤rp
section
variable {base:Nat} {w w':World} {rp:Nat} {A:Option Addr} {c:Nat} {l:List UInt8} {p n wd:Nat} {out:List Nat}
theorem RdS.base_le (h:RdS base w rp A c l p n wd out):base≤w.heap.size:=by
 obtain ⟨v,h1,_,h3⟩:=h
 have:=h1.lt
 omega
theorem RdS.below (h:RdS base w rp A c l p n wd out) (hb:Below w.heap.size w w'):RdS base w' rp A c l p n wd out:=by
 obtain ⟨v,h1,h2,h3⟩:=h
 exact ⟨v,h1.below hb,R_moved rfl h2 (fun k hk=>hb.block k (R_lt h2 k hk)),h3⟩
theorem RdS.keep {q:Nat} (h:RdS base w rp A c l p n wd out) (hk:Keep1 rp w w') (hr:∀ v,RdAt w rp A c l p n wd v→RdAt w' rp A c l q n wd v):RdS base w' rp A c l q n wd out:=by
 obtain ⟨v,h1,h2,h3⟩:=h
 refine ⟨v,hr v h1,R_moved rfl h2 (fun k hk2=>hk.block k (R_lt h2 k hk2) (fun he=>?_)),h3⟩
 subst he
 exact R_not_at h2 h1 (by decide) hk2
end
section
variable {P:Program} {ops:Array Oper} {rest:List Oper} {o:Oper} {a:Act} {Q:Exit→Act→World→Prop}
theorem kn_append {W:World} (s x:Operand) (t e:TypeId) (v:Value) (xs:List Nat) (p:Nat) (base:Nat)
  (hgd:o.guard=none) (ho:o.op = .call { callee:=.builtin .append,args:=#[s,x],argTypes:=#[t,t] })
  (ht:P.underlying t=some (.slice e)) (hinfo:(P.info? e).map (fun i=>(i.zero,i.size,i.bytes))=some (some (.int .u64 0),1,8))
  (hs:a.eval s=v) (hx:a.eval x = .slice (some ⟨W.heap.size,0,none⟩) 1 1)
  (HO:kn.R e W base (fun _=>True) v xs) (hbase:base≤W.heap.size) (hl:xs.length≤1099511627776)
  (h:∀ v1 w1,kn.R e w1 base (fun _=>True) v1 (xs++[p])→Below base W w1→W.grownBy w1 v.ownBlock→(v1.ownBlock=v.ownBlock∨∃ b,v1.ownBlock=some b∧W.heap.size≤b)→wpList P ops Q rest (a.put o.dst v1) w1) :
  wpList P ops Q (o :: rest) a (W.alloc (.cells #[.int .u64 (p:Int)] e)):=
 Kd.R_append kn (w0:=W) base hgd s x t e (.int .u64 0) 8 ho ht hinfo rfl (by decide) (by decide) v xs p [.int .u64 (p:Int)] (fun _=>True) (fun _=>False) hs hx rfl (fun _ hk=>hk.elim) (fun _ _=>trivial)
  HO (Below.refl _ _) hbase (by omega) h
end
def TakeS (base:Nat) (w:World) (rp:Nat) (A:Option Addr) (c:Nat) (l:List UInt8) (p n wd:Nat) (out:List Nat) (m:Nat) (e:Ending) (w':World):Prop:=
 (l.length<p+m∧e = .returned (.tuple #[.slice none 0 0,.bool false])∧RdS base w' rp A c l p n wd out∧Below base w w')∨
 (p+m≤l.length∧∃ A' c',e = .returned (.tuple #[.slice A' ((l.take (p+m)).drop p).length c',.bool true])∧((l.take (p+m)).drop p).length≤c'∧(∀ W,u8.C W A l.length l→u8.C W A' ((l.take (p+m)).drop p).length ((l.take (p+m)).drop p))∧RdS base w' rp A c l (p+m) n wd out∧Below base w w')
theorem take_S {base:Nat} {w:World} {rp:Nat} {A:Option Addr} {c:Nat} {l:List UInt8} {p n wd:Nat} {out:List Nat} (h:RdS base w rp A c l p n wd out) (hp:p≤l.length) (hl:l.length≤1099511627776) (hc:l.length≤c) (m:Nat) (hm:m<18446744073709551616) :
  Calls Tryz.prog 271 #[.pointer (some ⟨rp,0,none⟩),.int .u64 m] w (TakeS base w rp A c l p n wd out m):=by
 have hbl:=h.base_le
 have h':=h
 obtain ⟨v,h1,h2,h3⟩:=h'
 refine (runs_take h1 hp hl hc m hm).mono ?_
 rintro e w' (⟨g1,rfl,g2⟩ | ⟨g1,A',c',rfl,g2,g3,g4,g5⟩)
 ·exact .inl ⟨g1,rfl,h.below g2,g2.mono hbl⟩
 ·refine .inr ⟨g1,A',c',rfl,g2,g3,⟨v,g4,R_moved rfl h2 (fun k hk2=>g5.block k (R_lt h2 k hk2) (fun he=>?_)),h3⟩,g5.below h3 hbl⟩
  subst he
  exact R_not_at h2 h1 (by decide) hk2
end Go.Proofs.YtpiobnfakmmpdaaGreat.Lib0
namespace Go.Proofs.YtpiobnfakmmpdaaGreat.Lib0
open Go.RowKit Go.Proofs.YtpiobnfakmmpdaaGreatW.PrintWords Go.ChangeMaps
def leN:Nat→Nat→List UInt8→Nat
 | _,acc,[]=>acc
 | k,acc,c :: t=>leN (k+1) (acc ||| (c.toNat*2 ^ (8*k))%18446744073709551616) t
def runR (l:List UInt8) (p n wd:Nat) (out:List Nat) (m:Nat):Int × Nat × List Nat:=
 if l.length<p+(wd+7)/8 then (10,p,out)
 else if m=0∨n-out.length<m then (12,p+(wd+7)/8,out)
 else (0,p+(wd+7)/8,out++List.replicate m (leN 0 0 ((l.take (p+(wd+7)/8)).drop p)))
def RunS (base:Nat) (w:World) (rp:Nat) (A:Option Addr) (c:Nat) (l:List UInt8) (n wd:Nat) (r:Int × Nat × List Nat) (e:Ending) (w':World):Prop:=
 e = .returned (.int .i64 r.1)∧RdS base w' rp A c l r.2.1 n wd r.2.2∧Below base w w'
set_option maxHeartbeats 6400000 in
set_option maxRecDepth 100000 in
theorem runs_run {base:Nat} {w:World} {rp:Nat} {A:Option Addr} {c:Nat} {l:List UInt8} {p n wd:Nat} {out:List Nat} (h:RdS base w rp A c l p n wd out) (hC:∀ W,Below base w W→u8.C W A l.length l) (hp:p≤l.length) (hl:l.length≤1099511627776) (hc:l.length≤c) (hn:n≤1048576) (ho:out.length≤n) (hwd:wd≤32) (m:Nat) (hm:m<18446744073709551616) :
  Calls Tryz.prog 260 #[.pointer (some ⟨rp,0,none⟩),.int .u64 m] w (RunS base w rp A c l n wd (runR l p n wd out m)):=by
 have HT:=mk0 (take_S h hp hl hc ((wd+7)/8) (by omega))
 have HCW:=mk0 hC
 have x3:w.cell? ⟨rp,3,none⟩=some (.int .i64 wd):=by obtain ⟨v,h1,_⟩:=h;exact h1.c3
 have HBL:=mk0 h.base_le
 have HO:=mk0 ho
 have HNN:=mk0 hn
 obtain ⟨nb,hnb⟩:∃ nb,nb=(wd+7)/8:=⟨_,rfl⟩
 rw[← hnb] at HT
 obtain ⟨R,hR⟩:∃ R,R=runR l p n wd out m:=⟨_,rfl⟩
 rw[← hR]
 unfold runR at hR
 rw[← hnb] at hR
 have HRR:=mk0 hR
 clear hR
 have hw1:IntKind.u64.wrap ((wd:Int)+7)/8=(nb:Int):=by rw[IntKind.wrap_u64];omega
 have hw2:((wd:Int)+7)/8=(nb:Int):=by omega
 have hwd2:(wd:Int)≤32:=by omega
 have hnb5:nb≤4:=by omega
 clear h hC hnb
 go_enter Tryz.func260,Tryz.ntmps260
 go_wp2_with fail
 refine HT.out.mono ?_
 rintro e w1 (⟨g1,rfl,g2,g3⟩ | ⟨g1,A',c',rfl,g2,g3,g4,g5⟩)
 ·have HS:=mk0 (show R=(10,p,out) by rw[HRR.out,if_pos g1])
  go_wp2
  go_ret
  exact ⟨by rw[HS.out];rfl,by rw[HS.out];exact g2,g3⟩
 ·have HRR:=mk0 (show R=_ by rw[HRR.out,if_neg (by omega)])
  have HC1:=mk0 (g3 w1 (HCW.out w1 g5))
  have HR1:=mk0 g4
  have HB1:=mk0 g5
  have HTL:=mk0 (show ((l.take (p+nb)).drop p).length≤4 by rw[List.length_drop,List.length_take];omega)
  clear g2 g3 g4 g5 HT hw1 hw2 x3
  generalize (l.take (p+nb)).drop p=t at *
  obtain ⟨v,h1,h2,h3⟩:=HR1.out
  have x2:=h1.c2
  have x4:=h1.c4
  obtain ⟨Av,cv,rfl,_,_⟩:=Kd.R_reads h2
  have hno:(out.length:Int)≤n:=by have:=HO.out;omega
  have hnn:(n:Int)≤1048576:=by have:=HNN.out;omega
  have hw3:IntKind.i64.wrap ((n:Int)-out.length)=(n:Int)-out.length:=IntWalk.i64_in _ (by omega)
  have hw4:IntKind.u64.wrap ((n:Int)-out.length)=(n:Int)-out.length:=by rw[IntKind.wrap_u64];omega
  have HH1:=mk0 h1
  have HH2:=mk0 h2
  clear h1 h2
  by_cases hm0:m=0
  ·subst hm0
   have HS:=mk0 (show R=(12,p+nb,out) by rw[HRR.out,if_pos (.inl rfl)])
   go_wp2_with fail
   go_quiet (fail)
   have hb:=Drawn0.below (Drawn0.step (Drawn0.refl w1) nq)
   have HR2:=mk0 (HR1.out.below hb)
   have HB2:=mk0 (HB1.out.trans (hb.mono HR1.out.base_le))
   generalize w1.drewN nq=w2 at *
   go_wp2
   go_ret
   exact ⟨by rw[HS.out];rfl,by rw[HS.out];exact HR2.out,HB2.out⟩
  ·have hm1:((m:Int)==0)=false:=by rw[beq_eq_false_iff_ne];omega
   have hm2:¬ (m:Int)=0:=by omega
   by_cases hlt:n-out.length<m
   ·have hlt2:(n:Int)-out.length<m:=by omega
    have HS:=mk0 (show R=(12,p+nb,out) by rw[HRR.out,if_pos (.inr hlt)])
    go_wp2_with fail
    go_quiet (fail)
    have hb:=Drawn0.below (Drawn0.step (Drawn0.refl w1) nq)
    have HR2:=mk0 (HR1.out.below hb)
    have HB2:=mk0 (HB1.out.trans (hb.mono HR1.out.base_le))
    generalize w1.drewN nq=w2 at *
    go_wp2
    go_ret
    exact ⟨by rw[HS.out];rfl,by rw[HS.out];exact HR2.out,HB2.out⟩
   ·have hlt2:¬ (n:Int)-out.length<m:=by omega
    have HS:=mk0 (show R=_ by rw[HRR.out,if_neg (by omega)])
    go_wp2_with fail
    go_quiet (fail)
    have hb:=Drawn0.below (Drawn0.step (Drawn0.refl w1) nq)
    have HR2:=mk0 (HR1.out.below hb)
    have HB2:=mk0 (HB1.out.trans (hb.mono HR1.out.base_le))
    have HC2:=mk0 (Kd.C_below HC1.out hb)
    clear hb x2 x4 HC1 HR1 HB1 HH1 HH2 hw3 hw4
    generalize w1.drewN nq=w2 at *
    go_wp2_with fail
    obtain ⟨V,hV⟩:∃ V,V=leN 0 0 t:=⟨_,rfl⟩
    have HV:=mk0 hV.symm
    have HS2:=mk0 (show R=(0,p+nb,out++List.replicate m V) by rw[HS.out,hV])
    clear hV
    go_loopw[7,43] (fun v7 v43 wr=>∃ (k acc:Nat),k≤t.length∧v7 = .int .u64 acc∧v43 = .int .i64 k∧Aside0 (U64 acc)∧Aside0 (leN k acc (t.drop k)=V)∧wr=w2) (fun _ i _=>t.length-(intOf i).toNat)
    case atStart=>exact ⟨0,0,by omega,rfl,rfl,⟨by unfold U64;omega⟩,HV,rfl⟩
    case round=>
     obtain ⟨k,acc,hk,rfl,rfl,HU,HE,rfl⟩:=hrel
     by_cases hkt:k<t.length
     ·obtain ⟨b,o,rfl,hx⟩:=u8_open HC2.out (by omega)
      have hx1:=hx k hkt
      have hkt2:(k:Int)<t.length:=by omega
      have hk4:(k:Int)<4:=by have:=HTL.out;omega
      rw[List.drop_eq_getElem_cons hkt,leN] at HE
      clear hx
      generalize t[k]=y at *
      have hmin:min (8*k) 64=8*k:=by omega
      have hyw:IntKind.u64.wrap (y.toNat:Int)=(y.toNat:Int):=by have:=y.toNat_lt;rw[IntKind.wrap_u64];omega
      obtain ⟨x,hxx⟩:∃ x,x=(y.toNat*2 ^ (8*k))%18446744073709551616:=⟨_,rfl⟩
      rw[← hxx] at HE
      have hsh:IntKind.u64.wrap ((y.toNat:Int)*2 ^ (8*k))=(x:Int):=by
       rw[hxx,IntKind.wrap_u64,Int.natCast_emod,Int.natCast_mul,Int.natCast_pow];rfl
      have hxl:U64 x:=by rw[hxx];exact Nat.mod_lt _ (by decide)
      have hor:=or_u64 acc x HU.out hxl
      have HZU:=mk0 (or_lt64 HU.out hxl)
      generalize acc ||| x=z at *
      clear hxx hxl
      go_wp2
      go_roundw
      case rel=>exact ⟨k+1,z,by omega,by first | rfl | trivial,by go_num,HZU,HE,by first | rfl | trivial⟩
      case measure=>simp[intOf];omega
     ·obtain rfl:k=t.length:=by omega
      have HAV:=mk0 (show acc=V by rw[← HE.out,List.drop_length,leN])
      go_wp2_with fail
      go_loopw[57] (fun v57 wz=>∃ (q:Nat),v57 = .int .u64 q∧Aside0 (q≤m)∧Aside0 (RdS base wz rp A c l (p+nb) n wd (out++List.replicate q V))∧Aside0 (Below base w wz)) (fun i _=>m-(intOf i).toNat)
      case atStart=>exact ⟨0,rfl,⟨by omega⟩,⟨by simpa using HR2.out⟩,HB2⟩
      case round=>
       clear HR2 HB2
       obtain ⟨q,rfl,HQ,HR,HB⟩:=hrel
       by_cases hq:q<m
       ·have hq2:(q:Int)<m:=by omega
        have hmb:(m:Int)≤1048576:=by omega
        obtain ⟨v,h1,h2,h3⟩:=HR.out
        have x4:=h1.c4
        have x4f:=h1.fr 4
        have H1:=mk0 h1
        have H2:=mk0 h2
        have H3:=mk0 h3
        have HAL:=mk0 (show (out++List.replicate q V).length≤1099511627776 by rw[List.length_append,List.length_replicate];have:=HO.out;omega)
        have HSN:=mk0 (show (out++List.replicate q V)++[V]=out++List.replicate (q+1) V by rw[List.replicate_succ',List.append_assoc])
        obtain ⟨Aq,cq,rfl,_,_⟩:=Kd.R_reads h2
        clear h1 h2 h3
        generalize out++List.replicate q V=oq at *
        rw[HAV.out]
        go_wp2_with (at_builtin;go_loud (refine kn_append (.tmp 63) (.tmp 65) 191 117 (.slice Aq oq.length cq) oq V base rfl rfl Tryz.underlying191 info_u64 rfl rfl H2.out HR.out.base_le HAL.out ?_))
        intro v5 w5 hr5 hb5 hg5 ha5
        rw[HSN.out] at hr5
        have h15:RdAt w5 rp A c l (p+nb) n wd (.slice Aq oq.length cq):=(hg5.block rp H1.out.lt (fun he=>R_not_at H2.out H1.out (by decide) he.symm)).trans H1.out
        have hnr:=R_not_at hr5 h15 (by decide)
        obtain ⟨A5,c5,rfl,_,_⟩:=Kd.R_reads hr5
        have x4g:=h15.fr 4
        have x4h:=h15.c4
        have H6:=mk0 (show RdAt (w5.setCell ⟨rp,4,none⟩ (.slice A5 (out++List.replicate (q+1) V).length c5)) rp A c l (p+nb) n wd (.slice A5 (out++List.replicate (q+1) V).length c5) from by
         unfold RdAt at h15 ⊢
         rw[heap_at_setCell h15]
         rfl)
        have R6:=mk0 (show kn.R 117 (w5.setCell ⟨rp,4,none⟩ (.slice A5 (out++List.replicate (q+1) V).length c5)) base (fun _=>True) (.slice A5 (out++List.replicate (q+1) V).length c5) (out++List.replicate (q+1) V) from R_moved rfl hr5 (fun k hk=>Below.heap_setCell _ _ _ _ (fun he=>hnr (by rw[hk,he]))))
        have B6:=mk0 ((HB.out.trans hb5).setCell (p:=⟨rp,4,none⟩) H3.out (.slice A5 (out++List.replicate (q+1) V).length c5))
        clear x4 x4f h15 hnr hr5 hb5 hg5 ha5
        generalize hon:out++List.replicate (q+1) V=on at *
        have HON:=mk0 hon
        clear hon
        go_wp2
        go_roundw
        case rel=>exact ⟨q+1,by go_num,⟨by omega⟩,⟨by rw[HON.out];exact ⟨_,H6.out,R6.out,H3.out⟩⟩,B6⟩
        case measure=>simp[intOf];omega
       ·obtain rfl:q=m:=by have:=HQ.out;omega
        go_wp2
        go_ret
        exact ⟨by rw[HS2.out];rfl,by rw[HS2.out];exact HR.out,HB.out⟩
end Go.Proofs.YtpiobnfakmmpdaaGreat.Lib0

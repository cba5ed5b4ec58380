import Derived.Test.YtcmffaejcnbheaaGreatP29
import Derived.Test.YtcmffaejcnbheaaGreatP37
set_option linter.unusedVariables false
set_option linter.unusedSimpArgs false
namespace Go.Proofs.YtcmffaejcnbheaaGreat.Lib0
open Go.RowKit Go.Proofs.YtcmffaejcnbheaaGreatW.PrintWords Go.ChangeMaps
theorem cutT3 {Good Pp:World→Option Addr→Nat→Prop} {G:Prop} (h:Aside0 (∀ a b c,Good a b c→Pp a b c)→G) (k:∀ a b c,Good a b c→Pp a b c):G:=h ⟨k⟩
attribute [local irreducible] wpQuiet
set_option maxHeartbeats 3200000 in
set_option maxRecDepth 100000 in
theorem ref_Ticks (A:Option Addr) (c:Nat) (l:List Int) (w:World) (h:(Kd.int .i64).C w A l.length l) (h0:0<l.length) (hl:l.length≤1048576) (hs:SortI l) :
  Calls Tryz.prog 53 #[.slice A l.length c] w fun e w'=>
   ∃ A' c',e = .returned (.tuple #[.agg #[.int .i64 l.length,.int .i64 (lastI l l.length),.slice A' (tickA l l.length).length c'],.int .i64 0])∧(Kd.int .i64).R 2 w' w.heap.size (fun _=>True) (.slice A' (tickA l l.length).length c') (tickA l l.length)∧Below w.heap.size w w':=by
 have mixed:Tryz.prog.follows .mixedOrders=true:=by kernel_rfl
 have HC:=mk0 h
 have HSO:=mk0 hs
 obtain ⟨w0,hw0⟩:∃ w0,w0=w.alloc (.cells #[.int .i64 0,.int .i64 0,.slice none 0 0] 56):=⟨_,rfl⟩
 have hn0:=heap_alloc_new w (.cells #[.int .i64 0,.int .i64 0,.slice none 0 0] 56)
 have hb0:=below_alloc (Below.refl w.heap.size w) (.cells #[.int .i64 0,.int .i64 0,.slice none 0 0] 56)
 rw[← hw0] at hn0 hb0
 have HN0:=mk0 hn0
 have HB0:=mk0 hb0
 have hli:¬ (1048576:Int)<l.length:=by omega
 have hld:decide ((1048576:Int)<l.length)=false:=decide_eq_false hli
 clear h hn0 hb0 hs
 go_enter Tryz.func53,Tryz.ntmps53
 obtain ⟨w1,hw1⟩:∃ w1,w1=w0:=⟨_,rfl⟩
 rw[← hw1] at HN0 HB0
 have HB1:=HB0
 have HP0:=HN0
 have hlt1:w.heap.size<w1.heap.size:=(Array.getElem?_eq_some_iff.1 HN0.out).1
 have hs1:w1.heap.size=w.heap.size+1:=by rw[hw1,hw0];simp
 clear HN0 HB0
 go_wp2_with fail
 rw[← hw0,← hw1,← hs1]
 obtain ⟨W,hW⟩:∃ W,W=w1.alloc (.cells #[.int .i64 l.length,.int .i64 0,.slice none 0 0] 56):=⟨_,rfl⟩
 have hnW:=heap_alloc_new w1 (.cells #[.int .i64 l.length,.int .i64 0,.slice none 0 0] 56)
 have hbW:=below_alloc (Below.refl w1.heap.size w1) (.cells #[.int .i64 l.length,.int .i64 0,.slice none 0 0] 56)
 rw[← hW] at hnW hbW ⊢
 have HNW:=mk0 hnW
 have HBW:=mk0 (HB1.out.trans (hbW.mono HB1.out.size))
 have HPW:=mk0 ((hbW.block _ hlt1).trans HP0.out)
 have HZ:=mk0 hlt1
 clear hW hnW hbW HP0 hlt1 hld hw1 hw0 hs1
 go_loopw[5] (fun v5 wr=>∃ (k:Nat) (A3:Option Addr) (c3:Nat),k≤l.length∧v5 = .int .i64 k∧Aside0 (wr.heap[w1.heap.size]?=some (.cells #[.int .i64 l.length,.int .i64 (lastI l k),.slice A3 (tickA l k).length c3] 56 (0,0)))∧Aside0 ((Kd.int .i64).R 2 wr w.heap.size (fun _=>True) (.slice A3 (tickA l k).length c3) (tickA l k))∧Aside0 (Below w.heap.size w wr)∧Aside0 (wr.heap[w.heap.size]?=some (.cells #[.int .i64 0,.int .i64 0,.slice none 0 0] 56 (0,0)))) (fun i _=>l.length-(intOf i).toNat)
 case atStart=>exact ⟨0,none,0,by omega,rfl,HNW,⟨Kd.R_nil _ _ _ _ _⟩,HBW,HPW⟩
 case round=>
  clear HNW HBW HPW
  obtain ⟨k,A3,c3,hk,rfl,HN,HR,HB,HP⟩:=hrel
  have x0:=cell_of_heap (i:=0) HN.out rfl
  have x1:=cell_of_heap (i:=1) HN.out rfl
  have x2:=cell_of_heap (i:=2) HN.out rfl
  by_cases hlt:k<l.length
  case neg=>
   have hk2:k=l.length:=by omega
   have hki:¬ (k:Int)<l.length:=by omega
   have HF:=mk0 (show ∃ A' c',A'=A3∧c'=c3∧(Kd.int .i64).R 2 wr w.heap.size (fun _=>True) (.slice A3 (tickA l l.length).length c3) (tickA l l.length) from ⟨A3,c3,rfl,rfl,by have h:=HR.out;rw[hk2] at h;exact h⟩)
   rw[hk2] at x1 x2
   have p0:=HP.out
   have q0:=frozen_of_heap (i:=0) p0
   have q1:=frozen_of_heap (i:=1) p0
   have q2:=frozen_of_heap (i:=2) p0
   have y0:=cell_of_heap (i:=0) p0 rfl
   have y1:=cell_of_heap (i:=1) p0 rfl
   have y2:=cell_of_heap (i:=2) p0 rfl
   clear hk2
   have HSF:=mk0 ((((AtZ.start (base:=w.heap.size) HP.out).set (Nat.le_refl _) 0 (.int .i64 l.length)).set (Nat.le_refl _) 1 (.int .i64 (lastI l l.length))).set (Nat.le_refl _) 2 (.slice A3 (tickA l l.length).length c3))
   have HSF:=mk0 (show AtZ w.heap.size w.heap.size 56 wr _ #[.int .i64 l.length,.int .i64 (lastI l l.length),.slice A3 (tickA l l.length).length c3] from HSF.out)
   have HRF:=mk0 (show (Kd.int .i64).R 2 (((wr.setCell ⟨w.heap.size,0,none⟩ (.int .i64 l.length)).setCell ⟨w.heap.size,1,none⟩ (.int .i64 (lastI l l.length))).setCell ⟨w.heap.size,2,none⟩ (.slice A3 (tickA l l.length).length c3)) w.heap.size (fun _=>True) (.slice A3 (tickA l l.length).length c3) (tickA l l.length) by
    obtain ⟨_,_,_,_,h⟩:=HF.out
    exact R_moved rfl h (fun q hq=>HSF.out.2.1 q (fun e=>R_not_at h HP.out (by decide) (by rw[hq,e]))))
   go_wp2
   generalize (((wr.setCell ⟨w.heap.size,0,none⟩ (.int .i64 l.length)).setCell ⟨w.heap.size,1,none⟩ (.int .i64 (lastI l l.length))).setCell ⟨w.heap.size,2,none⟩ (.slice A3 (tickA l l.length).length c3))=Wf at *
   have g0:=cell_of_heap (i:=0) HSF.out.1 rfl
   have g1:=cell_of_heap (i:=1) HSF.out.1 rfl
   have g2:=cell_of_heap (i:=2) HSF.out.1 rfl
   refine bodyPost_ret (v:=.tuple #[.agg #[.int .i64 l.length,.int .i64 (lastI l l.length),.slice A3 (tickA l l.length).length c3],.int .i64 0]) (by simp[results,Tryz.results53,go_sem,g0,g1,g2]) rfl ?_
   exact ⟨A3,c3,rfl,HRF.out,HB.out.trans HSF.out.2.2⟩
  have hki:(k:Int)<l.length:=by omega
  obtain ⟨b,o,rfl,hx⟩:=sc_open (Kd.C_below HC.out HB.out) (by omega)
  have z0:wr.cell? ⟨b,o+k,none⟩=some (.int .i64 l[k]):=hx k hlt
  have HCK0:=mk0 (show ∀ w',Below w.heap.size w w'→w'.cell? ⟨b,o+k,none⟩=some (.int .i64 l[k]) from fun w' hb'=>by
   obtain ⟨b',o',e,hx'⟩:=sc_open (Kd.C_below HC.out hb') (by omega)
   cases e
   exact hx' k hlt)
  have HTN:=mk0 (tickA_next l k hlt)
  have HLN:=mk0 (lastI_next l k hlt)
  have hb1:w1.heap.size<wr.heap.size:=(Array.getElem?_eq_some_iff.1 HN.out).1
  have hb0:w.heap.size<wr.heap.size:=(Array.getElem?_eq_some_iff.1 HP.out).1
  have hlw:w.heap.size≤w1.heap.size:=Nat.le_of_lt HZ.out
  have hnew:w.heap.size≠w1.heap.size:=Nat.ne_of_lt HZ.out
  rcases Nat.eq_zero_or_pos k with hk0 | hk0
  ·have hg0:decide ((k:Int)>0)=false:=decide_eq_false (by omega)
   have hg1:decide ((0:Int)<k)=false:=decide_eq_false (by omega)
   have hg2:decide (0<k)=false:=decide_eq_false (by omega)
   obtain ⟨y,hy⟩:∃ y,y=l[k]:=⟨_,rfl⟩
   rw[← hy] at z0 HTN HLN HCK0
   have HCK:=HCK0
   clear hx hy hk0
   go_wp2_with fail
   go_quiet (fail)
   clear hg0 hg1 hg2
   have BQ:=Drawn0.below (Drawn0.step (Drawn0.refl wr) nq)
   have HN2:=mk0 ((BQ.block _ hb1).trans HN.out)
   have HR2:=mk0 (Kd.R_below HR.out BQ)
   have HB2:=mk0 (HB.out.trans (BQ.mono HB.out.size))
   have HP2:=mk0 ((BQ.block _ hb0).trans HP.out)
   have z2:(wr.drewN nq).cell? ⟨b,o+k,none⟩=some (.int .i64 y):=z0
   have hb2:w1.heap.size<(wr.drewN nq).heap.size:=hb1
   clear BQ z0 x0 x1 x2 hb1 hb0 HN HR HB HP
   generalize wr.drewN nq=w2 at *
   have x0:=cell_of_heap (i:=0) HN2.out rfl
   have x1:=cell_of_heap (i:=1) HN2.out rfl
   have x2:=cell_of_heap (i:=2) HN2.out rfl
   have f1:=frozen_of_heap (i:=1) HN2.out
   have f2:=frozen_of_heap (i:=2) HN2.out
   by_cases h4:k%4=0
   ·have ht4:(k:Int).tmod 4=0:=by rw[Int.tmod_eq_emod_of_nonneg (by omega)];omega
    have hm:((k:Int).tmod 4==0)=true:=by simp[ht4]
    have hm2:(k:Int)%4=0:=by omega
    have hm3:((k:Int)%4==0)=true:=by simp[hm2]
    have HT2:=mk0 (show tickA l (k+1)=tickA l k++[y] by rw[HTN.out,if_pos h4])
    have HLL:=mk0 (show (tickA l k).length≤1048576 by have:=tickA_len l k;omega)
    have HV:=mk0 (Kd.R_drew (Kd.R_alloc HR2.out (.cells #[.int .i64 y] 2)))
    have HS:=mk0 (show w.heap.size≤(w2.alloc (.cells #[.int .i64 y] 2)).drew.heap.size from Nat.le_trans HB2.out.size (by simp))
    have z2b:∀ o',(w2.alloc o').cell? ⟨b,o+k,none⟩=some (.int .i64 y):=fun o'=>(World.cell?_alloc_lt w2 o' ⟨b,o+k,none⟩ (World.block_lt_of_cell? w2 _ z2)).trans z2
    have x2b:∀ o',(w2.alloc o').cell? ⟨w1.heap.size,2,none⟩=some (.slice A3 (tickA l k).length c3):=fun o'=>(World.cell?_alloc_lt w2 o' ⟨w1.heap.size,2,none⟩ hb2).trans x2
    clear hm2 ht4 h4 HTN
    go_wp2_with fail
    apply cutT3 (Good:=fun w5 A5 c5=>w5.heap[w1.heap.size]?=some (.cells #[.int .i64 l.length,.int .i64 (lastI l k),.slice A5 (tickA l (k+1)).length c5] 56 (0,0))∧(Kd.int .i64).R 2 w5 w.heap.size (fun _=>True) (.slice A5 (tickA l (k+1)).length c5) (tickA l (k+1))∧Below w.heap.size w w5∧w5.heap[w.heap.size]?=some (.cells #[.int .i64 0,.int .i64 0,.slice none 0 0] 56 (0,0)))
    ·intro key
     go_region_law (first
      | (refine ki_flat.one_step (V:=(w2.alloc (.cells #[.int .i64 y] 2)).drew) w.heap.size rfl (.tmp 38) (.tmp 43) 52 2 (.int .i64 0) 8 rfl Tryz.underlying52 info_i64 rfl (by decide) (by decide) (by decide) (.slice A3 (tickA l k).length c3) (tickA l k) y w2.heap.size 2 rfl rfl (heap_alloc_new w2 _) HV.out HS.out HLL.out ?_;intro v1 w5 hr5 hb5 hg5 hat5;obtain ⟨A5,c5,e5⟩:=Kd.R_slice hr5;rw[List.length_append] at e5;replace e5:v1 = .slice A5 ((tickA l k).length+1) c5:=e5;subst e5;have hn5:w5.heap[w1.heap.size]?=some (.cells #[.int .i64 l.length,.int .i64 (lastI l k),.slice A3 (tickA l k).length c3] 56 (0,0)):=(hg5.block _ (by show _<(w2.heap.push _).size;simp;omega) (fun e=>R_not_at HR2.out HN2.out (by decide) e.symm)).trans ((heap_alloc_old w2 _ hb2).trans HN2.out);have hp5:w5.heap[w.heap.size]?=some (.cells #[.int .i64 0,.int .i64 0,.slice none 0 0] 56 (0,0)):=(hg5.block _ (by show _<(w2.heap.push _).size;simp;omega) (fun e=>R_not_at HR2.out HP2.out (by decide) e.symm)).trans ((heap_alloc_old w2 _ (Nat.lt_trans HZ.out hb2)).trans HP2.out);have f5:=frozen_of_heap (i:=2) hn5;have x5:=cell_of_heap (i:=2) hn5 rfl;have HZ5:=mk0 (show AtZ w.heap.size w1.heap.size 56 w5 (w5.setCell ⟨w1.heap.size,2,none⟩ (.slice A5 ((tickA l k).length+1) c5)) #[.int .i64 l.length,.int .i64 (lastI l k),.slice A5 ((tickA l k).length+1) c5] from (AtZ.start (base:=w.heap.size) hn5).set hlw 2 (.slice A5 ((tickA l k).length+1) c5));have HR5:=mk0 (R_set_ne rfl hr5 hn5 (by decide) 2 (.slice A5 ((tickA l k).length+1) c5));have HB5:=mk0 (((HB2.out.trans ((below_alloc (Below.refl _ _) _).mono HB2.out.size)).trans ((below_drew _ _).trans hb5)).trans HZ5.out.2.2);have HP5:=mk0 ((HZ5.out.2.1 w.heap.size hnew).trans hp5);clear hr5 hb5 hg5 hat5 hn5 hp5))
     all_goals
      generalize w5.setCell ⟨w1.heap.size,2,none⟩ (.slice A5 ((tickA l k).length+1) c5)=w6 at *
      exact key.out w6 A5 c5 ⟨by rw[HT2.out,List.length_append];exact HZ5.out.1,by rw[HT2.out,List.length_append];exact HR5.out,HB5.out,HP5.out⟩
    ·rintro w5 A5 c5 ⟨q1,q2,q3,q4⟩
     have f5:=frozen_of_heap (i:=1) q1
     have x5:=cell_of_heap (i:=1) q1 rfl
     have HWA:=mk0 (show AtZ w.heap.size w1.heap.size 56 w5 (w5.setCell ⟨w1.heap.size,1,none⟩ (.int .i64 y)) #[.int .i64 l.length,.int .i64 y,.slice A5 (tickA l (k+1)).length c5] from (AtZ.start (base:=w.heap.size) q1).set hlw 1 (.int .i64 y))
     have HR3:=mk0 (R_set_ne rfl q2 q1 (by decide) 1 (.int .i64 y))
     have HBW2:=mk0 (q3.trans HWA.out.2.2)
     have HPW2:=mk0 ((HWA.out.2.1 w.heap.size hnew).trans q4)
     have HN3:=mk0 (show (w5.setCell ⟨w1.heap.size,1,none⟩ (.int .i64 y)).heap[w1.heap.size]?=some (.cells #[.int .i64 l.length,.int .i64 (lastI l (k+1)),.slice A5 (tickA l (k+1)).length c5] 56 (0,0)) by rw[HLN.out];exact HWA.out.1)
     have z5:w5.cell? ⟨b,o+k,none⟩=some (.int .i64 y):=HCK.out _ q3
     clear q1 q2 q3 q4 HWA HLN z2 z2b x2b x0 x1 x2 f1 f2
     go_wp2
     generalize w5.setCell ⟨w1.heap.size,1,none⟩ (.int .i64 y)=w9 at *
     go_roundw
     case rel=>exact ⟨k+1,A5,c5,by omega,by go_num,HN3,HR3,HBW2,HPW2⟩
     case measure=>simp[intOf];omega
   ·have ht4:(k:Int).tmod 4≠0:=by rw[Int.tmod_eq_emod_of_nonneg (by omega)];omega
    have hm:((k:Int).tmod 4==0)=false:=by simp[ht4]
    have hm2:¬ (k:Int)%4=0:=by omega
    have hm3:((k:Int)%4==0)=false:=by simp[hm2]
    have HT2:=mk0 (show tickA l (k+1)=tickA l k by rw[HTN.out,if_neg h4])
    have HWA:=mk0 (show AtZ w.heap.size w1.heap.size 56 w2 (w2.setCell ⟨w1.heap.size,1,none⟩ (.int .i64 y)) #[.int .i64 l.length,.int .i64 y,.slice A3 (tickA l k).length c3] from (AtZ.start (base:=w.heap.size) HN2.out).set hlw 1 (.int .i64 y))
    have HRW:=mk0 (R_set_ne rfl HR2.out HN2.out (by decide) 1 (.int .i64 y))
    have HBW2:=mk0 (HB2.out.trans HWA.out.2.2)
    have HPW2:=mk0 ((HWA.out.2.1 w.heap.size hnew).trans HP2.out)
    clear hm2 ht4 h4 HTN
    have HN3:=mk0 (show (w2.setCell ⟨w1.heap.size,1,none⟩ (.int .i64 y)).heap[w1.heap.size]?=some (.cells #[.int .i64 l.length,.int .i64 (lastI l (k+1)),.slice A3 (tickA l (k+1)).length c3] 56 (0,0)) by rw[HT2.out,HLN.out];exact HWA.out.1)
    have HR3:=mk0 (show (Kd.int .i64).R 2 (w2.setCell ⟨w1.heap.size,1,none⟩ (.int .i64 y)) w.heap.size (fun _=>True) (.slice A3 (tickA l (k+1)).length c3) (tickA l (k+1)) by rw[HT2.out];exact HRW.out)
    clear HT2 HRW HWA HLN
    go_wp2
    generalize w2.setCell ⟨w1.heap.size,1,none⟩ (.int .i64 y)=w9 at *
    go_roundw
    case rel=>exact ⟨k+1,A3,c3,by omega,by go_num,HN3,HR3,HBW2,HPW2⟩
    case measure=>simp[intOf];omega
  ·obtain ⟨j,hj⟩:∃ j,k=j+1:=⟨k-1,by omega⟩
   have hg0:decide ((k:Int)>0)=true:=decide_eq_true (by omega)
   have hg1:decide ((0:Int)<k)=true:=decide_eq_true (by omega)
   have hg2:decide (0<k)=true:=decide_eq_true (by omega)
   have zj:wr.cell? ⟨b,o+j,none⟩=some (.int .i64 l[j]):=hx j (by omega)
   have hle:=HSO.out j (by omega)
   have hjw2:wrap64 ((k:Int)-1)=(j:Int):=by unfold wrap64;omega
   have hjw:IntKind.i64.wrap ((k:Int)-1)=(j:Int):=by rw[IntWalk.i64_in _ (by omega)];omega
   have hjl:(j:Int)<l.length:=by omega
   have hjw4:IntKind.i64.wrap (j:Int)=(j:Int):=IntWalk.i64_in _ (by omega)
   have hnl:decide (l[k]<l[j])=false:=decide_eq_false (by subst hj;omega)
   obtain ⟨y,hy⟩:∃ y,y=l[k]:=⟨_,rfl⟩
   rw[← hy] at z0 HTN HLN hnl HCK0
   have HCK:=HCK0
   generalize l[j]=yj at *
   clear hx hy hk0 hj hle
   go_wp2_with fail
   go_quiet (fail)
   clear hg0 hg1 hg2 hjw hjw2 hjl hjw4 hnl zj
   have BQ:=Drawn0.below (Drawn0.step (Drawn0.refl wr) nq)
   have HN2:=mk0 ((BQ.block _ hb1).trans HN.out)
   have HR2:=mk0 (Kd.R_below HR.out BQ)
   have HB2:=mk0 (HB.out.trans (BQ.mono HB.out.size))
   have HP2:=mk0 ((BQ.block _ hb0).trans HP.out)
   have z2:(wr.drewN nq).cell? ⟨b,o+k,none⟩=some (.int .i64 y):=z0
   have hb2:w1.heap.size<(wr.drewN nq).heap.size:=hb1
   clear BQ z0 x0 x1 x2 hb1 hb0 HN HR HB HP
   generalize wr.drewN nq=w2 at *
   have x0:=cell_of_heap (i:=0) HN2.out rfl
   have x1:=cell_of_heap (i:=1) HN2.out rfl
   have x2:=cell_of_heap (i:=2) HN2.out rfl
   have f1:=frozen_of_heap (i:=1) HN2.out
   have f2:=frozen_of_heap (i:=2) HN2.out
   by_cases h4:k%4=0
   ·have ht4:(k:Int).tmod 4=0:=by rw[Int.tmod_eq_emod_of_nonneg (by omega)];omega
    have hm:((k:Int).tmod 4==0)=true:=by simp[ht4]
    have hm2:(k:Int)%4=0:=by omega
    have hm3:((k:Int)%4==0)=true:=by simp[hm2]
    have HT2:=mk0 (show tickA l (k+1)=tickA l k++[y] by rw[HTN.out,if_pos h4])
    have HLL:=mk0 (show (tickA l k).length≤1048576 by have:=tickA_len l k;omega)
    have HV:=mk0 (Kd.R_drew (Kd.R_alloc HR2.out (.cells #[.int .i64 y] 2)))
    have HS:=mk0 (show w.heap.size≤(w2.alloc (.cells #[.int .i64 y] 2)).drew.heap.size from Nat.le_trans HB2.out.size (by simp))
    have z2b:∀ o',(w2.alloc o').cell? ⟨b,o+k,none⟩=some (.int .i64 y):=fun o'=>(World.cell?_alloc_lt w2 o' ⟨b,o+k,none⟩ (World.block_lt_of_cell? w2 _ z2)).trans z2
    have x2b:∀ o',(w2.alloc o').cell? ⟨w1.heap.size,2,none⟩=some (.slice A3 (tickA l k).length c3):=fun o'=>(World.cell?_alloc_lt w2 o' ⟨w1.heap.size,2,none⟩ hb2).trans x2
    clear hm2 ht4 h4 HTN
    go_wp2_with fail
    apply cutT3 (Good:=fun w5 A5 c5=>w5.heap[w1.heap.size]?=some (.cells #[.int .i64 l.length,.int .i64 (lastI l k),.slice A5 (tickA l (k+1)).length c5] 56 (0,0))∧(Kd.int .i64).R 2 w5 w.heap.size (fun _=>True) (.slice A5 (tickA l (k+1)).length c5) (tickA l (k+1))∧Below w.heap.size w w5∧w5.heap[w.heap.size]?=some (.cells #[.int .i64 0,.int .i64 0,.slice none 0 0] 56 (0,0)))
    ·intro key
     go_region_law (first
      | (refine ki_flat.one_step (V:=(w2.alloc (.cells #[.int .i64 y] 2)).drew) w.heap.size rfl (.tmp 38) (.tmp 43) 52 2 (.int .i64 0) 8 rfl Tryz.underlying52 info_i64 rfl (by decide) (by decide) (by decide) (.slice A3 (tickA l k).length c3) (tickA l k) y w2.heap.size 2 rfl rfl (heap_alloc_new w2 _) HV.out HS.out HLL.out ?_;intro v1 w5 hr5 hb5 hg5 hat5;obtain ⟨A5,c5,e5⟩:=Kd.R_slice hr5;rw[List.length_append] at e5;replace e5:v1 = .slice A5 ((tickA l k).length+1) c5:=e5;subst e5;have hn5:w5.heap[w1.heap.size]?=some (.cells #[.int .i64 l.length,.int .i64 (lastI l k),.slice A3 (tickA l k).length c3] 56 (0,0)):=(hg5.block _ (by show _<(w2.heap.push _).size;simp;omega) (fun e=>R_not_at HR2.out HN2.out (by decide) e.symm)).trans ((heap_alloc_old w2 _ hb2).trans HN2.out);have hp5:w5.heap[w.heap.size]?=some (.cells #[.int .i64 0,.int .i64 0,.slice none 0 0] 56 (0,0)):=(hg5.block _ (by show _<(w2.heap.push _).size;simp;omega) (fun e=>R_not_at HR2.out HP2.out (by decide) e.symm)).trans ((heap_alloc_old w2 _ (Nat.lt_trans HZ.out hb2)).trans HP2.out);have f5:=frozen_of_heap (i:=2) hn5;have x5:=cell_of_heap (i:=2) hn5 rfl;have HZ5:=mk0 (show AtZ w.heap.size w1.heap.size 56 w5 (w5.setCell ⟨w1.heap.size,2,none⟩ (.slice A5 ((tickA l k).length+1) c5)) #[.int .i64 l.length,.int .i64 (lastI l k),.slice A5 ((tickA l k).length+1) c5] from (AtZ.start (base:=w.heap.size) hn5).set hlw 2 (.slice A5 ((tickA l k).length+1) c5));have HR5:=mk0 (R_set_ne rfl hr5 hn5 (by decide) 2 (.slice A5 ((tickA l k).length+1) c5));have HB5:=mk0 (((HB2.out.trans ((below_alloc (Below.refl _ _) _).mono HB2.out.size)).trans ((below_drew _ _).trans hb5)).trans HZ5.out.2.2);have HP5:=mk0 ((HZ5.out.2.1 w.heap.size hnew).trans hp5);clear hr5 hb5 hg5 hat5 hn5 hp5))
     all_goals
      generalize w5.setCell ⟨w1.heap.size,2,none⟩ (.slice A5 ((tickA l k).length+1) c5)=w6 at *
      exact key.out w6 A5 c5 ⟨by rw[HT2.out,List.length_append];exact HZ5.out.1,by rw[HT2.out,List.length_append];exact HR5.out,HB5.out,HP5.out⟩
    ·rintro w5 A5 c5 ⟨q1,q2,q3,q4⟩
     have f5:=frozen_of_heap (i:=1) q1
     have x5:=cell_of_heap (i:=1) q1 rfl
     have HWA:=mk0 (show AtZ w.heap.size w1.heap.size 56 w5 (w5.setCell ⟨w1.heap.size,1,none⟩ (.int .i64 y)) #[.int .i64 l.length,.int .i64 y,.slice A5 (tickA l (k+1)).length c5] from (AtZ.start (base:=w.heap.size) q1).set hlw 1 (.int .i64 y))
     have HR3:=mk0 (R_set_ne rfl q2 q1 (by decide) 1 (.int .i64 y))
     have HBW2:=mk0 (q3.trans HWA.out.2.2)
     have HPW2:=mk0 ((HWA.out.2.1 w.heap.size hnew).trans q4)
     have HN3:=mk0 (show (w5.setCell ⟨w1.heap.size,1,none⟩ (.int .i64 y)).heap[w1.heap.size]?=some (.cells #[.int .i64 l.length,.int .i64 (lastI l (k+1)),.slice A5 (tickA l (k+1)).length c5] 56 (0,0)) by rw[HLN.out];exact HWA.out.1)
     have z5:w5.cell? ⟨b,o+k,none⟩=some (.int .i64 y):=HCK.out _ q3
     clear q1 q2 q3 q4 HWA HLN z2 z2b x2b x0 x1 x2 f1 f2
     go_wp2
     generalize w5.setCell ⟨w1.heap.size,1,none⟩ (.int .i64 y)=w9 at *
     go_roundw
     case rel=>exact ⟨k+1,A5,c5,by omega,by go_num,HN3,HR3,HBW2,HPW2⟩
     case measure=>simp[intOf];omega
   ·have ht4:(k:Int).tmod 4≠0:=by rw[Int.tmod_eq_emod_of_nonneg (by omega)];omega
    have hm:((k:Int).tmod 4==0)=false:=by simp[ht4]
    have hm2:¬ (k:Int)%4=0:=by omega
    have hm3:((k:Int)%4==0)=false:=by simp[hm2]
    have HT2:=mk0 (show tickA l (k+1)=tickA l k by rw[HTN.out,if_neg h4])
    have HWA:=mk0 (show AtZ w.heap.size w1.heap.size 56 w2 (w2.setCell ⟨w1.heap.size,1,none⟩ (.int .i64 y)) #[.int .i64 l.length,.int .i64 y,.slice A3 (tickA l k).length c3] from (AtZ.start (base:=w.heap.size) HN2.out).set hlw 1 (.int .i64 y))
    have HRW:=mk0 (R_set_ne rfl HR2.out HN2.out (by decide) 1 (.int .i64 y))
    have HBW2:=mk0 (HB2.out.trans HWA.out.2.2)
    have HPW2:=mk0 ((HWA.out.2.1 w.heap.size hnew).trans HP2.out)
    clear hm2 ht4 h4 HTN
    have HN3:=mk0 (show (w2.setCell ⟨w1.heap.size,1,none⟩ (.int .i64 y)).heap[w1.heap.size]?=some (.cells #[.int .i64 l.length,.int .i64 (lastI l (k+1)),.slice A3 (tickA l (k+1)).length c3] 56 (0,0)) by rw[HT2.out,HLN.out];exact HWA.out.1)
    have HR3:=mk0 (show (Kd.int .i64).R 2 (w2.setCell ⟨w1.heap.size,1,none⟩ (.int .i64 y)) w.heap.size (fun _=>True) (.slice A3 (tickA l (k+1)).length c3) (tickA l (k+1)) by rw[HT2.out];exact HRW.out)
    clear HT2 HRW HWA HLN
    go_wp2
    generalize w2.setCell ⟨w1.heap.size,1,none⟩ (.int .i64 y)=w9 at *
    go_roundw
    case rel=>exact ⟨k+1,A3,c3,by omega,by go_num,HN3,HR3,HBW2,HPW2⟩
    case measure=>simp[intOf];omega
end Go.Proofs.YtcmffaejcnbheaaGreat.Lib0
namespace Go.Proofs.YtcmffaejcnbheaaGreat.Lib0
open Go.RowKit Go.Proofs.YtcmffaejcnbheaaGreatW.PrintWords Go.ChangeMaps
set_option maxHeartbeats 1600000 in
set_option maxRecDepth 100000 in
theorem ref_Times (B:Option Addr) (d:Nat) (H:List RowH) (w:World) (hH:kr.C w B H.length H) (hn:0<(H.map (·.t)).length) (hl:(H.map (·.t)).length≤1048576) (hs:SortI (H.map (·.t))) :
  Calls Tryz.prog 21 #[.slice B H.length d] w (IdxS w (H.map (·.t)) (fun _=>True)):=by
 obtain ⟨ts,hts⟩:∃ ts,ts=H.map (·.t):=⟨_,rfl⟩
 rw[← hts] at hn hl hs ⊢
 have HTS:=mk0 hts
 have hlen:ts.length=H.length:=by rw[hts,List.length_map]
 have HLE:=mk0 hlen
 have hH63:H.length≤1048576:=by omega
 have HC:=mk0 hH
 obtain ⟨w0,hw0⟩:∃ w0,w0=w.alloc (.cells #[.int .i64 0,.int .i64 0,.slice none 0 0] 56):=⟨_,rfl⟩
 have hn0:=heap_alloc_new w (.cells #[.int .i64 0,.int .i64 0,.slice none 0 0] 56)
 have hb0:=below_alloc (Below.refl w.heap.size w) (.cells #[.int .i64 0,.int .i64 0,.slice none 0 0] 56)
 rw[← hw0] at hn0 hb0
 have HN00:=mk0 hn0
 have HB00:=mk0 hb0
 have HSO:=mk0 hs
 clear hn0 hb0 hs hH hts hlen
 go_enter Tryz.func21,Tryz.ntmps21
 go_wp2_with fail
 rw[← hw0]
 clear hw0
 go_loopw[3,4] (fun v3 v4 wr=>∃ (k:Nat),k≤H.length∧v4 = .int .i64 k∧Aside0 ((Kd.int .i64).R 2 wr w.heap.size (fun _=>True) v3 (ts.take k))∧Aside0 (Below w.heap.size w wr)∧Aside0 (wr.heap[w.heap.size]?=some (.cells #[.int .i64 0,.int .i64 0,.slice none 0 0] 56 (0,0)))) (fun _ i _=>H.length-(intOf i).toNat)
 case atStart=>exact ⟨0,by omega,rfl,⟨Kd.R_nil _ _ _ _ _⟩,HB00,HN00⟩
 case round=>
  clear HB00 HN00
  obtain ⟨k,hk,rfl,HR,HB,HP⟩:=hrel
  obtain ⟨A3,c3,hv3⟩:=Kd.R_slice HR.out
  have hkl:(ts.take k).length=k:=by rw[List.length_take,HLE.out];omega
  rw[hkl] at hv3
  subst hv3
  by_cases hlt:k<H.length
  ·have hki:(k:Int)<H.length:=by omega
   obtain ⟨b,o,rfl,hx⟩:=kr_open (Kd.C_below HC.out HB.out) (by omega)
   have z0:=(hx k hlt).1
   have HNX:=mk0 (show ts.take (k+1)=ts.take k++[H[k].t] by
    rw[take_next ts k (by rw[HLE.out];exact hlt)]
    congr 2
    have:=HTS.out
    subst this
    simp)
   obtain ⟨y,hy⟩:∃ y,y=H[k].t:=⟨_,rfl⟩
   rw[← hy] at z0 HNX
   have HKL:=mk0 hkl
   have hb0:w.heap.size<wr.heap.size:=(Array.getElem?_eq_some_iff.1 HP.out).1
   have HB0L:=mk0 hb0
   have HLL:=mk0 (show (ts.take k).length≤1099511627776 by omega)
   clear hx hy hkl hb0
   go_wp2_with (at_builtin;go_loud (refine int_append (W:=wr) (.tmp 13) (.tmp 19) 52 2 (.slice A3 k c3) (ts.take k) y w.heap.size rfl rfl Tryz.underlying52 info_i64 rfl rfl HR.out HB.out.size HLL.out ?_))
   intro v5 w5 hr5 hb5 hg5 ha5
   rw[← HNX.out] at hr5
   have HR5:=mk0 hr5
   have HB5:=mk0 (HB.out.trans hb5)
   have HP5:=mk0 ((hg5.block _ HB0L.out (fun e=>R_not_at HR.out HP.out (by decide) e.symm)).trans HP.out)
   clear hr5 hb5 hg5 ha5 HNX HKL HLL
   go_wp2
   go_roundw
   case rel=>exact ⟨k+1,by omega,by go_num,HR5,HB5,HP5⟩
   case measure=>simp[intOf];omega
  ·have hki:¬ (k:Int)<H.length:=by omega
   have hke:k=ts.length:=by rw[HLE.out];omega
   have HR2:=mk0 (show (Kd.int .i64).R 2 wr w.heap.size (fun _=>True) (.slice A3 ts.length c3) ts by
    have h:=HR.out
    rw[hke,List.take_length] at h
    exact h)
   have hb0:w.heap.size<wr.heap.size:=(Array.getElem?_eq_some_iff.1 HP.out).1
   have HTB:=mk0 (ref_Ticks A3 c3 ts wr (C_of HR2.out) hn hl HSO.out)
   rw[hke]
   have hki2:¬ (ts.length:Int)<H.length:=by have:=HLE.out;omega
   have HLT:=mk0 hb0
   have HN0:=HP
   have HB0:=HB
   generalize wr=w0 at *
   clear hke hkl hb0 HR HR2 HP HB HSO
   go_wp2_with fail
   (with_reducible refine HTB.out.mono ?_)
   rintro e w1 ⟨A1,c1,rfl,hr1,hb1⟩
   have HP1:=mk0 ((hb1.block _ HLT.out).trans HN0.out)
   have HR1:=mk0 hr1
   have HB1:=mk0 (HB0.out.trans (hb1.mono HB0.out.size))
   have hlt1:w.heap.size<w1.heap.size:=Nat.lt_of_lt_of_le HLT.out hb1.size
   clear hr1 hb1 HTB HN0 HB0
   have hx2:=HLT.out
   have p0:=HP1.out
   have q0:=frozen_of_heap (i:=0) p0
   have q1:=frozen_of_heap (i:=1) p0
   have q2:=frozen_of_heap (i:=2) p0
   have y0:=cell_of_heap (i:=0) p0 rfl
   have y1:=cell_of_heap (i:=1) p0 rfl
   have y2:=cell_of_heap (i:=2) p0 rfl
   have hne:¬ w.heap.size=w1.heap.size:=Nat.ne_of_lt hlt1
   have hne2:¬ w1.heap.size=w.heap.size:=fun e=>hne e.symm
   have HSF:=mk0 ((((AtZ.start (base:=w.heap.size) HP1.out).set (Nat.le_refl _) 0 (.int .i64 ts.length)).set (Nat.le_refl _) 1 (.int .i64 (lastI ts ts.length))).set (Nat.le_refl _) 2 (.slice A1 (tickA ts ts.length).length c1))
   have HSF:=mk0 (show AtZ w.heap.size w.heap.size 56 w1 _ #[.int .i64 ts.length,.int .i64 (lastI ts ts.length),.slice A1 (tickA ts ts.length).length c1] from HSF.out)
   have HRF:=mk0 (Kd.R_lower (base':=w.heap.size) (R_moved rfl HR1.out (w':=(((w1.setCell ⟨w.heap.size,0,none⟩ (.int .i64 ts.length)).setCell ⟨w.heap.size,1,none⟩ (.int .i64 (lastI ts ts.length))).setCell ⟨w.heap.size,2,none⟩ (.slice A1 (tickA ts ts.length).length c1))) (fun q hq=>HSF.out.2.1 q (fun e=>R_not_at HR1.out HP1.out (by decide) (by rw[hq,e])))) (Nat.le_of_lt HLT.out))
   clear p0 HR1
   go_wp2_with fail
   generalize (((w1.setCell ⟨w.heap.size,0,none⟩ (.int .i64 ts.length)).setCell ⟨w.heap.size,1,none⟩ (.int .i64 (lastI ts ts.length))).setCell ⟨w.heap.size,2,none⟩ (.slice A1 (tickA ts ts.length).length c1))=Wf at *
   have hltf:w.heap.size<Wf.heap.size:=(Array.getElem?_eq_some_iff.1 HSF.out.1).1
   have g0:∀ o,(Wf.alloc o).cell? ⟨w.heap.size,0,none⟩=_:=fun o=>(World.cell?_alloc_lt Wf o ⟨w.heap.size,0,none⟩ hltf).trans (cell_of_heap (i:=0) HSF.out.1 rfl)
   have g1:∀ o,(Wf.alloc o).cell? ⟨w.heap.size,1,none⟩=_:=fun o=>(World.cell?_alloc_lt Wf o ⟨w.heap.size,1,none⟩ hltf).trans (cell_of_heap (i:=1) HSF.out.1 rfl)
   have g2:∀ o,(Wf.alloc o).cell? ⟨w.heap.size,2,none⟩=_:=fun o=>(World.cell?_alloc_lt Wf o ⟨w.heap.size,2,none⟩ hltf).trans (cell_of_heap (i:=2) HSF.out.1 rfl)
   refine bodyPost_ret (v:=.agg #[.int .i64 ts.length,.int .i64 (lastI ts ts.length),.slice A1 (tickA ts ts.length).length c1]) (by simp[results,Tryz.results21,go_sem,g0,g1,g2]) rfl ?_
   have hbf:=HB1.out.trans HSF.out.2.2
   exact ⟨A1,c1,rfl,Kd.R_alloc HRF.out _,hbf.trans ((below_alloc (Below.refl _ _) _).mono hbf.size)⟩
end Go.Proofs.YtcmffaejcnbheaaGreat.Lib0
namespace Go.Proofs.YtcmffaejcnbheaaGreat.Lib0
open Go.RowKit Go.Proofs.YtcmffaejcnbheaaGreatW.PrintWords Go.ChangeMaps
set_option maxHeartbeats 1600000 in
set_option maxRecDepth 100000 in
theorem same_int (A B:Option Addr) (ca cb:Nat) (xs ys:List Int) (w:World) (ha:(Kd.int .i64).C w A xs.length xs) (hb:(Kd.int .i64).C w B ys.length ys) :
  Calls Tryz.prog 22 #[.slice A xs.length ca,.slice B ys.length cb] w fun e w'=>e = .returned (.bool (decide (xs=ys)))∧Below w.heap.size w w':=by
 have HA:=mk0 ha
 have HB:=mk0 hb
 have hla:xs.length≤9223372036854775807:=by have:=ha.2.1;omega
 clear ha hb
 by_cases hlen:xs.length=ys.length
 ·have hb1:((xs.length:Int) != (ys.length:Int))=false:=by simp[hlen]
  go_enter Tryz.func22,Tryz.ntmps22
  go_wp2_with fail
  go_loopw[5] (fun v5 wr=>∃ (k:Nat),k≤ys.length∧v5 = .int .i64 k∧Aside0 (xs.take k=ys.take k)∧Aside0 (Below w.heap.size w wr)) (fun i _=>ys.length-(intOf i).toNat)
  case atStart=>exact ⟨0,by omega,rfl,⟨rfl⟩,⟨Below.refl _ _⟩⟩
  case round=>
   obtain ⟨k,hk,rfl,HT,HW⟩:=hrel
   by_cases hlt:k<ys.length
   ·obtain ⟨b1,o1,rfl,hx⟩:=sc_open (Kd.C_below HA.out HW.out) (by omega)
    obtain ⟨b2,o2,rfl,hy⟩:=sc_open (Kd.C_below HB.out HW.out) (by omega)
    have hx1:=hx k (by omega)
    have hy1:=hy k hlt
    have hlt1:k<xs.length:=by omega
    have hlt2:(k:Int)<ys.length:=by omega
    have hlt3:(k:Int)<xs.length:=by omega
    have HTS:=mk0 (show xs[k]=ys[k]→xs.take (k+1)=ys.take (k+1) from fun h=>by
     rw[List.take_succ_eq_append_getElem hlt1,List.take_succ_eq_append_getElem hlt,HT.out,h])
    have HNE:=mk0 (show xs[k]≠ys[k]→xs≠ys from fun h e=>h (by simp[e]))
    clear hx hy
    generalize xs[k]=x at *
    generalize ys[k]=y at *
    by_cases hxy:x=y
    ·have hd:=HTS.out hxy
     have HT':=mk0 hd
     have hbb:(x != y)=false:=by rw[hxy];simp
     clear hxy hd
     go_wp2
     go_quiet (fail)
     have HW':=mk0 (HW.out.trans ((Drawn0.below (Drawn0.step (Drawn0.refl wr) nq)).mono HW.out.size))
     generalize wr.drewN nq=w2 at *
     go_wp2
     go_roundw
     case rel=>exact ⟨k+1,by omega,by go_num,HT',HW'⟩
     case measure=>simp[intOf];omega
    ·have hne:=HNE.out hxy
     have HE:=mk0 (show decide (xs=ys)=false by simp[hne])
     have hbb:(x != y)=true:=bne_iff_ne.2 (fun h=>hxy (id (by omega)))
     clear hne hxy
     go_wp2
     go_quiet (fail)
     have HW':=mk0 (HW.out.trans ((Drawn0.below (Drawn0.step (Drawn0.refl wr) nq)).mono HW.out.size))
     generalize wr.drewN nq=w2 at *
     go_wp2
     go_ret
     exact ⟨by rw[HE.out];rfl,HW'.out⟩
   ·obtain rfl:k=ys.length:=by omega
    have he:xs=ys:=by have:=HT.out;rwa [← hlen,List.take_length,hlen,List.take_length] at this
    have HE:=mk0 (show decide (xs=ys)=true by simp[he])
    clear he
    go_wp2
    go_ret
    exact ⟨by rw[HE.out];rfl,HW.out⟩
 ·have hne:xs≠ys:=fun h=>hlen (by rw[h])
  have hb1:((xs.length:Int) != (ys.length:Int))=true:=bne_iff_ne.2 (by omega)
  go_enter Tryz.func22,Tryz.ntmps22
  go_wp2
  go_ret
  exact ⟨by simp[hne],Below.refl _ _⟩
end Go.Proofs.YtcmffaejcnbheaaGreat.Lib0

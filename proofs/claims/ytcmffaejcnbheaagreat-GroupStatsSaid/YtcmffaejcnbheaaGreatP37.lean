import Derived.Test.YtcmffaejcnbheaaGreatP25
set_option linter.unusedVariables false
set_option linter.unusedSimpArgs false
namespace Go.Proofs.YtcmffaejcnbheaaGreat.Lib0
open Go.RowKit Go.Proofs.YtcmffaejcnbheaaGreatW.PrintWords Go.ChangeMaps
set_option maxRecDepth 100000 in
theorem cmp_Less64 (a b:Int) (w:World):Calls Tryz.prog 121 #[.int .i64 a,.int .i64 b] w fun e w'=>e = .returned (.bool (decide (a<b)))∧w=w':=by
 have HN:=mk0 (fun x W=>nan_i64 x W)
 obtain ⟨r,hr⟩:∃ r,r=decide (a<b):=⟨_,rfl⟩
 rw[← hr]
 have hr2:decide (a<b)=r:=hr.symm
 clear hr
 go_enter Tryz.func121,Tryz.ntmps121
 go_wp2_with fail
 refine (HN.out _ _).mono ?_
 rintro e w' ⟨rfl,rfl⟩
 go_wp2
 go_ret
 exact ⟨rfl,rfl⟩
def SortI (l:List Int):Prop:=∀ i (h:i+1<l.length),l[i]≤l[i+1]
attribute [local irreducible] wpQuiet
set_option maxHeartbeats 1600000 in
set_option maxRecDepth 100000 in
theorem is_Sorted (A:Option Addr) (c:Nat) (l:List Int) (w:World) (h:(Kd.int .i64).C w A l.length l) (h0:0<l.length) (hl:l.length≤1048576) (hs:SortI l) :
  Calls Tryz.prog 91 #[.slice A l.length c] w fun e w'=>e = .returned (.bool true)∧∃ n,w'=w.drewN n:=by
 have mixed:Tryz.prog.follows .mixedOrders=true:=by kernel_rfl
 have HC:=mk0 h
 have HS:=mk0 hs
 have HL:=mk0 cmp_Less64
 have hw1:wrap64 ((l.length:Int)-1)=((l.length-1:Nat):Int):=by unfold wrap64;omega
 clear h hs
 go_enter Tryz.func91,Tryz.ntmps91
 go_wp2_with fail
 go_loopw[3] (fun v3 wr=>∃ (k:Nat),k<l.length∧v3 = .int .i64 k∧Aside0 (∃ n,wr=w.drewN n)) (fun i _=>(intOf i).toNat)
 case atStart=>exact ⟨l.length-1,by omega,by congr 1;omega,⟨⟨0,rfl⟩⟩⟩
 case round=>
  obtain ⟨k,hk,rfl,HD⟩:=hrel
  obtain ⟨n,hn⟩:=HD.out
  rcases Nat.eq_zero_or_pos k with rfl | hk0
  ·clear hn
   go_wp2
   go_ret
   exact ⟨rfl,HD.out⟩
  ·obtain ⟨j,rfl⟩:∃ j,k=j+1:=⟨k-1,by omega⟩
   obtain ⟨b,o,rfl,hx⟩:=sc_open HC.out (by omega)
   have y0:wr.cell? ⟨b,o+j,none⟩=some (.int .i64 l[j]):=by rw[hn];exact hx j (by omega)
   have y1:wr.cell? ⟨b,o+(j+1),none⟩=some (.int .i64 l[j+1]):=by rw[hn];exact hx (j+1) hk
   have HN:=mk0 hn
   clear hn
   have hle:=HS.out j hk
   have hki:(0:Int)<((j+1:Nat):Int):=by omega
   have hkl:((j+1:Nat):Int)<l.length:=by omega
   have hjw:IntKind.i64.wrap (((j+1:Nat):Int)-1)=(j:Int):=by rw[IntWalk.i64_in _ (by omega)];omega
   have hjw2:wrap64 (((j+1:Nat):Int)-1)=(j:Int):=by unfold wrap64;omega
   have hjw3:((j+1:Nat):Int)-1=(j:Int):=by omega
   have hjl:(j:Int)<l.length:=by omega
   have hjw4:IntKind.i64.wrap (j:Int)=(j:Int):=IntWalk.i64_in _ (by omega)
   have hlt3:(j:Int)+1<l.length:=by omega
   have hge3:(0:Int)≤(j:Int)+1:=by omega
   have hto3:((j:Int)+1).toNat=j+1:=by omega
   have hj63:(j:Int)+1<9223372036854775807:=by omega
   have HLc:=mk0 (fun W=>(HL.out l[j+1] l[j] W).mono (fun e w' h=>(⟨by rw[h.1,decide_eq_false (by omega)],h.2.symm⟩:e = .returned (.bool false)∧w'=W)))
   clear hx hle
   generalize l[j]=x at *
   generalize l[j+1]=y at *
   go_wp2_with fail
   go_quiet ((go_at_call 121;refine Calls.quiet_of_same (HLc.out _)))
   have HD2:=mk0 (show ∃ n2,wr.drewN nq=w.drewN n2 from ⟨n+nq,by rw[HN.out];simp[World.drewN];omega⟩)
   generalize wr.drewN nq=w3 at *
   clear y0 y1 HLc
   go_wp2
   go_roundw
   case rel=>exact ⟨j,by omega,by simp,HD2⟩
   case measure=>simp[intOf]
def tickA (l:List Int):Nat→List Int
 | 0=>[]
 | k+1=>if k%4=0 then tickA l k++[l.getD k 0] else tickA l k
def lastI (l:List Int) (k:Nat):Int:=if k=0 then 0 else l.getD (k-1) 0
theorem tickA_len (l:List Int):∀ k,(tickA l k).length≤k
 | 0=>Nat.le_refl _
 | k+1=>by
  have:=tickA_len l k
  rw[tickA]
  split
  ·rw[List.length_append,List.length_singleton];omega
  ·omega
theorem tickA_next (l:List Int) (k:Nat) (h:k<l.length):tickA l (k+1)=if k%4=0 then tickA l k++[l[k]] else tickA l k:=by
 rw[tickA]
 simp[List.getD,List.getElem?_eq_getElem h]
theorem lastI_next (l:List Int) (k:Nat) (h:k<l.length):lastI l (k+1)=l[k]:=by
 unfold lastI
 simp[List.getD,List.getElem?_eq_getElem h]
set_option maxHeartbeats 3200000 in
set_option maxRecDepth 100000 in
theorem ticks_Build (A:Option Addr) (c:Nat) (l:List Int) (w:World) (h:(Kd.int .i64).C w A l.length l) (h0:0<l.length) (hl:l.length≤1048576) (hs:SortI l) :
  Calls Tryz.prog 52 #[.slice A l.length c] w fun e w'=>
   ∃ A' c',e = .returned (.tuple #[.agg #[.int .i64 l.length,.int .i64 (lastI l l.length),.slice A' (tickA l l.length).length c'],.int .i64 0])∧(Kd.int .i64).R 2 w' w.heap.size (fun _=>True) (.slice A' (tickA l l.length).length c') (tickA l l.length)∧Below w.heap.size w w':=by
 have HC:=mk0 h
 obtain ⟨w0,hw0⟩:∃ w0,w0=w.alloc (.cells #[.int .i64 0,.int .i64 0,.slice none 0 0] 54):=⟨_,rfl⟩
 have hn0:=heap_alloc_new w (.cells #[.int .i64 0,.int .i64 0,.slice none 0 0] 54)
 have hb0:=below_alloc (Below.refl w.heap.size w) (.cells #[.int .i64 0,.int .i64 0,.slice none 0 0] 54)
 rw[← hw0] at hn0 hb0
 have HN0:=mk0 hn0
 have HB0:=mk0 hb0
 have HIS:=mk0 (is_Sorted A c l w0 (Kd.C_below h hb0) h0 hl hs)
 have hli:¬ (1048576:Int)<l.length:=by omega
 have hld:decide ((1048576:Int)<l.length)=false:=decide_eq_false hli
 clear h hn0 hb0 hs
 go_enter Tryz.func52,Tryz.ntmps52
 go_wp2_with fail
 rw[← hw0]
 clear hw0
 (with_reducible refine HIS.out.mono ?_)
 rintro e w1 ⟨rfl,n,rfl⟩
 have BN:=Drawn0.below (Drawn0.step (Drawn0.refl w0) n)
 obtain ⟨w1,hw1⟩:∃ w1,w1=w0.drewN n:=⟨_,rfl⟩
 rw[← hw1] at BN ⊢
 have hlt0:w.heap.size<w0.heap.size:=(Array.getElem?_eq_some_iff.1 HN0.out).1
 have HP0:=mk0 ((BN.block _ hlt0).trans HN0.out)
 have HB1:=mk0 (HB0.out.trans (BN.mono HB0.out.size))
 have hlt1:w.heap.size<w1.heap.size:=Nat.lt_of_lt_of_le hlt0 BN.size
 clear hw1 BN HN0 HB0 HIS hlt0
 go_wp2_with fail
 obtain ⟨W,hW⟩:∃ W,W=w1.alloc (.cells #[.int .i64 l.length,.int .i64 0,.slice none 0 0] 54):=⟨_,rfl⟩
 have hnW:=heap_alloc_new w1 (.cells #[.int .i64 l.length,.int .i64 0,.slice none 0 0] 54)
 have hbW:=below_alloc (Below.refl w1.heap.size w1) (.cells #[.int .i64 l.length,.int .i64 0,.slice none 0 0] 54)
 rw[← hW] at hnW hbW ⊢
 have HNW:=mk0 hnW
 have HBW:=mk0 (HB1.out.trans (hbW.mono HB1.out.size))
 have HPW:=mk0 ((hbW.block _ hlt1).trans HP0.out)
 have HZ:=mk0 hlt1
 clear hW hnW hbW HP0 hlt1 hld
 go_loopw[21] (fun v21 wr=>∃ (k:Nat) (A3:Option Addr) (c3:Nat),k≤l.length∧v21 = .int .i64 k∧Aside0 (wr.heap[w1.heap.size]?=some (.cells #[.int .i64 l.length,.int .i64 (lastI l k),.slice A3 (tickA l k).length c3] 54 (0,0)))∧Aside0 ((Kd.int .i64).R 2 wr w.heap.size (fun _=>True) (.slice A3 (tickA l k).length c3) (tickA l k))∧Aside0 (Below w.heap.size w wr)∧Aside0 (wr.heap[w.heap.size]?=some (.cells #[.int .i64 0,.int .i64 0,.slice none 0 0] 54 (0,0)))) (fun i _=>l.length-(intOf i).toNat)
 case atStart=>exact ⟨0,none,0,by omega,rfl,HNW,⟨Kd.R_nil _ _ _ _ _⟩,HBW,HPW⟩
 case round=>
  clear HNW HBW HPW
  obtain ⟨k,A3,c3,hk,rfl,HN,HR,HB,HP⟩:=hrel
  have x0:=cell_of_heap (i:=0) HN.out rfl
  have x1:=cell_of_heap (i:=1) HN.out rfl
  have x2:=cell_of_heap (i:=2) HN.out rfl
  by_cases hlt:k<l.length
  case neg=>
   have hk2:k=l.length:=by omega
   have hki:¬ (k:Int)<l.length:=by omega
   have HF:=mk0 (show ∃ A' c',A'=A3∧c'=c3∧(Kd.int .i64).R 2 wr w.heap.size (fun _=>True) (.slice A3 (tickA l l.length).length c3) (tickA l l.length) from ⟨A3,c3,rfl,rfl,by have h:=HR.out;rw[hk2] at h;exact h⟩)
   rw[hk2] at x1 x2
   have p0:=HP.out
   have q0:=frozen_of_heap (i:=0) p0
   have q1:=frozen_of_heap (i:=1) p0
   have q2:=frozen_of_heap (i:=2) p0
   have y0:=cell_of_heap (i:=0) p0 rfl
   have y1:=cell_of_heap (i:=1) p0 rfl
   have y2:=cell_of_heap (i:=2) p0 rfl
   clear hk2
   have HSF:=mk0 ((((AtZ.start (base:=w.heap.size) HP.out).set (Nat.le_refl _) 0 (.int .i64 l.length)).set (Nat.le_refl _) 1 (.int .i64 (lastI l l.length))).set (Nat.le_refl _) 2 (.slice A3 (tickA l l.length).length c3))
   have HSF:=mk0 (show AtZ w.heap.size w.heap.size 54 wr _ #[.int .i64 l.length,.int .i64 (lastI l l.length),.slice A3 (tickA l l.length).length c3] from HSF.out)
   have HRF:=mk0 (show (Kd.int .i64).R 2 (((wr.setCell ⟨w.heap.size,0,none⟩ (.int .i64 l.length)).setCell ⟨w.heap.size,1,none⟩ (.int .i64 (lastI l l.length))).setCell ⟨w.heap.size,2,none⟩ (.slice A3 (tickA l l.length).length c3)) w.heap.size (fun _=>True) (.slice A3 (tickA l l.length).length c3) (tickA l l.length) by
    obtain ⟨_,_,_,_,h⟩:=HF.out
    exact R_moved rfl h (fun q hq=>HSF.out.2.1 q (fun e=>R_not_at h HP.out (by decide) (by rw[hq,e]))))
   go_wp2
   generalize (((wr.setCell ⟨w.heap.size,0,none⟩ (.int .i64 l.length)).setCell ⟨w.heap.size,1,none⟩ (.int .i64 (lastI l l.length))).setCell ⟨w.heap.size,2,none⟩ (.slice A3 (tickA l l.length).length c3))=Wf at *
   have g0:=cell_of_heap (i:=0) HSF.out.1 rfl
   have g1:=cell_of_heap (i:=1) HSF.out.1 rfl
   have g2:=cell_of_heap (i:=2) HSF.out.1 rfl
   refine bodyPost_ret (v:=.tuple #[.agg #[.int .i64 l.length,.int .i64 (lastI l l.length),.slice A3 (tickA l l.length).length c3],.int .i64 0]) (by simp[results,Tryz.results52,go_sem,g0,g1,g2]) rfl ?_
   exact ⟨A3,c3,rfl,HRF.out,HB.out.trans HSF.out.2.2⟩
  have hki:(k:Int)<l.length:=by omega
  obtain ⟨b,o,rfl,hx⟩:=sc_open (Kd.C_below HC.out HB.out) (by omega)
  have z0:wr.cell? ⟨b,o+k,none⟩=some (.int .i64 l[k]):=hx k hlt
  have HTN:=mk0 (tickA_next l k hlt)
  have HLN:=mk0 (lastI_next l k hlt)
  have hb1:w1.heap.size<wr.heap.size:=(Array.getElem?_eq_some_iff.1 HN.out).1
  have f1:=frozen_of_heap (i:=1) HN.out
  have f2:=frozen_of_heap (i:=2) HN.out
  obtain ⟨y,hy⟩:∃ y,y=l[k]:=⟨_,rfl⟩
  rw[← hy] at z0 HTN HLN
  clear hx hy
  have hlw:w.heap.size≤w1.heap.size:=Nat.le_of_lt HZ.out
  have hnew:w.heap.size≠w1.heap.size:=Nat.ne_of_lt HZ.out
  have HWA:=mk0 (show AtZ w.heap.size w1.heap.size 54 wr (wr.setCell ⟨w1.heap.size,1,none⟩ (.int .i64 y)) #[.int .i64 l.length,.int .i64 y,.slice A3 (tickA l k).length c3] from (AtZ.start (base:=w.heap.size) HN.out).set hlw 1 (.int .i64 y))
  have HRW:=mk0 (R_set_ne rfl HR.out HN.out (by decide) 1 (.int .i64 y))
  have HBW2:=mk0 (HB.out.trans HWA.out.2.2)
  have HPW2:=mk0 ((HWA.out.2.1 w.heap.size hnew).trans HP.out)
  by_cases h4:k%4=0
  ·have ht4:(k:Int).tmod 4=0:=by rw[Int.tmod_eq_emod_of_nonneg (by omega)];omega
   have hm:((k:Int).tmod 4==0)=true:=by simp[ht4]
   have hm2:(k:Int)%4=0:=by omega
   have hm3:((k:Int)%4==0)=true:=by simp[hm2]
   clear hm2 ht4
   have HT2:=mk0 (show tickA l (k+1)=tickA l k++[y] by rw[HTN.out,if_pos h4])
   have HX0:=mk0 (show Value.slice (some ⟨wr.heap.size,0,none⟩) 1 1 = .slice (some ⟨(wr.setCell ⟨w1.heap.size,1,none⟩ (.int .i64 y)).heap.size,0,none⟩) 1 1 by simp)
   have HSW:=mk0 (show w.heap.size≤(wr.setCell ⟨w1.heap.size,1,none⟩ (.int .i64 y)).heap.size by have:=HB.out.size;simpa using this)
   have HLL:=mk0 (show (tickA l k).length≤1099511627776 by have:=tickA_len l k;omega)
   clear h4 HTN
   go_wp2_with (at_builtin;go_loud (refine int_append (W:=wr.setCell ⟨w1.heap.size,1,none⟩ (.int .i64 y)) (.tmp 32) (.tmp 34) 52 2 (.slice A3 (tickA l k).length c3) (tickA l k) y w.heap.size rfl rfl Tryz.underlying52 info_i64 rfl HX0.out HRW.out HSW.out HLL.out ?_))
   intro v5 w5 hr5 hb5 hg5 ha5
   obtain ⟨A5,c5,e5⟩:=Kd.R_slice hr5
   subst e5
   have hb2:w1.heap.size<(wr.setCell ⟨w1.heap.size,1,none⟩ (.int .i64 y)).heap.size:=by simpa using hb1
   have hn5:w5.heap[w1.heap.size]?=some (.cells #[.int .i64 l.length,.int .i64 y,.slice A3 (tickA l k).length c3] 54 (0,0)):=(hg5.block _ hb2 (fun e=>R_not_at HRW.out HWA.out.1 (by decide) e.symm)).trans HWA.out.1
   have hp5:w5.heap[w.heap.size]?=some (.cells #[.int .i64 0,.int .i64 0,.slice none 0 0] 54 (0,0)):=(hg5.block _ (by have:=hb2;omega) (fun e=>R_not_at HRW.out HPW2.out (by decide) e.symm)).trans HPW2.out
   have f5:=frozen_of_heap (i:=2) hn5
   have x5:=cell_of_heap (i:=2) hn5 rfl
   have HZ5:=mk0 (show AtZ w.heap.size w1.heap.size 54 w5 (w5.setCell ⟨w1.heap.size,2,none⟩ (.slice A5 (tickA l k++[y]).length c5)) #[.int .i64 l.length,.int .i64 y,.slice A5 (tickA l k++[y]).length c5] from (AtZ.start (base:=w.heap.size) hn5).set hlw 2 (.slice A5 (tickA l k++[y]).length c5))
   have HR5:=mk0 (R_set_ne rfl hr5 hn5 (by decide) 2 (.slice A5 (tickA l k++[y]).length c5))
   have HB5:=mk0 ((HBW2.out.trans hb5).trans HZ5.out.2.2)
   have HP5:=mk0 ((HZ5.out.2.1 w.heap.size hnew).trans hp5)
   rw[← HT2.out] at HZ5 HR5 HB5 HP5 ⊢
   have HN5:=mk0 (show (w5.setCell ⟨w1.heap.size,2,none⟩ (.slice A5 (tickA l (k+1)).length c5)).heap[w1.heap.size]?=some (.cells #[.int .i64 l.length,.int .i64 (lastI l (k+1)),.slice A5 (tickA l (k+1)).length c5] 54 (0,0)) by rw[HLN.out];exact HZ5.out.1)
   clear hr5 hb5 hg5 ha5 hb2 hn5 hp5 HT2 HX0 HSW HLL HRW HWA HLN HZ5
   go_wp2
   generalize w5.setCell ⟨w1.heap.size,2,none⟩ (.slice A5 (tickA l (k+1)).length c5)=w9 at *
   go_roundw
   case rel=>exact ⟨k+1,A5,c5,by omega,by go_num,HN5,HR5,HB5,HP5⟩
   case measure=>simp[intOf];omega
  ·have ht4:(k:Int).tmod 4≠0:=by rw[Int.tmod_eq_emod_of_nonneg (by omega)];omega
   have hm:((k:Int).tmod 4==0)=false:=by simp[ht4]
   have hm2:¬ (k:Int)%4=0:=by omega
   have hm3:((k:Int)%4==0)=false:=by simp[hm2]
   clear hm2 ht4
   have HT2:=mk0 (show tickA l (k+1)=tickA l k by rw[HTN.out,if_neg h4])
   clear h4 HTN
   have HN2:=mk0 (show (wr.setCell ⟨w1.heap.size,1,none⟩ (.int .i64 y)).heap[w1.heap.size]?=some (.cells #[.int .i64 l.length,.int .i64 (lastI l (k+1)),.slice A3 (tickA l (k+1)).length c3] 54 (0,0)) by rw[HT2.out,HLN.out];exact HWA.out.1)
   have HR2:=mk0 (show (Kd.int .i64).R 2 (wr.setCell ⟨w1.heap.size,1,none⟩ (.int .i64 y)) w.heap.size (fun _=>True) (.slice A3 (tickA l (k+1)).length c3) (tickA l (k+1)) by rw[HT2.out];exact HRW.out)
   clear HT2 HRW HWA HLN
   go_wp2
   generalize wr.setCell ⟨w1.heap.size,1,none⟩ (.int .i64 y)=w9 at *
   go_roundw
   case rel=>exact ⟨k+1,A3,c3,by omega,by go_num,HN2,HR2,HBW2,HPW2⟩
   case measure=>simp[intOf];omega
end Go.Proofs.YtcmffaejcnbheaaGreat.Lib0
namespace Go.Proofs.YtcmffaejcnbheaaGreat.Lib0
open Go.RowKit Go.Proofs.YtcmffaejcnbheaaGreatW.PrintWords Go.ChangeMaps
def IdxS (w:World) (l:List Int) (T:TypeId→Prop) (e:Ending) (w':World):Prop:=
 ∃ A' c',e = .returned (.agg #[.int .i64 l.length,.int .i64 (lastI l l.length),.slice A' (tickA l l.length).length c'])∧(Kd.int .i64).R 2 w' w.heap.size (fun _=>True) (.slice A' (tickA l l.length).length c') (tickA l l.length)∧Below w.heap.size w w'
set_option maxHeartbeats 1600000 in
set_option maxRecDepth 100000 in
theorem group_Times {w:World} {g:Nat} {At:Option Addr} {ct:Nat} {ts:List Int} (h0:w.cell? ⟨g,0,none⟩=some (.slice At ts.length ct)) (hC:(Kd.int .i64).C w At ts.length ts) (hn:0<ts.length) (hl:ts.length≤1048576) (hs:SortI ts) :
  Calls Tryz.prog 20 #[.pointer (some ⟨g,0,none⟩)] w (IdxS w ts (fun _=>True)):=by
 have hb:=World.block_lt_of_cell? w _ h0
 obtain ⟨w0,hw0⟩:∃ w0,w0=w.alloc (.cells #[.int .i64 0,.int .i64 0,.slice none 0 0] 54):=⟨_,rfl⟩
 have hn0:=heap_alloc_new w (.cells #[.int .i64 0,.int .i64 0,.slice none 0 0] 54)
 have hb0:=below_alloc (Below.refl w.heap.size w) (.cells #[.int .i64 0,.int .i64 0,.slice none 0 0] 54)
 rw[← hw0] at hn0 hb0
 have x0:w0.cell? ⟨g,0,none⟩=some (.slice At ts.length ct):=(hb0.cell hb).trans h0
 have x0a:(w.alloc (.cells #[.int .i64 0,.int .i64 0,.slice none 0 0] 54)).cell? ⟨g,0,none⟩=some (.slice At ts.length ct):=by rw[← hw0];exact x0
 have HTB:=mk0 (ticks_Build At ct ts w0 (Kd.C_below hC hb0) hn hl hs)
 have HN0:=mk0 hn0
 have HB0:=mk0 hb0
 have hlt0:w.heap.size<w0.heap.size:=(Array.getElem?_eq_some_iff.1 hn0).1
 have HLT:=mk0 hlt0
 clear hn0 hb0 hs hC h0 hlt0 hb x0
 go_enter Tryz.func20,Tryz.ntmps20
 go_wp2_with fail
 rw[← hw0]
 clear hw0
 (with_reducible refine HTB.out.mono ?_)
 rintro e w1 ⟨A1,c1,rfl,hr1,hb1⟩
 have HP1:=mk0 ((hb1.block _ HLT.out).trans HN0.out)
 have HR1:=mk0 hr1
 have HB1:=mk0 (HB0.out.trans (hb1.mono HB0.out.size))
 have hlt1:w.heap.size<w1.heap.size:=Nat.lt_of_lt_of_le HLT.out hb1.size
 clear hr1 hb1 HTB x0a HN0 HB0
 have hx2:=HLT.out
 have p0:=HP1.out
 have q0:=frozen_of_heap (i:=0) p0
 have q1:=frozen_of_heap (i:=1) p0
 have q2:=frozen_of_heap (i:=2) p0
 have y0:=cell_of_heap (i:=0) p0 rfl
 have y1:=cell_of_heap (i:=1) p0 rfl
 have y2:=cell_of_heap (i:=2) p0 rfl
 have hne:¬ w.heap.size=w1.heap.size:=Nat.ne_of_lt hlt1
 have hne2:¬ w1.heap.size=w.heap.size:=fun e=>hne e.symm
 have HSF:=mk0 ((((AtZ.start (base:=w.heap.size) HP1.out).set (Nat.le_refl _) 0 (.int .i64 ts.length)).set (Nat.le_refl _) 1 (.int .i64 (lastI ts ts.length))).set (Nat.le_refl _) 2 (.slice A1 (tickA ts ts.length).length c1))
 have HSF:=mk0 (show AtZ w.heap.size w.heap.size 54 w1 _ #[.int .i64 ts.length,.int .i64 (lastI ts ts.length),.slice A1 (tickA ts ts.length).length c1] from HSF.out)
 have HRF:=mk0 (Kd.R_lower (base':=w.heap.size) (R_moved rfl HR1.out (w':=(((w1.setCell ⟨w.heap.size,0,none⟩ (.int .i64 ts.length)).setCell ⟨w.heap.size,1,none⟩ (.int .i64 (lastI ts ts.length))).setCell ⟨w.heap.size,2,none⟩ (.slice A1 (tickA ts ts.length).length c1))) (fun q hq=>HSF.out.2.1 q (fun e=>R_not_at HR1.out HP1.out (by decide) (by rw[hq,e])))) (Nat.le_of_lt HLT.out))
 clear p0 HR1
 go_wp2_with fail
 generalize (((w1.setCell ⟨w.heap.size,0,none⟩ (.int .i64 ts.length)).setCell ⟨w.heap.size,1,none⟩ (.int .i64 (lastI ts ts.length))).setCell ⟨w.heap.size,2,none⟩ (.slice A1 (tickA ts ts.length).length c1))=Wf at *
 have hltf:w.heap.size<Wf.heap.size:=(Array.getElem?_eq_some_iff.1 HSF.out.1).1
 have g0:∀ o,(Wf.alloc o).cell? ⟨w.heap.size,0,none⟩=_:=fun o=>(World.cell?_alloc_lt Wf o ⟨w.heap.size,0,none⟩ hltf).trans (cell_of_heap (i:=0) HSF.out.1 rfl)
 have g1:∀ o,(Wf.alloc o).cell? ⟨w.heap.size,1,none⟩=_:=fun o=>(World.cell?_alloc_lt Wf o ⟨w.heap.size,1,none⟩ hltf).trans (cell_of_heap (i:=1) HSF.out.1 rfl)
 have g2:∀ o,(Wf.alloc o).cell? ⟨w.heap.size,2,none⟩=_:=fun o=>(World.cell?_alloc_lt Wf o ⟨w.heap.size,2,none⟩ hltf).trans (cell_of_heap (i:=2) HSF.out.1 rfl)
 refine bodyPost_ret (v:=.agg #[.int .i64 ts.length,.int .i64 (lastI ts ts.length),.slice A1 (tickA ts ts.length).length c1]) (by simp[results,Tryz.results20,go_sem,g0,g1,g2]) rfl ?_
 have hbf:=HB1.out.trans HSF.out.2.2
 exact ⟨A1,c1,rfl,Kd.R_alloc HRF.out _,hbf.trans ((below_alloc (Below.refl _ _) _).mono hbf.size)⟩
end Go.Proofs.YtcmffaejcnbheaaGreat.Lib0

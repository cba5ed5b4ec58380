import Derived.Test.YtplnodcbbcdcgaaGreatP35
set_option linter.unusedVariables false
set_option linter.unusedSimpArgs false
namespace Go.Proofs.YtplnodcbbcdcgaaGreat.Lib0
open Go.RowKit Go.Proofs.YtplnodcbbcdcgaaGreatW.PrintWords Go.ChangeMaps
def colT (i:Nat):ByteArray:=if i=0 then ⟨#[97]⟩ else if i=1 then ⟨#[98]⟩ else if i=2 then ⟨#[115]⟩ else ⟨#[116]⟩
def cut3 (s:ByteArray):ByteArray:=if 3<s.size then s.extract 0 3 else s
def tameC (i:Nat) (c:CellM):List CellM:=if c.kind=0 then [] else if i<2 then [⟨colT i,1,c.n.tmod 10,⟨#[]⟩⟩] else [⟨colT i,2,0,cut3 c.s⟩]
def tameCs (l:List CellM):Nat→List CellM
 | 0=>[]
 | k+1=>tameCs l k++(if h:k<l.length then tameC k l[k] else [])
def tameM (t seq:Int) (l:List CellM):RowM:=⟨t.tmod 100,seq,tameCs l 4⟩
theorem tameC_len (i:Nat) (c:CellM):(tameC i c).length≤1:=by unfold tameC;split;simp;split<;>simp
theorem tameCs_len (l:List CellM):∀ k,(tameCs l k).length≤k
 | 0=>by simp[tameCs]
 | k+1=>by
  have h1:=tameCs_len l k
  rw[tameCs,List.length_append]
  split
  ·rename_i h
   have:=tameC_len k l[k]
   omega
  ·simp;omega
theorem tameCs_end (l:List CellM) (k:Nat) (h:l.length≤k):∀ j,tameCs l (k+j)=tameCs l k
 | 0=>rfl
 | j+1=>by
  show tameCs l (k+j+1)=_
  rw[tameCs,dif_neg (by omega),List.append_nil,tameCs_end l k h j]
structure TamS (w V:World) (rb:Nat) (t s:Int) (cs:List CellM):Prop where
 ex:∃ A c,V.heap[rb]?=some (.cells #[.int .i64 t,.int .i64 s,.slice A cs.length c] 37)∧kc.R 39 V w.heap.size (fun _=>True) (.slice A cs.length c) cs∧cs.length≤c
 K:Keep1 rb w V
theorem TamS.below {w V V':World} {rb:Nat} {t s:Int} {cs:List CellM} (h:TamS w V rb t s cs) (hb:Below V.heap.size V V'):TamS w V' rb t s cs:=by
 obtain ⟨A,c,h1,h2,h3⟩:=h.ex
 exact ⟨⟨A,c,(hb.block rb (Array.getElem?_eq_some_iff.1 h1).1).trans h1,Kd.R_below h2 hb,h3⟩,h.K.trans (Keep1.of_below hb)⟩
theorem tam_push {w V V1:World} {rb:Nat} {t s:Int} {cs:List CellM} {y:CellM} {A:Option Addr} {c:Nat} {A1:Option Addr} {c1:Nat} (hK:Keep1 rb w V)
  (h1:V.heap[rb]?=some (.cells #[.int .i64 t,.int .i64 s,.slice A cs.length c] 37)) (h2:kc.R 39 V w.heap.size (fun _=>True) (.slice A cs.length c) cs)
  (hr:kc.R 39 V1 w.heap.size (fun _=>True) (.slice A1 (cs.length+1) c1) (cs++[y])) (hb:Below w.heap.size V V1) (hg:V.grownBy V1 (Value.slice A cs.length c).ownBlock) :
  TamS w (V1.setCell ⟨rb,2,none⟩ (.slice A1 (cs.length+1) c1)) rb t s (cs++[y]):=by
 have e1:=(hg.block rb (Array.getElem?_eq_some_iff.1 h1).1 (fun e=>R_not_at h2 h1 (by decide) e.symm)).trans h1
 obtain ⟨A',c',e,hc,_⟩:=Kd.R_reads hr
 injection e with e2 e3 e4
 subst e2 e4
 have hl:(cs++[y]).length=cs.length+1:=by simp
 refine ⟨⟨A1,c1,?_,?_,hc⟩,(hK.more hb).set 2 _⟩
 ·rw[hl]
  exact heap_setCell_same _ _ 2 _ _ _ e1
 ·have:=R_set_ne rfl hr e1 (by decide) 2 (.slice A1 (cs.length+1) c1)
  rw[hl]
  exact this
theorem four_alloc (w:World) (a b c d:Obj):Below w.heap.size w ((((w.alloc a).alloc b).alloc c).alloc d)∧((((w.alloc a).alloc b).alloc c).alloc d).heap.size=w.heap.size+4∧((((w.alloc a).alloc b).alloc c).alloc d).heap[w.heap.size]?=some a∧
  ((((w.alloc a).alloc b).alloc c).alloc d).heap[w.heap.size+1]?=some b∧((((w.alloc a).alloc b).alloc c).alloc d).heap[w.heap.size+1+1]?=some c∧((((w.alloc a).alloc b).alloc c).alloc d).heap[w.heap.size+1+1+1]?=some d:=by
 have s1:(w.alloc a).heap.size=w.heap.size+1:=by simp
 have na:=heap_alloc_new w a
 have ba:=below_alloc (Below.refl w.heap.size w) a
 generalize w.alloc a=w1 at *
 have s2:(w1.alloc b).heap.size=w.heap.size+1+1:=by simp[s1]
 have nb:=heap_alloc_new w1 b
 have bb:=below_alloc (Below.refl w1.heap.size w1) b
 generalize w1.alloc b=w2 at *
 have s3:(w2.alloc c).heap.size=w.heap.size+1+1+1:=by simp[s2]
 have nc:=heap_alloc_new w2 c
 have bc:=below_alloc (Below.refl w2.heap.size w2) c
 generalize w2.alloc c=w3 at *
 have s4:(w3.alloc d).heap.size=w.heap.size+1+1+1+1:=by simp[s3]
 have nd:=heap_alloc_new w3 d
 have bd:=below_alloc (Below.refl w3.heap.size w3) d
 generalize w3.alloc d=w4 at *
 rw[s1] at nb
 rw[s2] at nc
 rw[s3] at nd
 refine ⟨((ba.trans (bb.mono (by omega))).trans (bc.mono (by omega))).trans (bd.mono (by omega)),by omega,?_,?_,?_,nd⟩
 ·rw[bd.block _ (by omega),bc.block _ (by omega),bb.block _ (by omega)];exact na
 ·rw[bd.block _ (by omega),bc.block _ (by omega)];exact nb
 ·rw[bd.block _ (by omega)];exact nc
def TameR (w:World) (r:RowM) (e:Ending) (w':World):Prop:=
 ∃ A c,e = .returned (.agg #[.int .i64 r.t,.int .i64 r.s,.slice A r.cs.length c])∧r.cs.length≤c∧kc.R 39 w' w.heap.size (fun _=>True) (.slice A r.cs.length c) r.cs∧Below w.heap.size w w'
set_option maxHeartbeats 3200000 in
set_option maxRecDepth 100000 in
theorem keep_Tame (t s0 seq:Int) (A:Option Addr) (c:Nat) (l:List CellM) (w:World) (h:kc.C w A l.length l) (hl:l.length≤9223372036854775807) :
  Calls Tryz.prog 22 #[.agg #[.int .i64 t,.int .i64 s0,.slice A l.length c],.int .i64 seq] w (TameR w (tameM t seq l)):=by
 have HC:=mk0 h
 have hli:(l.length:Int)≤9223372036854775807:=by omega
 clear h
 go_enter Tryz.func22,Tryz.ntmps22
 go_wp2_with fail
 obtain ⟨W,hW⟩:∃ W,W=(((w.alloc (.cells #[.int .i64 t,.int .i64 s0,.slice A l.length c] 37)).alloc (.cells #[.int .i64 0,.int .i64 0,.slice none 0 0] 37)).alloc (.cells #[.int .i64 (t.tmod 100),.int .i64 seq,.slice none 0 0] 37)).alloc (.cells #[.string ⟨#[97]⟩,.string ⟨#[98]⟩,.string ⟨#[115]⟩,.string ⟨#[116]⟩] 9):=⟨_,rfl⟩
 rw[← hW]
 obtain ⟨hbw,hsz,n0,n1,n2,n3⟩:=four_alloc w (.cells #[.int .i64 t,.int .i64 s0,.slice A l.length c] 37) (.cells #[.int .i64 0,.int .i64 0,.slice none 0 0] 37) (.cells #[.int .i64 (t.tmod 100),.int .i64 seq,.slice none 0 0] 37) (.cells #[.string ⟨#[97]⟩,.string ⟨#[98]⟩,.string ⟨#[115]⟩,.string ⟨#[116]⟩] 9)
 rw[← hW] at hbw hsz n0 n1 n2 n3
 clear hW
 have HBW:=mk0 hbw
 have HSZ:=mk0 hsz
 have HN:=mk0 (And.intro n0 (And.intro n1 n3))
 have HT0:Aside0 (TamS W W (w.heap.size+1+1) (t.tmod 100) seq (tameCs l 0)):=⟨⟨none,0,n2,Kd.R_nil _ _ _ _ _,Nat.zero_le _⟩,Keep1.refl _ _⟩
 clear hbw hsz n0 n1 n2 n3
 generalize hp0:w.heap.size=p0 at *
 have HP0:=mk0 hp0
 clear hp0
 go_loopw[17] (fun v17 wr=>∃ (k:Nat),k≤4∧v17 = .int .i64 k∧Aside0 (TamS W wr (p0+1+1) (t.tmod 100) seq (tameCs l k))) (fun i _=>4-(intOf i).toNat)
 case atStart=>exact ⟨0,by omega,rfl,HT0⟩
 case round=>
  clear HT0
  obtain ⟨k,hk,rfl,HT⟩:=hrel
  have hw3:∀ q,q<p0+4→q≠p0+1+1→wr.heap[q]?=W.heap[q]?:=fun q h1 h2=>HT.out.K.block q (by have:=HSZ.out;omega) h2
  have m0:=(hw3 p0 (by omega) (by omega)).trans HN.out.1
  have m3:=(hw3 (p0+1+1+1) (by omega) (by omega)).trans HN.out.2.2
  have x2:=cell_of_heap (i:=2) m0 rfl
  by_cases hk4:k<4
  ·have hk4i:(k:Int)<4:=by omega
   have a0:wr.cell? ⟨p0+1+1+1,k,none⟩=some (.string (colT k)):=by
    have:k=0∨k=1∨k=2∨k=3:=by omega
    rcases this with rfl | rfl | rfl | rfl
    ·exact cell_of_heap (i:=0) m3 rfl
    ·exact cell_of_heap (i:=1) m3 rfl
    ·exact cell_of_heap (i:=2) m3 rfl
    ·exact cell_of_heap (i:=3) m3 rfl
   by_cases hkl:k<l.length
   ·clear hw3 m0 m3
    have d1:decide ((l.length:Int)≤(k:Int))=false:=decide_eq_false (by omega)
    have hkli:(k:Int)<l.length:=by omega
    have hBV:Below p0 w wr:=by
     have h1:=HT.out.K.below (B:=p0) (by omega) (by have:=HSZ.out;omega)
     exact HBW.out.trans h1
    obtain ⟨b,o,rfl,hx⟩:=kc_open (Kd.C_below HC.out (by rw[HP0.out];exact hBV)) (by omega)
    obtain ⟨z0,z1,z2,z3⟩:=hx k hkl
    have HNX:=mk0 (show tameCs l (k+1)=tameCs l k++tameC k l[k] by rw[tameCs,dif_pos hkl])
    generalize l[k]=y at *
    obtain ⟨A2,c2,h1,h2,h3⟩:=HT.out.ex
    have r2:=cell_of_heap (i:=2) h1 rfl
    have rf:=frozen_of_heap (i:=2) h1
    have HTL:=mk0 (show (tameCs l k).length≤1048576 by have:=tameCs_len l k;omega)
    have HK:=mk0 HT.out.K
    have H12:=mk0 (And.intro h1 (And.intro h2 h3))
    generalize hacc:tameCs l k=acc at *
    clear hx h1 h2 h3 hBV
    by_cases hyk:y.kind=0
    ·have hyb:(y.kind==0)=true:=by rw[beq_iff_eq];exact hyk
     have HNY:=mk0 (show tameCs l (k+1)=acc by rw[HNX.out];unfold tameC;rw[if_pos hyk,List.append_nil])
     have HS8:=mk0 (show TamS W (wr.alloc (.cells #[.string y.col,.int .i64 y.kind,.int .i64 y.n,.string y.s] 39)) (p0+1+1) (t.tmod 100) seq (tameCs l (k+1)) by rw[HNY.out];exact TamS.below HT.out (below_alloc (Below.refl wr.heap.size wr) _))
     rw[hyk] at HS8
     go_wp2
     go_roundw
     case rel=>exact ⟨k+1,by omega,by go_num,HS8⟩
     case measure=>simp[intOf];omega
    ·have hyb:(y.kind==0)=false:=by rw[beq_eq_false_iff_ne];exact hyk
     by_cases hk2:k<2
     ·have d2:decide ((k:Int)<2)=true:=decide_eq_true (by omega)
      go_wp2_with fail
      have HNY:=mk0 (show tameCs l (k+1)=acc++[(⟨colT k,1,y.n.tmod 10,⟨#[]⟩⟩:CellM)] by rw[HNX.out];unfold tameC;rw[if_neg hyk,if_pos hk2])
      obtain ⟨W4,hW4⟩:∃ W,W=wr.alloc (.cells #[.string y.col,.int .i64 y.kind,.int .i64 y.n,.string y.s] 39):=⟨_,rfl⟩
      rw[← hW4]
      have hx4:=heap_alloc_new wr (.cells #[.string y.col,.int .i64 y.kind,.int .i64 y.n,.string y.s] 39)
      have hb4:=below_alloc (Below.refl wr.heap.size wr) (.cells #[.string y.col,.int .i64 y.kind,.int .i64 y.n,.string y.s] 39)
      rw[← hW4] at hx4 hb4
      have hrl:=(Array.getElem?_eq_some_iff.1 H12.out.1).1
      have H4:=mk0 (And.intro ((hb4.block _ hrl).trans H12.out.1) (And.intro (Kd.R_below H12.out.2.1 hb4) (HK.out.more (hb4.mono HK.out.size))))
      have xn:=cell_of_heap (i:=2) hx4 rfl
      have hxl:=(Array.getElem?_eq_some_iff.1 hx4).1
      have r2:=cell_of_heap (i:=2) H4.out.1 rfl
      have hrl4:=(Array.getElem?_eq_some_iff.1 H4.out.1).1
      have hne:p0+1+1≠wr.heap.size:=by omega
      have hne2:wr.heap.size≠p0+1+1:=by omega
      have HKN:=mk0 (keep_Num (colT k) (y.n.tmod 10) W4.drew)
      have HX4:=mk0 hx4
      clear hW4 hx4 hb4 z0 z1 z2 z3 rf
      apply cutL4 (Good:=fun w5 w7 A1 c1=>TamS W (w7.setCell ⟨p0+1+1,2,none⟩ (.slice A1 (acc.length+1) c1)) (p0+1+1) (t.tmod 100) seq (acc++[(⟨colT k,1,y.n.tmod 10,⟨#[]⟩⟩:CellM)]))
      ·intro key
       go_region_law (first
        | (go_simp;go_at_call 24;(with_reducible refine HKN.out.mono ?_);rintro e w5 ⟨rfl,b5⟩;have HB5:=mk0 (show Below W4.heap.size W4 w5 from (below_drew W4.heap.size W4).trans b5);have x0a:w5.cell? ⟨wr.heap.size,2,none⟩=some (.int .i64 y.n):=(HB5.out.cell hxl).trans xn;have r2a:w5.cell? ⟨p0+1+1,2,none⟩=some (.slice A2 acc.length c2):=(HB5.out.cell hrl4).trans r2;have x0b:∀ o,(w5.alloc o).cell? ⟨wr.heap.size,2,none⟩=some (.int .i64 y.n):=(fun o=>(World.cell?_alloc_lt _ _ ⟨wr.heap.size,2,none⟩ (Nat.lt_of_lt_of_le hxl HB5.out.size)).trans x0a);have r2b:∀ o,(w5.alloc o).cell? ⟨p0+1+1,2,none⟩=some (.slice A2 acc.length c2):=(fun o=>(World.cell?_alloc_lt _ _ ⟨p0+1+1,2,none⟩ (Nat.lt_of_lt_of_le hrl4 HB5.out.size)).trans r2a);have HB6:=mk0 (HB5.out.trans ((below_alloc (Below.refl w5.heap.size w5) (.cells #[.string (colT k),.int .i64 1,.int .i64 (y.n.tmod 10),.string ⟨#[]⟩] 39)).mono HB5.out.size));have HRV:=mk0 (Kd.R_below H4.out.2.1 HB6.out);have HSV:=mk0 (Nat.le_trans H4.out.2.2.size HB6.out.size);clear b5)
        | (refine kc_flat.one_step (V:=w5.alloc (.cells #[.string (colT k),.int .i64 1,.int .i64 (y.n.tmod 10),.string ⟨#[]⟩] 39)) W.heap.size rfl (.tmp 38) (.tmp 44) 35 39 (.agg #[.string ⟨#[]⟩,.int .i64 0,.int .i64 0,.string ⟨#[]⟩]) 48 rfl Tryz.underlying35 info_cell rfl (by decide) (by decide) (by decide) (.slice A2 acc.length c2) acc (⟨colT k,1,y.n.tmod 10,⟨#[]⟩⟩:CellM) w5.heap.size 39 rfl rfl (heap_alloc_new w5 _) HRV.out HSV.out HTL.out ?_;intro v1 w7 hr7 hb7 hg7 hat7;obtain ⟨A1,c1,hv1⟩:=Kd.R_slice hr7;rw[List.length_append] at hv1;replace hv1:v1 = .slice A1 (acc.length+1) c1:=hv1;subst hv1;have e1:=(hg7.block (p0+1+1) (Nat.lt_of_lt_of_le hrl4 HB6.out.size) (fun e=>R_not_at HRV.out ((HB6.out.block (p0+1+1) hrl4).trans H4.out.1) (by decide) e.symm)).trans ((HB6.out.block (p0+1+1) hrl4).trans H4.out.1);have hne9:(Value.slice A2 acc.length c2).ownBlock≠some wr.heap.size:=(fun e=>by have:=Kd.R_lt H12.out.2.1 _ e;omega);have ex:=(hg7.block wr.heap.size (Nat.lt_of_lt_of_le hxl HB6.out.size) (fun e=>hne9 e.symm)).trans ((HB6.out.block wr.heap.size hxl).trans HX4.out);have HS7:=mk0 (tam_push (H4.out.2.2.more (HB6.out.mono H4.out.2.2.size)) ((HB6.out.block (p0+1+1) hrl4).trans H4.out.1) HRV.out hr7 hb7 hg7);have x0c:w7.cell? ⟨wr.heap.size,2,none⟩=some (.int .i64 y.n):=cell_of_heap (i:=2) ex rfl;have z3c:w7.cell? ⟨p0+1+1,2,none⟩=some (.slice A2 acc.length c2):=cell_of_heap (i:=2) e1 rfl;have z3f:w7.frozen? ⟨p0+1+1,2,none⟩=false:=frozen_of_heap e1;clear hr7 hb7 hg7 hat7 e1 ex hne9))
       all_goals exact key.out w5 w7 A1 c1 HS7.out
      ·intro w5 w7 A1 c1 hs7
       have HS8:=mk0 (show TamS W (w7.setCell ⟨p0+1+1,2,none⟩ (.slice A1 (acc.length+1) c1)) (p0+1+1) (t.tmod 100) seq (tameCs l (k+1)) by rw[HNY.out];exact hs7)
       clear hs7 H4 H12 HKN HX4 xn r2 hrl hrl4 hxl HT HK
       go_wp2
       go_roundw
       case rel=>exact ⟨k+1,by omega,by go_num,HS8⟩
       case measure=>simp[intOf];omega
     ·have d2:decide ((k:Int)<2)=false:=decide_eq_false (by omega)
      by_cases hsz:3<y.s.size
      ·have d3:decide ((3:Int)<y.s.size)=true:=decide_eq_true (by omega)
       have d4:(3:Int)≤y.s.size:=by omega
       go_wp2_with fail
       have HNY:=mk0 (show tameCs l (k+1)=acc++[(⟨colT k,2,0,y.s.extract 0 3⟩:CellM)] by rw[HNX.out];unfold tameC;rw[if_neg hyk,if_neg hk2,show cut3 y.s=y.s.extract 0 3 from if_pos hsz])
       obtain ⟨W4,hW4⟩:∃ W,W=wr.alloc (.cells #[.string y.col,.int .i64 y.kind,.int .i64 y.n,.string y.s] 39):=⟨_,rfl⟩
       rw[← hW4]
       have hx4:=heap_alloc_new wr (.cells #[.string y.col,.int .i64 y.kind,.int .i64 y.n,.string y.s] 39)
       have hb4:=below_alloc (Below.refl wr.heap.size wr) (.cells #[.string y.col,.int .i64 y.kind,.int .i64 y.n,.string y.s] 39)
       rw[← hW4] at hx4 hb4
       have hrl:=(Array.getElem?_eq_some_iff.1 H12.out.1).1
       have H4:=mk0 (And.intro ((hb4.block _ hrl).trans H12.out.1) (And.intro (Kd.R_below H12.out.2.1 hb4) (HK.out.more (hb4.mono HK.out.size))))
       have xn:=cell_of_heap (i:=3) hx4 rfl
       have hxl:=(Array.getElem?_eq_some_iff.1 hx4).1
       have r2:=cell_of_heap (i:=2) H4.out.1 rfl
       have hrl4:=(Array.getElem?_eq_some_iff.1 H4.out.1).1
       have hne:p0+1+1≠wr.heap.size:=by omega
       have hne2:wr.heap.size≠p0+1+1:=by omega
       have HKN:=mk0 (keep_Str (colT k) (y.s.extract 0 3) W4.drew)
       have HX4:=mk0 hx4
       clear hW4 hx4 hb4 z0 z1 z2 z3 rf
       apply cutL4 (Good:=fun w5 w7 A1 c1=>TamS W (w7.setCell ⟨p0+1+1,2,none⟩ (.slice A1 (acc.length+1) c1)) (p0+1+1) (t.tmod 100) seq (acc++[(⟨colT k,2,0,y.s.extract 0 3⟩:CellM)]))
       ·intro key
        go_region_law (first
         | (go_simp;go_at_call 40;(with_reducible refine HKN.out.mono ?_);rintro e w5 ⟨rfl,b5⟩;have HB5:=mk0 (show Below W4.heap.size W4 w5 from (below_drew W4.heap.size W4).trans b5);have x0a:w5.cell? ⟨wr.heap.size,3,none⟩=some (.string y.s):=(HB5.out.cell hxl).trans xn;have r2a:w5.cell? ⟨p0+1+1,2,none⟩=some (.slice A2 acc.length c2):=(HB5.out.cell hrl4).trans r2;have x0b:∀ o,(w5.alloc o).cell? ⟨wr.heap.size,3,none⟩=some (.string y.s):=(fun o=>(World.cell?_alloc_lt _ _ ⟨wr.heap.size,3,none⟩ (Nat.lt_of_lt_of_le hxl HB5.out.size)).trans x0a);have r2b:∀ o,(w5.alloc o).cell? ⟨p0+1+1,2,none⟩=some (.slice A2 acc.length c2):=(fun o=>(World.cell?_alloc_lt _ _ ⟨p0+1+1,2,none⟩ (Nat.lt_of_lt_of_le hrl4 HB5.out.size)).trans r2a);have HB6:=mk0 (HB5.out.trans ((below_alloc (Below.refl w5.heap.size w5) (.cells #[.string (colT k),.int .i64 2,.int .i64 0,.string (y.s.extract 0 3)] 39)).mono HB5.out.size));have HRV:=mk0 (Kd.R_below H4.out.2.1 HB6.out);have HSV:=mk0 (Nat.le_trans H4.out.2.2.size HB6.out.size);clear b5)
         | (refine kc_flat.one_step (V:=w5.alloc (.cells #[.string (colT k),.int .i64 2,.int .i64 0,.string (y.s.extract 0 3)] 39)) W.heap.size rfl (.tmp 55) (.tmp 59) 35 39 (.agg #[.string ⟨#[]⟩,.int .i64 0,.int .i64 0,.string ⟨#[]⟩]) 48 rfl Tryz.underlying35 info_cell rfl (by decide) (by decide) (by decide) (.slice A2 acc.length c2) acc (⟨colT k,2,0,y.s.extract 0 3⟩:CellM) w5.heap.size 39 rfl rfl (heap_alloc_new w5 _) HRV.out HSV.out HTL.out ?_;intro v1 w7 hr7 hb7 hg7 hat7;obtain ⟨A1,c1,hv1⟩:=Kd.R_slice hr7;rw[List.length_append] at hv1;replace hv1:v1 = .slice A1 (acc.length+1) c1:=hv1;subst hv1;have e1:=(hg7.block (p0+1+1) (Nat.lt_of_lt_of_le hrl4 HB6.out.size) (fun e=>R_not_at HRV.out ((HB6.out.block (p0+1+1) hrl4).trans H4.out.1) (by decide) e.symm)).trans ((HB6.out.block (p0+1+1) hrl4).trans H4.out.1);have hne9:(Value.slice A2 acc.length c2).ownBlock≠some wr.heap.size:=(fun e=>by have:=Kd.R_lt H12.out.2.1 _ e;omega);have ex:=(hg7.block wr.heap.size (Nat.lt_of_lt_of_le hxl HB6.out.size) (fun e=>hne9 e.symm)).trans ((HB6.out.block wr.heap.size hxl).trans HX4.out);have HS7:=mk0 (tam_push (H4.out.2.2.more (HB6.out.mono H4.out.2.2.size)) ((HB6.out.block (p0+1+1) hrl4).trans H4.out.1) HRV.out hr7 hb7 hg7);have x0c:w7.cell? ⟨wr.heap.size,3,none⟩=some (.string y.s):=cell_of_heap (i:=3) ex rfl;have z3c:w7.cell? ⟨p0+1+1,2,none⟩=some (.slice A2 acc.length c2):=cell_of_heap (i:=2) e1 rfl;have z3f:w7.frozen? ⟨p0+1+1,2,none⟩=false:=frozen_of_heap e1;clear hr7 hb7 hg7 hat7 e1 ex hne9))
        all_goals exact key.out w5 w7 A1 c1 HS7.out
       ·intro w5 w7 A1 c1 hs7
        have HS8:=mk0 (show TamS W (w7.setCell ⟨p0+1+1,2,none⟩ (.slice A1 (acc.length+1) c1)) (p0+1+1) (t.tmod 100) seq (tameCs l (k+1)) by rw[HNY.out];exact hs7)
        clear hs7 H4 H12 HKN HX4 xn r2 hrl hrl4 hxl HT HK
        go_wp2
        go_roundw
        case rel=>exact ⟨k+1,by omega,by go_num,HS8⟩
        case measure=>simp[intOf];omega
      ·have d3:decide ((3:Int)<y.s.size)=false:=decide_eq_false (by omega)
       go_wp2_with fail
       have HNY:=mk0 (show tameCs l (k+1)=acc++[(⟨colT k,2,0,y.s⟩:CellM)] by rw[HNX.out];unfold tameC;rw[if_neg hyk,if_neg hk2,show cut3 y.s=y.s from if_neg hsz])
       obtain ⟨W4,hW4⟩:∃ W,W=wr.alloc (.cells #[.string y.col,.int .i64 y.kind,.int .i64 y.n,.string y.s] 39):=⟨_,rfl⟩
       rw[← hW4]
       have hx4:=heap_alloc_new wr (.cells #[.string y.col,.int .i64 y.kind,.int .i64 y.n,.string y.s] 39)
       have hb4:=below_alloc (Below.refl wr.heap.size wr) (.cells #[.string y.col,.int .i64 y.kind,.int .i64 y.n,.string y.s] 39)
       rw[← hW4] at hx4 hb4
       have hrl:=(Array.getElem?_eq_some_iff.1 H12.out.1).1
       have H4:=mk0 (And.intro ((hb4.block _ hrl).trans H12.out.1) (And.intro (Kd.R_below H12.out.2.1 hb4) (HK.out.more (hb4.mono HK.out.size))))
       have xn:=cell_of_heap (i:=3) hx4 rfl
       have hxl:=(Array.getElem?_eq_some_iff.1 hx4).1
       have r2:=cell_of_heap (i:=2) H4.out.1 rfl
       have hrl4:=(Array.getElem?_eq_some_iff.1 H4.out.1).1
       have hne:p0+1+1≠wr.heap.size:=by omega
       have hne2:wr.heap.size≠p0+1+1:=by omega
       have HKN:=mk0 (keep_Str (colT k) (y.s) W4.drew)
       have HX4:=mk0 hx4
       clear hW4 hx4 hb4 z0 z1 z2 z3 rf
       apply cutL4 (Good:=fun w5 w7 A1 c1=>TamS W (w7.setCell ⟨p0+1+1,2,none⟩ (.slice A1 (acc.length+1) c1)) (p0+1+1) (t.tmod 100) seq (acc++[(⟨colT k,2,0,y.s⟩:CellM)]))
       ·intro key
        go_region_law (first
         | (go_simp;go_at_call 40;(with_reducible refine HKN.out.mono ?_);rintro e w5 ⟨rfl,b5⟩;have HB5:=mk0 (show Below W4.heap.size W4 w5 from (below_drew W4.heap.size W4).trans b5);have x0a:w5.cell? ⟨wr.heap.size,3,none⟩=some (.string y.s):=(HB5.out.cell hxl).trans xn;have r2a:w5.cell? ⟨p0+1+1,2,none⟩=some (.slice A2 acc.length c2):=(HB5.out.cell hrl4).trans r2;have x0b:∀ o,(w5.alloc o).cell? ⟨wr.heap.size,3,none⟩=some (.string y.s):=(fun o=>(World.cell?_alloc_lt _ _ ⟨wr.heap.size,3,none⟩ (Nat.lt_of_lt_of_le hxl HB5.out.size)).trans x0a);have r2b:∀ o,(w5.alloc o).cell? ⟨p0+1+1,2,none⟩=some (.slice A2 acc.length c2):=(fun o=>(World.cell?_alloc_lt _ _ ⟨p0+1+1,2,none⟩ (Nat.lt_of_lt_of_le hrl4 HB5.out.size)).trans r2a);have HB6:=mk0 (HB5.out.trans ((below_alloc (Below.refl w5.heap.size w5) (.cells #[.string (colT k),.int .i64 2,.int .i64 0,.string (y.s)] 39)).mono HB5.out.size));have HRV:=mk0 (Kd.R_below H4.out.2.1 HB6.out);have HSV:=mk0 (Nat.le_trans H4.out.2.2.size HB6.out.size);clear b5)
         | (refine kc_flat.one_step (V:=w5.alloc (.cells #[.string (colT k),.int .i64 2,.int .i64 0,.string (y.s)] 39)) W.heap.size rfl (.tmp 55) (.tmp 59) 35 39 (.agg #[.string ⟨#[]⟩,.int .i64 0,.int .i64 0,.string ⟨#[]⟩]) 48 rfl Tryz.underlying35 info_cell rfl (by decide) (by decide) (by decide) (.slice A2 acc.length c2) acc (⟨colT k,2,0,y.s⟩:CellM) w5.heap.size 39 rfl rfl (heap_alloc_new w5 _) HRV.out HSV.out HTL.out ?_;intro v1 w7 hr7 hb7 hg7 hat7;obtain ⟨A1,c1,hv1⟩:=Kd.R_slice hr7;rw[List.length_append] at hv1;replace hv1:v1 = .slice A1 (acc.length+1) c1:=hv1;subst hv1;have e1:=(hg7.block (p0+1+1) (Nat.lt_of_lt_of_le hrl4 HB6.out.size) (fun e=>R_not_at HRV.out ((HB6.out.block (p0+1+1) hrl4).trans H4.out.1) (by decide) e.symm)).trans ((HB6.out.block (p0+1+1) hrl4).trans H4.out.1);have hne9:(Value.slice A2 acc.length c2).ownBlock≠some wr.heap.size:=(fun e=>by have:=Kd.R_lt H12.out.2.1 _ e;omega);have ex:=(hg7.block wr.heap.size (Nat.lt_of_lt_of_le hxl HB6.out.size) (fun e=>hne9 e.symm)).trans ((HB6.out.block wr.heap.size hxl).trans HX4.out);have HS7:=mk0 (tam_push (H4.out.2.2.more (HB6.out.mono H4.out.2.2.size)) ((HB6.out.block (p0+1+1) hrl4).trans H4.out.1) HRV.out hr7 hb7 hg7);have x0c:w7.cell? ⟨wr.heap.size,3,none⟩=some (.string y.s):=cell_of_heap (i:=3) ex rfl;have z3c:w7.cell? ⟨p0+1+1,2,none⟩=some (.slice A2 acc.length c2):=cell_of_heap (i:=2) e1 rfl;have z3f:w7.frozen? ⟨p0+1+1,2,none⟩=false:=frozen_of_heap e1;clear hr7 hb7 hg7 hat7 e1 ex hne9))
        all_goals exact key.out w5 w7 A1 c1 HS7.out
       ·intro w5 w7 A1 c1 hs7
        have HS8:=mk0 (show TamS W (w7.setCell ⟨p0+1+1,2,none⟩ (.slice A1 (acc.length+1) c1)) (p0+1+1) (t.tmod 100) seq (tameCs l (k+1)) by rw[HNY.out];exact hs7)
        clear hs7 H4 H12 HKN HX4 xn r2 hrl hrl4 hxl HT HK
        go_wp2
        go_roundw
        case rel=>exact ⟨k+1,by omega,by go_num,HS8⟩
        case measure=>simp[intOf];omega
   ·have d1:decide ((l.length:Int)≤(k:Int))=true:=decide_eq_true (by omega)
    obtain ⟨A2,c2,h1,h2,h3⟩:=HT.out.ex
    have m1:=(hw3 (p0+1) (by omega) (by omega)).trans HN.out.2.1
    have hcs:tameCs l k=tameCs l 4:=by
      have:=tameCs_end l k (by omega) (4-k)
      rw[show k+(4-k)=4 by omega] at this
      exact this.symm
    rw[hcs] at h1 h2 h3
    have HK:=mk0 HT.out.K
    clear hcs HT
    obtain ⟨acc,hacc⟩:∃ acc,acc=tameCs l 4:=⟨_,rfl⟩
    have HAC:=mk0 hacc
    rw[← hacc] at h1 h2 h3
    clear hacc
    have c0:=cell_of_heap (i:=0) h1 rfl
    have c1:=cell_of_heap (i:=1) h1 rfl
    have c2':=cell_of_heap (i:=2) h1 rfl
    have d0:=cell_of_heap (i:=0) m1 rfl
    have d1':=cell_of_heap (i:=1) m1 rfl
    have d2:=cell_of_heap (i:=2) m1 rfl
    have e0:=frozen_of_heap (i:=0) m1
    have e1:=frozen_of_heap (i:=1) m1
    have e2:=frozen_of_heap (i:=2) m1
    have s3:=set3 m1 (.int .i64 (t.tmod 100)) (.int .i64 seq) (.slice A2 acc.length c2)
    have G:=mk0 (And.intro (cell_of_heap (i:=0) s3 rfl) (And.intro (cell_of_heap (i:=1) s3 rfl) (cell_of_heap (i:=2) s3 rfl)))
    have HBF:=mk0 ((((HBW.out.trans (HK.out.below (B:=p0) (by omega) (by have:=HSZ.out;omega))).setCell (p:=⟨p0+1,0,none⟩) (by show p0≤p0+1;omega) (.int .i64 (t.tmod 100))).setCell (p:=⟨p0+1,1,none⟩) (by show p0≤p0+1;omega) (.int .i64 seq)).setCell (p:=⟨p0+1,2,none⟩) (by show p0≤p0+1;omega) (.slice A2 acc.length c2))
    have HRF:=mk0 (R_set_ne rfl (R_set_ne rfl (R_set_ne rfl (Kd.R_lower (base':=p0) h2 (by have:=HSZ.out;omega)) m1 (by decide) 0 (.int .i64 (t.tmod 100))) (heap_at_setCell m1) (by decide) 1 (.int .i64 seq)) (heap_at_setCell (heap_at_setCell m1)) (by decide) 2 (.slice A2 acc.length c2))
    have HC2:=mk0 h3
    clear h1 h2 h3 m0 m1 m3 s3 hw3
    go_wp2
    generalize ((wr.setCell ⟨p0+1,0,none⟩ (.int .i64 (t.tmod 100))).setCell ⟨p0+1,1,none⟩ (.int .i64 seq)).setCell ⟨p0+1,2,none⟩ (.slice A2 acc.length c2)=Wf at *
    obtain ⟨g0,g1,g2⟩:=G.out
    refine bodyPost_ret (v:=.agg #[.int .i64 (t.tmod 100),.int .i64 seq,.slice A2 acc.length c2]) (by simp[results,Tryz.results22,go_sem,g0,g1,g2]) rfl ?_
    refine ⟨A2,c2,?_,?_,?_,?_⟩
    ·show Ending.returned _=Ending.returned (.agg #[.int .i64 (t.tmod 100),.int .i64 seq,.slice A2 (tameCs l 4).length c2])
     rw[← HAC.out]
    ·show (tameCs l 4).length≤c2
     rw[← HAC.out];exact HC2.out
    ·show kc.R _ Wf _ _ (.slice A2 (tameCs l 4).length c2) (tameCs l 4)
     rw[← HAC.out,HP0.out];exact HRF.out
    ·rw[HP0.out];exact HBF.out
  ·have hk5:k=4:=by omega
   subst hk5
   obtain ⟨A2,c2,h1,h2,h3⟩:=HT.out.ex
   have m1:=(hw3 (p0+1) (by omega) (by omega)).trans HN.out.2.1
   have HK:=mk0 HT.out.K
   clear HT
   obtain ⟨acc,hacc⟩:∃ acc,acc=tameCs l 4:=⟨_,rfl⟩
   have HAC:=mk0 hacc
   rw[← hacc] at h1 h2 h3
   clear hacc
   have c0:=cell_of_heap (i:=0) h1 rfl
   have c1:=cell_of_heap (i:=1) h1 rfl
   have c2':=cell_of_heap (i:=2) h1 rfl
   have d0:=cell_of_heap (i:=0) m1 rfl
   have d1':=cell_of_heap (i:=1) m1 rfl
   have d2:=cell_of_heap (i:=2) m1 rfl
   have e0:=frozen_of_heap (i:=0) m1
   have e1:=frozen_of_heap (i:=1) m1
   have e2:=frozen_of_heap (i:=2) m1
   have s3:=set3 m1 (.int .i64 (t.tmod 100)) (.int .i64 seq) (.slice A2 acc.length c2)
   have G:=mk0 (And.intro (cell_of_heap (i:=0) s3 rfl) (And.intro (cell_of_heap (i:=1) s3 rfl) (cell_of_heap (i:=2) s3 rfl)))
   have HBF:=mk0 ((((HBW.out.trans (HK.out.below (B:=p0) (by omega) (by have:=HSZ.out;omega))).setCell (p:=⟨p0+1,0,none⟩) (by show p0≤p0+1;omega) (.int .i64 (t.tmod 100))).setCell (p:=⟨p0+1,1,none⟩) (by show p0≤p0+1;omega) (.int .i64 seq)).setCell (p:=⟨p0+1,2,none⟩) (by show p0≤p0+1;omega) (.slice A2 acc.length c2))
   have HRF:=mk0 (R_set_ne rfl (R_set_ne rfl (R_set_ne rfl (Kd.R_lower (base':=p0) h2 (by have:=HSZ.out;omega)) m1 (by decide) 0 (.int .i64 (t.tmod 100))) (heap_at_setCell m1) (by decide) 1 (.int .i64 seq)) (heap_at_setCell (heap_at_setCell m1)) (by decide) 2 (.slice A2 acc.length c2))
   have HC2:=mk0 h3
   clear h1 h2 h3 m0 m1 m3 s3 hw3
   go_wp2
   generalize ((wr.setCell ⟨p0+1,0,none⟩ (.int .i64 (t.tmod 100))).setCell ⟨p0+1,1,none⟩ (.int .i64 seq)).setCell ⟨p0+1,2,none⟩ (.slice A2 acc.length c2)=Wf at *
   obtain ⟨g0,g1,g2⟩:=G.out
   refine bodyPost_ret (v:=.agg #[.int .i64 (t.tmod 100),.int .i64 seq,.slice A2 acc.length c2]) (by simp[results,Tryz.results22,go_sem,g0,g1,g2]) rfl ?_
   refine ⟨A2,c2,?_,?_,?_,?_⟩
   ·show Ending.returned _=Ending.returned (.agg #[.int .i64 (t.tmod 100),.int .i64 seq,.slice A2 (tameCs l 4).length c2])
    rw[← HAC.out]
   ·show (tameCs l 4).length≤c2
    rw[← HAC.out];exact HC2.out
   ·show kc.R _ Wf _ _ (.slice A2 (tameCs l 4).length c2) (tameCs l 4)
    rw[← HAC.out,HP0.out];exact HRF.out
   ·rw[HP0.out];exact HBF.out
end Go.Proofs.YtplnodcbbcdcgaaGreat.Lib0

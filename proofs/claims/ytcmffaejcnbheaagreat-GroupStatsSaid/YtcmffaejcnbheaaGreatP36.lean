import Derived.Test.YtcmffaejcnbheaaGreatP35
set_option linter.unusedVariables false
set_option linter.unusedSimpArgs false
namespace Go.Proofs.YtcmffaejcnbheaaGreat.Lib0
open Go.RowKit Go.Proofs.YtcmffaejcnbheaaGreatW.PrintWords Go.ChangeMaps
def StatG (n lo hi:Int) (zs:List ZoneE) (es:List BloomM) (w:World) (e:Ending) (w':World):Prop:=
 ∃ (Az:Option Addr) (cz:Nat) (Ab:Option Addr) (cb:Nat) (E:List BloomE) (L:List (List UInt8)),e = .returned (.agg #[.int .i64 n,.int .i64 lo,.int .i64 hi,.slice Az zs.length cz,.slice Ab E.length cb])∧
  kz.C w' Az zs.length zs∧kb.C w' Ab E.length E∧BlR w' w.heap.size E L∧bloomsM E L=es∧Below w.heap.size w w'
theorem cutL3w {Good:World→Option Addr→Nat→Prop} {Pp:World→Option Addr→Nat→Prop} {G:Prop} (h:Aside0 (∀ a b c,Good a b c→Pp a b c)→G) (k:∀ a b c,Good a b c→Pp a b c):G:=h ⟨k⟩
theorem kb_open {w:World} {A:Option Addr} {n:Nat} {l:List BloomE} (h:kb.C w A n l) (hn:0<l.length) :
  ∃ b o,A=some ⟨b,o,none⟩∧∀ k (hk:k<l.length),w.cell? ⟨b,o+k*3,none⟩=some (.string l[k].col)∧w.cell? ⟨b,o+k*3+1,none⟩=some (.int .i64 l[k].bits)∧w.cell? ⟨b,o+k*3+2,none⟩=some (.slice l[k].A l[k].n l[k].c):=by
 obtain ⟨ad,rfl,hc⟩:=h.2.2 (by have:=h.1;omega)
 have hx:∀ k (hk:k<l.length) i u,l[k].cells[i]?=some u→w.cell? (ad.add (k*3+i))=some u:=fun k hk i u hu=>by
  obtain ⟨c,hl,hk',hcell⟩:=hc k _ (List.getElem?_eq_getElem hk)
  have hk2:=kb_K hk'
  subst hk2
  exact hcell i u hu
 have hs:ad.spot=none:=by
  have:=hx 0 hn 0 _ rfl
  have e0:ad.add (0*3+0)=ad:=by simp[Addr.add]
  rw[e0] at this
  exact cell_plain this
 obtain ⟨b,o,sp⟩:=ad
 simp only at hs
 subst hs
 have e1:∀ k,(⟨b,o,none⟩:Addr).add k=⟨b,o+k,none⟩:=fun k=>by unfold Addr.add;split<;>simp_all
 refine ⟨b,o,rfl,fun k hk=>⟨?_,?_,?_⟩⟩
 ·have:=hx k hk 0 _ rfl
  rwa [e1,Nat.add_zero] at this
 ·have:=hx k hk 1 _ rfl
  rwa [e1,← Nat.add_assoc] at this
 ·have:=hx k hk 2 _ rfl
  rwa [e1,← Nat.add_assoc] at this
theorem bloomsM_set:∀ (E:List BloomE) (L:List (List UInt8)) (i:Nat) (h:i<E.length) (x:BloomE),x.col=E[i].col→x.bits=E[i].bits→bloomsM (E.set i x) L=bloomsM E L
 | e :: E,[],0,_,x,_,_=>rfl
 | e :: E,[],i+1,_,x,_,_=>rfl
 | e :: E,b :: L,0,_,x,h1,h2=>by
  show (⟨x.col,x.bits,b⟩:BloomM) :: bloomsM E L=⟨e.col,e.bits,b⟩ :: bloomsM E L
  rw[show x.col=e.col from h1,show x.bits=e.bits from h2]
 | e :: E,b :: L,i+1,h,x,h1,h2=>by
  show (⟨e.col,e.bits,b⟩:BloomM) :: bloomsM (E.set i x) L=⟨e.col,e.bits,b⟩ :: bloomsM E L
  rw[bloomsM_set E L i (by simpa using h) x h1 h2]
structure StL (w0 wr:World) (sb lo3:Nat) (cs:Array Value) (A:Option Addr) (c:Nat) (vz:Value) (zs:List ZoneE) (E E':List BloomE) (L:List (List UInt8)) (i:Nat):Prop where
 R:kb.R 69 wr lo3 (fun _=>True) (.slice A E'.length c) E'
 len:E'.length=E.length
 hd:bloomsM E' L=bloomsM E L
 old:∀ k (h1:k<E'.length) (h2:k<E.length),i≤k→E'[k]=E[k]
 new:∀ k (h1:k<E'.length) (h2:k<L.length),k<i→E'[k].n=L[k].length∧L[k].length≤E'[k].c∧u8.R 5 wr w0.heap.size (fun _=>True) (.slice E'[k].A E'[k].n E'[k].c) L[k]
 S:wr.heap[sb]?=some (.cells cs 45 (0,0))
 Z:kz.R 62 wr w0.heap.size (fun _=>True) vz zs
 B:Below w0.heap.size w0 wr
theorem stl_next {w0 wr w6:World} {sb lo3 lo6 b4:Nat} {cs:Array Value} {c:Nat} {vz:Value} {zs:List ZoneE} {E E':List BloomE} {L:List (List UInt8)} {i:Nat} (h:StL w0 wr sb lo3 cs (some ⟨b4,0,none⟩) c vz zs E E' L i) (hi:i<E'.length) (hiL:i<L.length) (h3:w0.heap.size≤lo3)
  {A6:Option Addr} {c6:Nat} (hb:Below wr.heap.size wr w6) (hr:u8.R 5 w6 lo6 (fun _=>True) (.slice A6 L[i].length c6) L[i]) (hlo:w0.heap.size≤lo6) :
  StL w0 (w6.setCell ⟨b4,i*3+2,none⟩ (.slice A6 L[i].length c6)) sb lo3 cs (some ⟨b4,0,none⟩) c vz zs E (E'.set i ⟨E'[i].col,E'[i].bits,A6,L[i].length,c6⟩) L (i+1):=by
 have hR6:=Kd.R_below h.R hb
 obtain ⟨g',cap,cur,e4,hbg,hh,_,_,_,_⟩:=kb_flat.R_open hR6 (by omega)
 obtain ⟨rfl,rfl⟩:b4=g'∧c=cap:=by simpa using e4
 have hS6:=(hb.block sb (Array.getElem?_eq_some_iff.1 h.S).1).trans h.S
 have hl:(E'.set i (⟨E'[i].col,E'[i].bits,A6,L[i].length,c6⟩:BloomE)).length=E'.length:=List.length_set
 have hput:=kb_flat.R_put hR6 i hi 2 (by decide) (.slice A6 L[i].length c6) ⟨E'[i].col,E'[i].bits,A6,L[i].length,c6⟩ rfl
 refine ⟨by rw[hl];exact hput,hl.trans h.len,(bloomsM_set E' L i hi ⟨E'[i].col,E'[i].bits,A6,L[i].length,c6⟩ rfl rfl).trans h.hd,fun k k1 k2 k3=>?_,fun k k1 k2 k3=>?_,?_,R_set_ne rfl (Kd.R_below h.Z hb) hh (by decide) _ _,(h.B.trans (hb.mono h.B.size)).setCell (p:=⟨b4,i*3+2,none⟩) (Nat.le_trans h3 hbg) _⟩
 ·rw[List.getElem_set_ne (by omega)]
  exact h.old k (by rw[hl] at k1;exact k1) k2 (by omega)
 ·by_cases e:k=i
  ·subst e
   simp only[List.getElem_set_self]
   exact ⟨by first | rfl | trivial,(Kd.R_reads' hr).2.1,R_set_ne rfl (Kd.R_lower hr hlo) hh (by decide) _ _⟩
  ·rw[hl] at k1
   have:=h.new k k1 k2 (by omega)
   simp only[List.getElem_set_ne (Ne.symm e)]
   exact ⟨this.1,this.2.1,R_set_ne rfl (Kd.R_below this.2.2 hb) hh (by decide) _ _⟩
 ·refine (Below.heap_setCell _ _ _ _ ?_).trans hS6
  show sb≠b4
  intro e
  rw[e,hh] at hS6
  simp at hS6
set_option maxHeartbeats 6400000 in
set_option maxRecDepth 100000 in
theorem group_Stats {w:World} {g:Nat} {At:Option Addr} {nt ct:Nat} {As:Option Addr} {ns cs:Nat} {Ap:Option Addr} {np cp:Nat} {on st:Int} {Ar:Option Addr} {nr cr:Nat} {n lo hi:Int} {Az:Option Addr} {cz:Nat} {Ab:Option Addr} {cb:Nat} {zs:List ZoneE} {E:List BloomE} {L:List (List UInt8)}
  (hg:w.heap[g]?=some (.cells (gC At nt ct As ns cs Ap np cp on st Ar nr cr n lo hi Az zs.length cz Ab E.length cb) 112 (0,0)))
  (hz:kz.C w Az zs.length zs) (hb:kb.C w Ab E.length E) (hEL:E.length=L.length) (hB:∀ i (h1:i<E.length) (h2:i<L.length),E[i].n=L[i].length∧u8.C w E[i].A L[i].length L[i])
  (hzl:zs.length≤65536) (hel:E.length≤65536) (hLl:∀ b ∈ L,b.length≤1099511627776) :
  Calls Tryz.prog 18 #[.pointer (some ⟨g,0,none⟩)] w (StatG n lo hi zs (bloomsM E L) w):=by
 have mixed:Tryz.prog.follows .mixedOrders=true:=by kernel_rfl
 have late:Tryz.prog.follows .lateStores=true:=by kernel_rfl
 have hgl:=(Array.getElem?_eq_some_iff.1 hg).1
 obtain ⟨w0,hw0⟩:∃ w0,w0=w.alloc (.cells #[.int .i64 0,.int .i64 0,.int .i64 0,.slice none 0 0,.slice none 0 0] 45):=⟨_,rfl⟩
 have hn0:=heap_alloc_new w (.cells #[.int .i64 0,.int .i64 0,.int .i64 0,.slice none 0 0,.slice none 0 0] 45)
 have hb0:=below_alloc (Below.refl w.heap.size w) (.cells #[.int .i64 0,.int .i64 0,.int .i64 0,.slice none 0 0,.slice none 0 0] 45)
 rw[← hw0] at hn0 hb0
 have HN0:=mk0 hn0
 have HB0:=mk0 hb0
 have hg0:=(hb0.block g hgl).trans hg
 have HZ:=mk0 (Kd.C_below hz hb0)
 have HB:=mk0 (Kd.C_below hb hb0)
 have HBB:=mk0 (show ∀ i (h1:i<E.length) (h2:i<L.length),E[i].n=L[i].length∧u8.C w0 E[i].A L[i].length L[i] from fun i h1 h2=>⟨(hB i h1 h2).1,Kd.C_below (hB i h1 h2).2 hb0⟩)
 have y7:w0.cell? ⟨g,7,none⟩=some (.int .i64 n):=cell_of_heap (i:=7) hg0 rfl
 have y8:w0.cell? ⟨g,8,none⟩=some (.int .i64 lo):=cell_of_heap (i:=8) hg0 rfl
 have y9:w0.cell? ⟨g,9,none⟩=some (.int .i64 hi):=cell_of_heap (i:=9) hg0 rfl
 have y10:w0.cell? ⟨g,10,none⟩=some (.slice Az zs.length cz):=cell_of_heap (i:=10) hg0 rfl
 have y11:w0.cell? ⟨g,11,none⟩=some (.slice Ab E.length cb):=cell_of_heap (i:=11) hg0 rfl
 have y7a:∀ o,(w.alloc o).cell? ⟨g,7,none⟩=some (.int .i64 n):=fun o=>(World.cell?_alloc_lt _ _ ⟨g,7,none⟩ hgl).trans (cell_of_heap (i:=7) hg rfl)
 have y8a:∀ o,(w.alloc o).cell? ⟨g,8,none⟩=some (.int .i64 lo):=fun o=>(World.cell?_alloc_lt _ _ ⟨g,8,none⟩ hgl).trans (cell_of_heap (i:=8) hg rfl)
 have y9a:∀ o,(w.alloc o).cell? ⟨g,9,none⟩=some (.int .i64 hi):=fun o=>(World.cell?_alloc_lt _ _ ⟨g,9,none⟩ hgl).trans (cell_of_heap (i:=9) hg rfl)
 have y10a:∀ o,(w.alloc o).cell? ⟨g,10,none⟩=some (.slice Az zs.length cz):=fun o=>(World.cell?_alloc_lt _ _ ⟨g,10,none⟩ hgl).trans (cell_of_heap (i:=10) hg rfl)
 have y11a:∀ o,(w.alloc o).cell? ⟨g,11,none⟩=some (.slice Ab E.length cb):=fun o=>(World.cell?_alloc_lt _ _ ⟨g,11,none⟩ hgl).trans (cell_of_heap (i:=11) hg rfl)
 have HLL:=mk0 hLl
 have HEL:=mk0 hEL
 have HZL:=mk0 hzl
 have HEB:=mk0 hel
 clear hg hz hb hB hn0 hb0 hg0 hLl hEL hzl
 go_enter Tryz.func18,Tryz.ntmps18
 go_wp2_with fail
 rw[← hw0]
 have hws:w0.heap.size=w.heap.size+1:=by rw[hw0];simp
 have HWS:=mk0 hws
 clear hw0 y7 y8 y9 y10 y11 y7a y8a y9a y10a y11a
 have hs1:=heap_alloc_new w0 (.cells #[.int .i64 n,.int .i64 lo,.int .i64 hi,.slice Az zs.length cz,.slice Ab E.length cb] 45)
 rw[hws] at hs1
 have hb1:=below_alloc (Below.refl w0.heap.size w0) (.cells #[.int .i64 n,.int .i64 lo,.int .i64 hi,.slice Az zs.length cz,.slice Ab E.length cb] 45)
 generalize w0.alloc (.cells #[.int .i64 n,.int .i64 lo,.int .i64 hi,.slice Az zs.length cz,.slice Ab E.length cb] 45)=w1 at *
 clear hws
 have HB1:=mk0 hb1
 have hsl1:=(Array.getElem?_eq_some_iff.1 hs1).1
 have HC1:=mk0 (clone_zone Az cz zs w1 (Kd.C_below HZ.out hb1) (by have:=HZL.out;omega))
 have HS1:=mk0 hs1
 clear hs1 hb1
 (with_reducible refine HC1.out.mono ?_)
 rintro e w2 ⟨v2,rfl,hr2,hb2⟩
 obtain ⟨A2,c2,rfl⟩:=Kd.R_slice hr2
 have HR2:=mk0 hr2
 have HB2:=mk0 (HB1.out.trans (hb2.mono HB1.out.size))
 have hs2:=(hb2.block (w.heap.size+1) hsl1).trans HS1.out
 have HS2:=mk0 hs2
 have p3:=cell_of_heap (i:=3) hs2 rfl
 have p4:=cell_of_heap (i:=4) hs2 rfl
 have f3:=frozen_of_heap (i:=3) hs2
 clear hr2 hb2 hs2 HC1 HS1
 go_wp2_with fail
 have hs3:=heap_setCell_same _ _ 3 _ _ (.slice A2 zs.length c2) HS2.out
 have hb3:=HB2.out.setCell (p:=⟨w.heap.size+1,3,none⟩) (Nat.le_of_eq HWS.out) (.slice A2 zs.length c2)
 have HR3:=mk0 (R_set_ne rfl HR2.out HS2.out (by decide) 3 (.slice A2 zs.length c2))
 clear p3 p4 f3
 generalize w2.setCell ⟨w.heap.size+1,3,none⟩ (.slice A2 zs.length c2)=w3 at *
 have HB3:=mk0 hb3
 have HC3:=mk0 (clone_bloom Ab cb E w3 (Kd.C_below HB.out hb3) (by have:=HEB.out;omega))
 have HS3:=mk0 hs3
 have hsl3:=(Array.getElem?_eq_some_iff.1 hs3).1
 clear hs3 hb3
 (with_reducible refine HC3.out.mono ?_)
 rintro e w4 ⟨v4,rfl,hr4,hb4⟩
 obtain ⟨A4,c4,rfl⟩:=Kd.R_slice hr4
 have HR4:=mk0 hr4
 have HB4:=mk0 (HB3.out.trans (hb4.mono HB3.out.size))
 have HZ4:=mk0 (Kd.R_below HR3.out hb4)
 have hs4:=(hb4.block (w.heap.size+1) hsl3).trans HS3.out
 have HS4:=mk0 hs4
 have p4:=cell_of_heap (i:=4) hs4 rfl
 have f4:=frozen_of_heap (i:=4) hs4
 clear hr4 hb4 hs4 HC3 HS3
 go_wp2_with fail
 have hs5:=heap_setCell_same _ _ 4 _ _ (.slice A4 E.length c4) HS4.out
 have hb5:=HB4.out.setCell (p:=⟨w.heap.size+1,4,none⟩) (Nat.le_of_eq HWS.out) (.slice A4 E.length c4)
 have HZ5:=mk0 (Kd.R_lower (base':=w0.heap.size) (R_set_ne rfl HZ4.out HS4.out (by decide) 4 (.slice A4 E.length c4)) HB1.out.size)
 have HL5:=mk0 (StL.mk (R_set_ne rfl HR4.out HS4.out (by decide) 4 (.slice A4 E.length c4)) rfl rfl (fun k h1 h2 _=>rfl) (fun k h1 h2 h3=>absurd h3 (Nat.not_lt_zero k)) hs5 HZ5.out hb5 (L:=L))
 have HB3S:=mk0 HB3.out.size
 clear p4 f4 hs5 hb5 HS4 HR4 HB4 HZ4 HZ5 HR3 HB3 HS2 HR2 HB2 HB1
 generalize w4.setCell ⟨w.heap.size+1,4,none⟩ (.slice A4 E.length c4)=w5 at *
 have heli:(E.length:Int)≤65536:=by omega
 go_loopw[20] (fun v20 wr=>∃ (i:Nat) (E':List BloomE),i≤E.length∧v20 = .int .i64 i∧Aside0 (StL w0 wr (w.heap.size+1) w3.heap.size #[.int .i64 n,.int .i64 lo,.int .i64 hi,.slice A2 zs.length c2,.slice A4 E.length c4] A4 c4 (.slice A2 zs.length c2) zs E E' L i)) (fun i _=>E.length-(intOf i).toNat)
 case atStart=>exact ⟨0,E,by omega,rfl,HL5⟩
 case round=>
  clear HL5
  obtain ⟨i,E',hile,rfl,HL⟩:=hrel
  by_cases hlt:i<E.length
  ·have hlt2:(i:Int)<E.length:=by omega
   have hl3:=HL.out.len
   obtain ⟨b4,cap,cur,e4,hbg,hh,_,_,_,_⟩:=kb_flat.R_open HL.out.R (by omega)
   simp only[Value.slice.injEq,true_and] at e4
   obtain ⟨rfl,rfl⟩:=e4
   obtain ⟨b4',o4,e5,hx⟩:=kb_open (C_of HL.out.R) (by omega)
   cases e5
   have q2:=(hx i (by omega)).2.2
   rw[Nat.zero_add] at q2
   have hiL:i<L.length:=by rw[← HEL.out];exact hlt
   have HO:=mk0 (HL.out.old i (by omega) hlt (Nat.le_refl i))
   have HBI:=mk0 (HBB.out i hlt hiL)
   have HEI:=mk0 (show ∀ A c,bloomsM (E'.set i ⟨E[i].col,E[i].bits,A,L[i].length,c⟩) L=bloomsM E L from fun A c=>(bloomsM_set E' L i (by omega) _ (by rw[HO.out]) (by rw[HO.out])).trans HL.out.hd)
   have HPU:=mk0 (show ∀ (A:Option Addr) (c:Nat),BloomE.cells ⟨E[i].col,E[i].bits,A,L[i].length,c⟩=(BloomE.cells (E'[i]'(by omega))).set 2 (.slice A L[i].length c) from fun A c=>by rw[HO.out];rfl)
   rw[HO.out,HBI.out.1] at q2
   have HLI:=mk0 (HLL.out L[i] (List.getElem_mem hiL))
   have qf:wr.frozen? ⟨b4,i*3+2,none⟩=false:=frozen_of_heap hh
   have z4:=cell_of_heap (i:=4) HL.out.S rfl
   have HCL:=mk0 (clone_u8 E[i].A E[i].c L[i] wr.drew (Kd.C_drew (Kd.C_below HBI.out.2 HL.out.B)) HLI.out)
   have hsl:=(Array.getElem?_eq_some_iff.1 HL.out.S).1
   have hbl:=(Array.getElem?_eq_some_iff.1 hh).1
   have HH4:=mk0 hh
   have HB0W:=mk0 HL.out.B.size
   have HNX:=mk0 (show ∀ w6 lo6 A6 c6,Below wr.heap.size wr w6→u8.R 5 w6 lo6 (fun _=>True) (.slice A6 L[i].length c6) L[i]→w0.heap.size≤lo6→StL w0 (w6.setCell ⟨b4,i*3+2,none⟩ (.slice A6 L[i].length c6)) (w.heap.size+1) w3.heap.size #[.int .i64 n,.int .i64 lo,.int .i64 hi,.slice A2 zs.length c2,.slice (some ⟨b4,0,none⟩) E.length c4] (some ⟨b4,0,none⟩) c4 (.slice A2 zs.length c2) zs E (E'.set i ⟨E[i].col,E[i].bits,A6,L[i].length,c6⟩) L (i+1) from fun w6 lo6 A6 c6 hb hr hlo=>by
    have h:=stl_next HL.out (by omega) hiL HB3S.out hb hr hlo
    rw[HO.out] at h
    exact h)
   clear hx hh
   generalize hbb:L[i]=bb at *
   have HBE:=mk0 hbb
   clear hbb
   go_wp2_with fail
   apply cutL3w (Good:=fun w6 A6 c6=>StL w0 (w6.setCell ⟨b4,i*3+2,none⟩ (.slice A6 bb.length c6)) (w.heap.size+1) w3.heap.size #[.int .i64 n,.int .i64 lo,.int .i64 hi,.slice A2 zs.length c2,.slice (some ⟨b4,0,none⟩) E.length c4] (some ⟨b4,0,none⟩) c4 (.slice A2 zs.length c2) zs E (E'.set i ⟨E[i].col,E[i].bits,A6,bb.length,c6⟩) L (i+1))
   ·intro key
    go_region_law (first
     | (go_simp;go_at_call 48;(with_reducible refine HCL.out.mono ?_);rintro e w6 ⟨v6,rfl,hr6,hb6⟩;obtain ⟨A6,c6,rfl⟩:=Kd.R_slice hr6;have HB6:=mk0 (show Below wr.heap.size wr w6 from (below_drew wr.heap.size wr).trans hb6);have HR6:=mk0 hr6;have q2a:w6.cell? ⟨b4,i*3+2,none⟩=some (.slice E[i].A bb.length E[i].c):=(HB6.out.cell hbl).trans q2;have qfa:w6.frozen? ⟨b4,i*3+2,none⟩=false:=frozen_of_heap ((HB6.out.block b4 hbl).trans HH4.out);have z4a:w6.cell? ⟨w.heap.size+1,4,none⟩=some (.slice (some ⟨b4,0,none⟩) E.length c4):=(HB6.out.cell hsl).trans z4;have HS9:=mk0 (HNX.out w6 wr.heap.size A6 c6 HB6.out HR6.out HB0W.out);clear hr6 hb6))
    all_goals exact key.out w6 A6 c6 HS9.out
   ·intro w6 A6 c6 hs9
    have HS9:=mk0 hs9
    clear hs9 HNX HCL HPU HEI HO HBI HL HH4 q2 qf z4
    generalize w6.setCell ⟨b4,i*3+2,none⟩ (.slice A6 bb.length c6)=U at *
    go_wp2
    go_roundw
    case rel=>exact ⟨i+1,_,by omega,by go_num,HS9⟩
    case measure=>simp[intOf];omega
  ·have hj2:i=E.length:=by omega
   subst hj2
   have hl3:=HL.out.len
   have c0:=cell_of_heap (i:=0) HL.out.S rfl
   have c1:=cell_of_heap (i:=1) HL.out.S rfl
   have c2':=cell_of_heap (i:=2) HL.out.S rfl
   have c3:=cell_of_heap (i:=3) HL.out.S rfl
   have c4':=cell_of_heap (i:=4) HL.out.S rfl
   have hwl:w.heap.size<w0.heap.size:=(Array.getElem?_eq_some_iff.1 HN0.out).1
   have hv:=(HL.out.B.block w.heap.size hwl).trans HN0.out
   have d0:=cell_of_heap (i:=0) hv rfl
   have d1:=cell_of_heap (i:=1) hv rfl
   have d2:=cell_of_heap (i:=2) hv rfl
   have d3:=cell_of_heap (i:=3) hv rfl
   have d4:=cell_of_heap (i:=4) hv rfl
   have e0:=frozen_of_heap (i:=0) hv
   have e1:=frozen_of_heap (i:=1) hv
   have e2:=frozen_of_heap (i:=2) hv
   have e3:=frozen_of_heap (i:=3) hv
   have e4:=frozen_of_heap (i:=4) hv
   have hq:=(((((AtZ.start (base:=w.heap.size) hv).set (Nat.le_refl _) 0 (.int .i64 n)).set (Nat.le_refl _) 1 (.int .i64 lo)).set (Nat.le_refl _) 2 (.int .i64 hi)).set (Nat.le_refl _) 3 (.slice A2 zs.length c2)).set (Nat.le_refl _) 4 (.slice A4 E.length c4)
   have HSF:=mk0 (show AtZ w.heap.size w.heap.size 45 wr (((((wr.setCell ⟨w.heap.size,0,none⟩ (.int .i64 n)).setCell ⟨w.heap.size,1,none⟩ (.int .i64 lo)).setCell ⟨w.heap.size,2,none⟩ (.int .i64 hi)).setCell ⟨w.heap.size,3,none⟩ (.slice A2 zs.length c2)).setCell ⟨w.heap.size,4,none⟩ (.slice A4 E.length c4)) #[.int .i64 n,.int .i64 lo,.int .i64 hi,.slice A2 zs.length c2,.slice A4 E.length c4] from hq)
   have hne:∀ {α:Type} {d:Kd α} {e b:Nat} {v:Value} {l:List α},w0.heap.size≤b→d.R e wr b (fun _=>True) v l→∀ q,v.ownBlock=some q→q≠w.heap.size:=fun hb h q hq=>by have:=R_base h q hq;omega
   have h3s:=HB3S.out
   have HTT:=mk0 (And.intro (Kd.R_reads' (R_moved rfl HL.out.Z (w':=((((wr.setCell ⟨w.heap.size,0,none⟩ (.int .i64 n)).setCell ⟨w.heap.size,1,none⟩ (.int .i64 lo)).setCell ⟨w.heap.size,2,none⟩ (.int .i64 hi)).setCell ⟨w.heap.size,3,none⟩ (.slice A2 zs.length c2)).setCell ⟨w.heap.size,4,none⟩ (.slice A4 E.length c4)) (fun q hq=>HSF.out.2.1 q (hne (Nat.le_refl _) HL.out.Z q hq)))).2.2 (And.intro (C_of (R_moved rfl HL.out.R (w':=((((wr.setCell ⟨w.heap.size,0,none⟩ (.int .i64 n)).setCell ⟨w.heap.size,1,none⟩ (.int .i64 lo)).setCell ⟨w.heap.size,2,none⟩ (.int .i64 hi)).setCell ⟨w.heap.size,3,none⟩ (.slice A2 zs.length c2)).setCell ⟨w.heap.size,4,none⟩ (.slice A4 E.length c4)) (fun q hq=>HSF.out.2.1 q (hne h3s HL.out.R q hq)))) (show BlR (((((wr.setCell ⟨w.heap.size,0,none⟩ (.int .i64 n)).setCell ⟨w.heap.size,1,none⟩ (.int .i64 lo)).setCell ⟨w.heap.size,2,none⟩ (.int .i64 hi)).setCell ⟨w.heap.size,3,none⟩ (.slice A2 zs.length c2)).setCell ⟨w.heap.size,4,none⟩ (.slice A4 E.length c4)) w.heap.size E' L from ⟨hl3.trans HEL.out,fun i k1 k2=>⟨(HL.out.new i k1 k2 (by omega)).1,(HL.out.new i k1 k2 (by omega)).2.1,Kd.R_lower (base':=w.heap.size) (R_moved rfl (HL.out.new i k1 k2 (by omega)).2.2 (fun q hq=>HSF.out.2.1 q (hne (Nat.le_refl _) (HL.out.new i k1 k2 (by omega)).2.2 q hq))) (Nat.le_of_lt hwl)⟩⟩)))
   have HFF:=mk0 ((HB0.out.trans (HL.out.B.mono HB0.out.size)).trans HSF.out.2.2)
   have HHD:=mk0 HL.out.hd
   have HL3:=mk0 hl3
   clear hv hq hne HL hl3 h3s
   go_wp2
   generalize ((((wr.setCell ⟨w.heap.size,0,none⟩ (.int .i64 n)).setCell ⟨w.heap.size,1,none⟩ (.int .i64 lo)).setCell ⟨w.heap.size,2,none⟩ (.int .i64 hi)).setCell ⟨w.heap.size,3,none⟩ (.slice A2 zs.length c2)).setCell ⟨w.heap.size,4,none⟩ (.slice A4 E.length c4)=Wf at *
   have g0:=cell_of_heap (i:=0) HSF.out.1 rfl
   have g1:=cell_of_heap (i:=1) HSF.out.1 rfl
   have g2:=cell_of_heap (i:=2) HSF.out.1 rfl
   have g3:=cell_of_heap (i:=3) HSF.out.1 rfl
   have g4:=cell_of_heap (i:=4) HSF.out.1 rfl
   refine bodyPost_ret (v:=.agg #[.int .i64 n,.int .i64 lo,.int .i64 hi,.slice A2 zs.length c2,.slice A4 E.length c4]) (by simp[results,Tryz.results18,go_sem,g0,g1,g2,g3,g4]) rfl ?_
   exact ⟨A2,c2,A4,c4,E',L,by rw[HL3.out],HTT.out.1,HTT.out.2.1,HTT.out.2.2,HHD.out,HFF.out⟩
end Go.Proofs.YtcmffaejcnbheaaGreat.Lib0

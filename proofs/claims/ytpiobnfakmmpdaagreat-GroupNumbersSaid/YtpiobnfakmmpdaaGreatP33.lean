import Derived.Test.YtpiobnfakmmpdaaGreatP32
set_option linter.unusedVariables false
set_option linter.unusedSimpArgs false
namespace Go.Proofs.YtpiobnfakmmpdaaGreat.Lib0
open Go.RowKit Go.Proofs.YtpiobnfakmmpdaaGreatW.PrintWords Go.ChangeMaps
def zoneX (kind:Int) (c:CellM):ZoneM:=if kind=1 then ⟨kind,0,0,c.n,c.n,⟨#[]⟩,⟨#[]⟩⟩ else if kind=2 then ⟨kind,0,0,0,0,c.s,c.s⟩ else ⟨kind,0,0,0,0,⟨#[]⟩,⟨#[]⟩⟩
def zoneStep (kind:Int) (p:ZoneM × Bool) (c:CellM):ZoneM × Bool:=
 if c.kind≠kind∨c.kind=0 then (⟨p.1.kind,p.1.rows,p.1.nulls+1,p.1.minN,p.1.maxN,p.1.minS,p.1.maxS⟩,p.2) else (p.1.widen (zoneX kind c) p.2,false)
def zoneF (kind:Int) (n:Nat) (l:List CellM):ZoneM × Bool:=l.foldl (zoneStep kind) (⟨kind,n,0,0,0,⟨#[]⟩,⟨#[]⟩⟩,true)
def zoneB (kind:Int) (l:List CellM):ZoneM:=(zoneF kind l.length l).1
theorem zoneF_next (kind:Int) (n:Nat) (l:List CellM) (k:Nat) (h:k<l.length):zoneF kind n (l.take (k+1))=zoneStep kind (zoneF kind n (l.take k)) l[k]:=by
 unfold zoneF
 rw[take_next l k h,List.foldl_append]
 rfl
theorem zoneF_nulls (kind:Int) (n:Nat):∀ (l:List CellM) (p:ZoneM × Bool),0≤p.1.nulls→0≤(l.foldl (zoneStep kind) p).1.nulls∧(l.foldl (zoneStep kind) p).1.nulls≤p.1.nulls+l.length
 | [],p,h=>⟨h,by simp⟩
 | c :: l,p,h=>by
  have hs:0≤(zoneStep kind p c).1.nulls∧(zoneStep kind p c).1.nulls≤p.1.nulls+1:=by
   unfold zoneStep
   split
   ·dsimp only;omega
   ·show 0≤(p.1.widen _ p.2).nulls∧_
    have:(p.1.widen (zoneX kind c) p.2).nulls=p.1.nulls:=by
     unfold ZoneM.widen ZoneM.widen1
     cases p.2<;>rfl
    rw[this]
    omega
  have:=zoneF_nulls kind n l (zoneStep kind p c) hs.1
  rw[List.foldl_cons,List.length_cons]
  omega
theorem zoneF_bound (kind:Int) (n:Nat) (l:List CellM):0≤(zoneF kind n l).1.nulls∧(zoneF kind n l).1.nulls≤l.length:=by
 have:=zoneF_nulls kind n l (⟨kind,n,0,0,0,⟨#[]⟩,⟨#[]⟩⟩,true) (Int.le_refl _)
 unfold zoneF
 dsimp only at this
 omega
set_option maxHeartbeats 1600000 in
set_option maxRecDepth 100000 in
theorem zone_Build (kind:Int) (A:Option Addr) (c:Nat) (l:List CellM) (w:World) (h:kc.C w A l.length l) (hl:l.length≤65536) :
  Calls Tryz.prog 114 #[.int .i64 kind,.slice A l.length c] w fun e w'=>e = .returned (.agg (zoneB kind l).cells.toArray)∧Below w.heap.size w w':=by
 have HC:=mk0 h
 have HL:=mk0 hl
 clear h
 have hl2:(l.length:Int)≤65536:=by omega
 go_enter Tryz.func114,Tryz.ntmps114
 go_wp2_with fail
 clear hl2
 have hn0:=heap_alloc_new w (.cells #[.int .i64 0,.int .i64 0,.int .i64 0,.int .i64 0,.int .i64 0,.string ⟨#[]⟩,.string ⟨#[]⟩] 145)
 have HB0:=below_alloc (Below.refl w.heap.size w) (.cells #[.int .i64 0,.int .i64 0,.int .i64 0,.int .i64 0,.int .i64 0,.string ⟨#[]⟩,.string ⟨#[]⟩] 145)
 have hsz:(w.alloc (.cells #[.int .i64 0,.int .i64 0,.int .i64 0,.int .i64 0,.int .i64 0,.string ⟨#[]⟩,.string ⟨#[]⟩] 145)).heap.size=w.heap.size+1:=by simp
 generalize w.alloc (.cells #[.int .i64 0,.int .i64 0,.int .i64 0,.int .i64 0,.int .i64 0,.string ⟨#[]⟩,.string ⟨#[]⟩] 145)=w0 at *
 have hn1:=heap_alloc_new w0 (.cells #[.int .i64 kind,.int .i64 l.length,.int .i64 0,.int .i64 0,.int .i64 0,.string ⟨#[]⟩,.string ⟨#[]⟩] 145)
 have hr1:=(heap_alloc_old w0 (.cells #[.int .i64 kind,.int .i64 l.length,.int .i64 0,.int .i64 0,.int .i64 0,.string ⟨#[]⟩,.string ⟨#[]⟩] 145) (by omega:w.heap.size<w0.heap.size)).trans hn0
 have HB1:=HB0.trans ((below_alloc (Below.refl w0.heap.size w0) (.cells #[.int .i64 kind,.int .i64 l.length,.int .i64 0,.int .i64 0,.int .i64 0,.string ⟨#[]⟩,.string ⟨#[]⟩] 145)).mono HB0.size)
 have hsz1:(w0.alloc (.cells #[.int .i64 kind,.int .i64 l.length,.int .i64 0,.int .i64 0,.int .i64 0,.string ⟨#[]⟩,.string ⟨#[]⟩] 145)).heap.size=w.heap.size+2:=by simp[hsz]
 generalize w0.alloc (.cells #[.int .i64 kind,.int .i64 l.length,.int .i64 0,.int .i64 0,.int .i64 0,.string ⟨#[]⟩,.string ⟨#[]⟩] 145)=w1 at *
 rw[hsz] at hn1
 have HR1:=mk0 (And.intro hr1 (And.intro HB1 hsz1))
 have HN1:=mk0 hn1
 clear hn0 HB0 hsz hn1 hr1 HB1 hsz1 hl
 go_loopw[6,16] (fun v6 v16 wr=>∃ (k:Nat) (z:ZoneM) (fst:Bool),k≤l.length∧v6 = .bool fst∧v16 = .int .i64 k∧Aside0 ((z,fst)=zoneF kind l.length (l.take k))∧Aside0 (wr.heap[w.heap.size+1]?=some (.cells z.cells.toArray 145))∧Aside0 (Below (w.heap.size+1) w1 wr)) (fun _ i _=>l.length-(intOf i).toNat)
 case atStart=>exact ⟨0,⟨kind,l.length,0,0,0,⟨#[]⟩,⟨#[]⟩⟩,true,by omega,rfl,rfl,⟨rfl⟩,HN1,⟨Below.refl _ _⟩⟩
 case round=>
  clear HN1
  obtain ⟨k,z,fst,hk,rfl,rfl,HZ,HZH,HB⟩:=hrel
  have hl3:=HL.out
  by_cases hlt:k<l.length
  ·have hlt2:(k:Int)<l.length:=by omega
   have HBA:=mk0 (show Below w.heap.size w wr from HR1.out.2.1.trans (HB.out.mono (Nat.le_succ _)))
   obtain ⟨b,o,rfl,hx⟩:=kc_open (Kd.C_below HC.out HBA.out) (by omega)
   obtain ⟨x0,x1,x2,x3⟩:=hx k hlt
   clear hx
   obtain ⟨y,hy⟩:∃ y,y=l[k]:=⟨_,rfl⟩
   rw[← hy] at x0 x1 x2 x3
   have HNX:=mk0 (show zoneF kind l.length (l.take (k+1))=zoneStep kind (z,fst) y by rw[zoneF_next kind l.length l k hlt,← HZ.out,hy])
   have hnb:=zoneF_bound kind l.length (l.take k)
   rw[← HZ.out,List.length_take] at hnb
   dsimp only at hnb
   have hg2:w.heap.size+1<wr.heap.size:=(Array.getElem?_eq_some_iff.1 HZH.out).1
   clear hy
   by_cases hkd:y.kind=kind∧y.kind≠0
   ·have k1:(y.kind==kind)=true:=by rw[beq_iff_eq];exact hkd.1
    have k2:(y.kind==0)=false:=by rw[beq_eq_false_iff_ne];exact hkd.2
    have k3:=hkd.1
    have k4:=hkd.2
    have HNX:=mk0 (show zoneF kind l.length (l.take (k+1))=(z.widen (zoneX kind y) fst,false) by rw[HNX.out];unfold zoneStep;rw[if_neg (by rintro (h | h);exact h k3;exact k4 h)])
    obtain ⟨yc,yk,yn,ys⟩:=y
    dsimp only at *
    subst k3
    clear k1 hkd
    by_cases h1:yk=1
    ·subst h1
     have HNX:Aside0 (zoneF 1 l.length (l.take (k+1))=(z.widen ⟨1,0,0,yn,yn,⟨#[]⟩,⟨#[]⟩⟩ fst,false)):=HNX
     go_wp2_with fail
     obtain ⟨W,hW⟩:∃ W,W=(wr.alloc (.cells #[.string yc,.int .i64 1,.int .i64 yn,.string ys] 37)).alloc (.cells #[.int .i64 1,.int .i64 0,.int .i64 0,.int .i64 0,.int .i64 0,.string ⟨#[]⟩,.string ⟨#[]⟩] 145):=⟨_,rfl⟩
     rw[← hW]
     have hc0:=heap_alloc_new wr (.cells #[.string yc,.int .i64 1,.int .i64 yn,.string ys] 37)
     have hb0:=below_alloc (Below.refl wr.heap.size wr) (.cells #[.string yc,.int .i64 1,.int .i64 yn,.string ys] 37)
     have hs0:(wr.alloc (.cells #[.string yc,.int .i64 1,.int .i64 yn,.string ys] 37)).heap.size=wr.heap.size+1:=by simp
     generalize wr.alloc (.cells #[.string yc,.int .i64 1,.int .i64 yn,.string ys] 37)=W0 at *
     have hx0:=heap_alloc_new W0 (.cells #[.int .i64 1,.int .i64 0,.int .i64 0,.int .i64 0,.int .i64 0,.string ⟨#[]⟩,.string ⟨#[]⟩] 145)
     have hc1:=(heap_alloc_old W0 (.cells #[.int .i64 1,.int .i64 0,.int .i64 0,.int .i64 0,.int .i64 0,.string ⟨#[]⟩,.string ⟨#[]⟩] 145) (by omega:wr.heap.size<W0.heap.size)).trans hc0
     have hb1:=hb0.trans ((below_alloc (Below.refl W0.heap.size W0) (.cells #[.int .i64 1,.int .i64 0,.int .i64 0,.int .i64 0,.int .i64 0,.string ⟨#[]⟩,.string ⟨#[]⟩] 145)).mono hb0.size)
     rw[← hW] at hx0 hc1 hb1
     rw[hs0] at hx0
     clear hW hc0 hb0 hs0
     have HBW:=mk0 hb1
     have HX0:=mk0 (AtZ.start (base:=wr.heap.size) hx0)
     have y0:W.cell? ⟨wr.heap.size,2,none⟩=some (.int .i64 yn):=cell_of_heap (i:=2) hc1 rfl
     have p3:=cell_of_heap (i:=3) hx0 rfl
     have p4:=cell_of_heap (i:=4) hx0 rfl
     have q3:=frozen_of_heap (i:=3) hx0
     have q4:=frozen_of_heap (i:=4) hx0
     have hne:wr.heap.size≠wr.heap.size+1:=by omega
     clear hc1 hb1 hx0
     apply cutL
     ·intro key
      go_region_held3 (fun w'=>w'.cell? ⟨wr.heap.size,2,none⟩=some (.int .i64 yn)) (go_keep) (first | (fail))
      all_goals exact key.out
     refine ⟨?_⟩
     have HX1:=mk0 (((HX0.out.set (Nat.le_succ _) 3 (.int .i64 yn)).set (Nat.le_succ _) 4 (.int .i64 yn)).drew)
     obtain ⟨V,hV⟩:∃ V,V=((W.setCell ⟨wr.heap.size+1,3,none⟩ (.int .i64 yn)).setCell ⟨wr.heap.size+1,4,none⟩ (.int .i64 yn)).drew:=⟨_,rfl⟩
     rw[← hV] at HX1 ⊢
     clear hV y0 p3 p4 q3 q4 HX0
     have HX1:Aside0 (AtZ wr.heap.size (wr.heap.size+1) 145 W V #[.int .i64 1,.int .i64 0,.int .i64 0,.int .i64 yn,.int .i64 yn,.string ⟨#[]⟩,.string ⟨#[]⟩]):=HX1
     have c0:=cell_of_heap (i:=0) HX1.out.1 rfl
     have c1:=cell_of_heap (i:=1) HX1.out.1 rfl
     have c2:=cell_of_heap (i:=2) HX1.out.1 rfl
     have c3:=cell_of_heap (i:=3) HX1.out.1 rfl
     have c4:=cell_of_heap (i:=4) HX1.out.1 rfl
     have c5:=cell_of_heap (i:=5) HX1.out.1 rfl
     have c6:=cell_of_heap (i:=6) HX1.out.1 rfl
     have HBX:=mk0 (HBW.out.trans HX1.out.2.2)
     have HBV:=mk0 (HB.out.trans (HBX.out.mono (by omega)))
     have HWD:=mk0 (zone_widen (w.heap.size+1) z ⟨1,0,0,yn,yn,⟨#[]⟩,⟨#[]⟩⟩ fst V (w.heap.size+1) (Nat.le_refl _) (Nat.le_trans (Nat.le_of_lt hg2) HBX.out.size) ((HBX.out.block _ hg2).trans HZH.out))
     unfold ZoneM.cells at HWD
     dsimp only at HWD
     clear HX1 HBX HBW HZH
     go_wp2_with fail
     (with_reducible refine HWD.out.mono ?_)
     rintro e w5 ⟨rfl,hz5,hb5⟩
     have HZ5:=mk0 hz5
     have HB5:=mk0 (HBV.out.trans hb5)
     clear hz5 hb5 HWD
     have HE5:=mk0 (show (z.widen ⟨1,0,0,yn,yn,⟨#[]⟩,⟨#[]⟩⟩ fst,false)=zoneF 1 l.length (l.take (k+1)) by rw[HNX.out])
     generalize z.widen ⟨1,0,0,yn,yn,⟨#[]⟩,⟨#[]⟩⟩ fst=z5 at *
     go_wp2
     go_roundw
     case rel=>exact ⟨k+1,z5,false,by omega,rfl,by go_num,HE5,HZ5,HB5⟩
     case measure=>simp[intOf];omega
    ·by_cases h2:yk=2
     ·subst h2
      have HNX:Aside0 (zoneF 2 l.length (l.take (k+1))=(z.widen ⟨2,0,0,0,0,ys,ys⟩ fst,false)):=HNX
      go_wp2_with fail
      obtain ⟨W,hW⟩:∃ W,W=(wr.alloc (.cells #[.string yc,.int .i64 2,.int .i64 yn,.string ys] 37)).alloc (.cells #[.int .i64 2,.int .i64 0,.int .i64 0,.int .i64 0,.int .i64 0,.string ⟨#[]⟩,.string ⟨#[]⟩] 145):=⟨_,rfl⟩
      rw[← hW]
      have hc0:=heap_alloc_new wr (.cells #[.string yc,.int .i64 2,.int .i64 yn,.string ys] 37)
      have hb0:=below_alloc (Below.refl wr.heap.size wr) (.cells #[.string yc,.int .i64 2,.int .i64 yn,.string ys] 37)
      have hs0:(wr.alloc (.cells #[.string yc,.int .i64 2,.int .i64 yn,.string ys] 37)).heap.size=wr.heap.size+1:=by simp
      generalize wr.alloc (.cells #[.string yc,.int .i64 2,.int .i64 yn,.string ys] 37)=W0 at *
      have hx0:=heap_alloc_new W0 (.cells #[.int .i64 2,.int .i64 0,.int .i64 0,.int .i64 0,.int .i64 0,.string ⟨#[]⟩,.string ⟨#[]⟩] 145)
      have hc1:=(heap_alloc_old W0 (.cells #[.int .i64 2,.int .i64 0,.int .i64 0,.int .i64 0,.int .i64 0,.string ⟨#[]⟩,.string ⟨#[]⟩] 145) (by omega:wr.heap.size<W0.heap.size)).trans hc0
      have hb1:=hb0.trans ((below_alloc (Below.refl W0.heap.size W0) (.cells #[.int .i64 2,.int .i64 0,.int .i64 0,.int .i64 0,.int .i64 0,.string ⟨#[]⟩,.string ⟨#[]⟩] 145)).mono hb0.size)
      rw[← hW] at hx0 hc1 hb1
      rw[hs0] at hx0
      clear hW hc0 hb0 hs0
      have HBW:=mk0 hb1
      have HX0:=mk0 (AtZ.start (base:=wr.heap.size) hx0)
      have y0:W.cell? ⟨wr.heap.size,3,none⟩=some (.string ys):=cell_of_heap (i:=3) hc1 rfl
      have p3:=cell_of_heap (i:=5) hx0 rfl
      have p4:=cell_of_heap (i:=6) hx0 rfl
      have q3:=frozen_of_heap (i:=5) hx0
      have q4:=frozen_of_heap (i:=6) hx0
      have hne:wr.heap.size≠wr.heap.size+1:=by omega
      clear hc1 hb1 hx0
      apply cutL
      ·intro key
       go_region_held3 (fun w'=>w'.cell? ⟨wr.heap.size,3,none⟩=some (.string ys)) (go_keep) (first | (fail))
       all_goals exact key.out
      refine ⟨?_⟩
      have HX1:=mk0 (((HX0.out.set (Nat.le_succ _) 5 (.string ys)).set (Nat.le_succ _) 6 (.string ys)).drew)
      obtain ⟨V,hV⟩:∃ V,V=((W.setCell ⟨wr.heap.size+1,5,none⟩ (.string ys)).setCell ⟨wr.heap.size+1,6,none⟩ (.string ys)).drew:=⟨_,rfl⟩
      rw[← hV] at HX1 ⊢
      clear hV y0 p3 p4 q3 q4 HX0
      have HX1:Aside0 (AtZ wr.heap.size (wr.heap.size+1) 145 W V #[.int .i64 2,.int .i64 0,.int .i64 0,.int .i64 0,.int .i64 0,.string ys,.string ys]):=HX1
      have c0:=cell_of_heap (i:=0) HX1.out.1 rfl
      have c1:=cell_of_heap (i:=1) HX1.out.1 rfl
      have c2:=cell_of_heap (i:=2) HX1.out.1 rfl
      have c3:=cell_of_heap (i:=3) HX1.out.1 rfl
      have c4:=cell_of_heap (i:=4) HX1.out.1 rfl
      have c5:=cell_of_heap (i:=5) HX1.out.1 rfl
      have c6:=cell_of_heap (i:=6) HX1.out.1 rfl
      have HBX:=mk0 (HBW.out.trans HX1.out.2.2)
      have HBV:=mk0 (HB.out.trans (HBX.out.mono (by omega)))
      have HWD:=mk0 (zone_widen (w.heap.size+1) z ⟨2,0,0,0,0,ys,ys⟩ fst V (w.heap.size+1) (Nat.le_refl _) (Nat.le_trans (Nat.le_of_lt hg2) HBX.out.size) ((HBX.out.block _ hg2).trans HZH.out))
      unfold ZoneM.cells at HWD
      dsimp only at HWD
      clear HX1 HBX HBW HZH
      go_wp2_with fail
      (with_reducible refine HWD.out.mono ?_)
      rintro e w5 ⟨rfl,hz5,hb5⟩
      have HZ5:=mk0 hz5
      have HB5:=mk0 (HBV.out.trans hb5)
      clear hz5 hb5 HWD
      have HE5:=mk0 (show (z.widen ⟨2,0,0,0,0,ys,ys⟩ fst,false)=zoneF 2 l.length (l.take (k+1)) by rw[HNX.out])
      generalize z.widen ⟨2,0,0,0,0,ys,ys⟩ fst=z5 at *
      go_wp2
      go_roundw
      case rel=>exact ⟨k+1,z5,false,by omega,rfl,by go_num,HE5,HZ5,HB5⟩
      case measure=>simp[intOf];omega
     ·have m1:(yk==1)=false:=by rw[beq_eq_false_iff_ne];exact h1
      have m2:(yk==2)=false:=by rw[beq_eq_false_iff_ne];exact h2
      have HNX:Aside0 (zoneF yk l.length (l.take (k+1))=(z.widen ⟨yk,0,0,0,0,⟨#[]⟩,⟨#[]⟩⟩ fst,false)):=by
       refine ⟨HNX.out.trans ?_⟩
       unfold zoneX
       rw[if_neg h1,if_neg h2]
      have hb0:=below_alloc (Below.refl wr.heap.size wr) (.cells #[.string yc,.int .i64 yk,.int .i64 yn,.string ys] 37)
      have HBX:=mk0 (hb0.trans ((below_alloc (Below.refl _ (wr.alloc (.cells #[.string yc,.int .i64 yk,.int .i64 yn,.string ys] 37))) (.cells #[.int .i64 yk,.int .i64 0,.int .i64 0,.int .i64 0,.int .i64 0,.string ⟨#[]⟩,.string ⟨#[]⟩] 145)).mono hb0.size))
      have HBV:=mk0 (HB.out.trans (HBX.out.mono (by omega)))
      have HWD:=mk0 (zone_widen (w.heap.size+1) z ⟨yk,0,0,0,0,⟨#[]⟩,⟨#[]⟩⟩ fst _ (w.heap.size+1) (Nat.le_refl _) (Nat.le_trans (Nat.le_of_lt hg2) HBX.out.size) ((HBX.out.block _ hg2).trans HZH.out))
      unfold ZoneM.cells at HWD
      dsimp only at HWD
      clear HBX HZH hb0
      go_wp2_with fail
      (with_reducible refine HWD.out.mono ?_)
      rintro e w5 ⟨rfl,hz5,hb5⟩
      have HZ5:=mk0 hz5
      have HB5:=mk0 (HBV.out.trans hb5)
      clear hz5 hb5 HWD
      have HE5:=mk0 (show (z.widen ⟨yk,0,0,0,0,⟨#[]⟩,⟨#[]⟩⟩ fst,false)=zoneF yk l.length (l.take (k+1)) by rw[HNX.out])
      generalize z.widen ⟨yk,0,0,0,0,⟨#[]⟩,⟨#[]⟩⟩ fst=z5 at *
      go_wp2
      go_roundw
      case rel=>exact ⟨k+1,z5,false,by omega,rfl,by go_num,HE5,HZ5,HB5⟩
      case measure=>simp[intOf];omega
   ·have HN2:=mk0 (show zoneF kind l.length (l.take (k+1))=(⟨z.kind,z.rows,z.nulls+1,z.minN,z.maxN,z.minS,z.maxS⟩,fst) by rw[HNX.out];unfold zoneStep;rw[if_pos (by by_cases h:y.kind=kind;exact .inr (Classical.byContradiction fun h2=>hkd ⟨h,h2⟩);exact .inl h)])
    clear HNX
    obtain ⟨zk,zr,zn,za,zb,zs,zt⟩:=z
    obtain ⟨yc,yk,yn,ys⟩:=y
    unfold ZoneM.cells at *
    dsimp only at *
    have hw1:wrap64 (zn+1)=zn+1:=by unfold wrap64;omega
    have z2:=cell_of_heap (i:=2) HZH.out rfl
    have q2:=frozen_of_heap (i:=2) HZH.out
    have hne:w.heap.size+1≠wr.heap.size:=by omega
    have hset:=heap_setCell_same _ _ 2 _ _ (.int .i64 (zn+1)) HZH.out
    have hbs:=HB.out.setCell (p:=⟨w.heap.size+1,2,none⟩) (Nat.le_refl _) (.int .i64 (zn+1))
    have hlt5:=(Array.getElem?_eq_some_iff.1 hset).1
    have HZ5:=mk0 ((heap_alloc_old (wr.setCell ⟨w.heap.size+1,2,none⟩ (.int .i64 (zn+1))) (.cells #[.string yc,.int .i64 yk,.int .i64 yn,.string ys] 37) hlt5).trans hset)
    have HB5:=mk0 (hbs.trans ((below_alloc (Below.refl _ (wr.setCell ⟨w.heap.size+1,2,none⟩ (.int .i64 (zn+1)))) (.cells #[.string yc,.int .i64 yk,.int .i64 yn,.string ys] 37)).mono (Nat.le_of_lt hlt5)))
    have HE5:=mk0 HN2.out.symm
    clear HZH hnb hset hbs hlt5
    by_cases h1:yk=kind
    ·have k1:(yk==kind)=true:=by rw[beq_iff_eq];exact h1
     have h2:yk=0:=Classical.byContradiction fun h2=>hkd ⟨h1,h2⟩
     have k2:(yk==0)=true:=by rw[beq_iff_eq];exact h2
     subst h1
     subst h2
     go_wp2
     go_roundw
     case rel=>exact ⟨k+1,⟨zk,zr,zn+1,za,zb,zs,zt⟩,fst,by omega,rfl,by go_num,HE5,HZ5,HB5⟩
     case measure=>simp[intOf];omega
    ·have k1:(yk==kind)=false:=by rw[beq_eq_false_iff_ne];exact h1
     go_wp2
     go_roundw
     case rel=>exact ⟨k+1,⟨zk,zr,zn+1,za,zb,zs,zt⟩,fst,by omega,rfl,by go_num,HE5,HZ5,HB5⟩
     case measure=>simp[intOf];omega
  ·have hk2:k=l.length:=by omega
   subst hk2
   rw[List.take_length] at HZ
   have HZ2:=mk0 (show zoneB kind l=z by unfold zoneB;rw[← HZ.out])
   obtain ⟨zk,zr,zn,za,zb,zs,zt⟩:=z
   unfold ZoneM.cells at *
   dsimp only at *
   have c0:=cell_of_heap (i:=0) HZH.out rfl
   have c1:=cell_of_heap (i:=1) HZH.out rfl
   have c2:=cell_of_heap (i:=2) HZH.out rfl
   have c3:=cell_of_heap (i:=3) HZH.out rfl
   have c4:=cell_of_heap (i:=4) HZH.out rfl
   have c5:=cell_of_heap (i:=5) HZH.out rfl
   have c6:=cell_of_heap (i:=6) HZH.out rfl
   have hv:=(HB.out.block w.heap.size (Nat.lt_succ_self _)).trans HR1.out.1
   have d0:=cell_of_heap (i:=0) hv rfl
   have d1:=cell_of_heap (i:=1) hv rfl
   have d2:=cell_of_heap (i:=2) hv rfl
   have d3:=cell_of_heap (i:=3) hv rfl
   have d4:=cell_of_heap (i:=4) hv rfl
   have d5:=cell_of_heap (i:=5) hv rfl
   have d6:=cell_of_heap (i:=6) hv rfl
   have e0:=frozen_of_heap (i:=0) hv
   have e1:=frozen_of_heap (i:=1) hv
   have e2:=frozen_of_heap (i:=2) hv
   have e3:=frozen_of_heap (i:=3) hv
   have e4:=frozen_of_heap (i:=4) hv
   have e5:=frozen_of_heap (i:=5) hv
   have e6:=frozen_of_heap (i:=6) hv
   have HBF:=mk0 (HR1.out.2.1.trans (HB.out.mono (Nat.le_succ _)))
   have HSF:=mk0 (((((((AtZ.start (base:=w.heap.size) hv).set (Nat.le_refl _) 0 (.int .i64 zk)).set (Nat.le_refl _) 1 (.int .i64 zr)).set (Nat.le_refl _) 2 (.int .i64 zn)).set (Nat.le_refl _) 3 (.int .i64 za)).set (Nat.le_refl _) 4 (.int .i64 zb)).set (Nat.le_refl _) 5 (.string zs) |>.set (Nat.le_refl _) 6 (.string zt))
   have HSF:=mk0 (show AtZ w.heap.size w.heap.size 145 wr _ #[.int .i64 zk,.int .i64 zr,.int .i64 zn,.int .i64 za,.int .i64 zb,.string zs,.string zt] from HSF.out)
   clear hv
   go_wp2
   generalize ((((((wr.setCell ⟨w.heap.size,0,none⟩ (.int .i64 zk)).setCell ⟨w.heap.size,1,none⟩ (.int .i64 zr)).setCell ⟨w.heap.size,2,none⟩ (.int .i64 zn)).setCell ⟨w.heap.size,3,none⟩ (.int .i64 za)).setCell ⟨w.heap.size,4,none⟩ (.int .i64 zb)).setCell ⟨w.heap.size,5,none⟩ (.string zs)).setCell ⟨w.heap.size,6,none⟩ (.string zt)=Wf at *
   have g0:=cell_of_heap (i:=0) HSF.out.1 rfl
   have g1:=cell_of_heap (i:=1) HSF.out.1 rfl
   have g2:=cell_of_heap (i:=2) HSF.out.1 rfl
   have g3:=cell_of_heap (i:=3) HSF.out.1 rfl
   have g4:=cell_of_heap (i:=4) HSF.out.1 rfl
   have g5:=cell_of_heap (i:=5) HSF.out.1 rfl
   have g6:=cell_of_heap (i:=6) HSF.out.1 rfl
   refine bodyPost_ret (v:=.agg #[.int .i64 zk,.int .i64 zr,.int .i64 zn,.int .i64 za,.int .i64 zb,.string zs,.string zt]) (by simp[results,Tryz.results114,go_sem,g0,g1,g2,g3,g4,g5,g6]) rfl ?_
   exact ⟨by rw[HZ2.out];rfl,HBF.out.trans HSF.out.2.2⟩
end Go.Proofs.YtpiobnfakmmpdaaGreat.Lib0

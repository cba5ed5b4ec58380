import Derived.BigRegion
import Derived.Test.YtpiobnfakmmpdaaGreatP31
set_option linter.unusedVariables false
set_option linter.unusedSimpArgs false
namespace Go.Proofs.YtpiobnfakmmpdaaGreat.Lib0
open Go.RowKit Go.Proofs.YtpiobnfakmmpdaaGreatW.PrintWords Go.ChangeMaps
def eqM (a b:RowM):Bool:=a.t==b.t && (a.s==b.s && eqCs a.cs b.cs)
def eqMs:List RowM→List RowM→Bool
 | [],[]=>true
 | a :: x,b :: y=>eqM a b && eqMs x y
 | _,_=>false
theorem eqMs_len:∀ {a b:List RowM},eqMs a b=true→a.length=b.length
 | [],[],_=>rfl
 | x :: a,y :: b,h=>by
  rw[eqMs,Bool.and_eq_true] at h
  rw[List.length_cons,List.length_cons,eqMs_len h.2]
 | [],_ :: _,h=>by cases h
 | _ :: _,[],h=>by cases h
set_option maxHeartbeats 1600000 in
set_option maxRecDepth 100000 in
theorem keep_Row (t s t' s':Int) (A B:Option Addr) (ca cb:Nat) (l l':List CellM) (w:World) (ha:kc.C w A l.length l) (hb:kc.C w B l'.length l') (hl:l.length≤1099511627776) (hl':l'.length≤1099511627776) :
  Calls Tryz.prog 38 #[.agg #[.int .i64 t,.int .i64 s,.slice A l.length ca],.agg #[.int .i64 t',.int .i64 s',.slice B l'.length cb]] w fun e w'=>e = .returned (.bool (eqM ⟨t,s,l⟩ ⟨t',s',l'⟩))∧Below w.heap.size w w':=by
 have b1:=below_alloc (Below.refl w.heap.size w) (.cells #[.int .i64 t,.int .i64 s,.slice A l.length ca] 35)
 have b2:=b1.trans ((below_alloc (Below.refl _ (w.alloc (.cells #[.int .i64 t,.int .i64 s,.slice A l.length ca] 35))) (.cells #[.int .i64 t',.int .i64 s',.slice B l'.length cb] 35)).mono b1.size)
 have HB2:=mk0 b2
 have HCE:=mk0 (keep_Cells A B ca cb l l' _ (Kd.C_below ha b2) (Kd.C_below hb b2) hl hl')
 have HR:Aside0 (eqM ⟨t,s,l⟩ ⟨t',s',l'⟩=(t==t' && (s==s' && eqCs l l'))):=⟨rfl⟩
 generalize eqM ⟨t,s,l⟩ ⟨t',s',l'⟩=r at *
 generalize eqCs l l'=r2 at *
 clear ha hb hl hl' b1 b2
 by_cases ht:t=t'
 ·have htb:(t==t')=true:=by rw[beq_iff_eq];exact ht
  rw[htb] at HR
  subst ht
  by_cases hs:s=s'
  ·have hsb:(s==s')=true:=by rw[beq_iff_eq];exact hs
   rw[hsb] at HR
   subst hs
   have HR2:=mk0 (show r=r2 by rw[HR.out];simp)
   go_enter Tryz.func38,Tryz.ntmps38
   go_wp2_with fail
   (with_reducible refine HCE.out.mono ?_)
   rintro e w3 ⟨rfl,hb3⟩
   have HB3:=mk0 (HB2.out.trans (hb3.mono HB2.out.size))
   clear hb3
   go_wp2
   go_ret
   exact ⟨by rw[HR2.out];rfl,HB3.out⟩
  ·have hsb:(s==s')=false:=by rw[beq_eq_false_iff_ne];exact hs
   have HR2:=mk0 (show r=false by rw[HR.out,hsb];simp)
   go_enter Tryz.func38,Tryz.ntmps38
   go_wp2
   go_ret
   exact ⟨by rw[HR2.out];rfl,HB2.out⟩
 ·have htb:(t==t')=false:=by rw[beq_eq_false_iff_ne];exact ht
  have HR2:=mk0 (show r=false by rw[HR.out,htb];simp)
  go_enter Tryz.func38,Tryz.ntmps38
  go_wp2
  go_ret
  exact ⟨by rw[HR2.out];rfl,HB2.out⟩
theorem rowsM_drop (H:List RowH) (L:List (List CellM)) (k:Nat) (h1:k<H.length) (h2:k<L.length):(rowsM H L).drop k=⟨H[k].t,H[k].s,L[k]⟩ :: (rowsM H L).drop (k+1):=by
 by_cases h:k<(rowsM H L).length
 ·rw[List.drop_eq_getElem_cons h,rowsM_get H L k h1 h2 h]
 ·exact absurd (rowsM_lt H L k h1 h2) h
set_option maxHeartbeats 1600000 in
set_option maxRecDepth 100000 in
theorem keep_Rows (A B:Option Addr) (ca cb:Nat) (H H':List RowH) (L L':List (List CellM)) (w:World) (ha:kr.C w A H.length H) (hb:kr.C w B H'.length H') (hL:RowsOn w H L) (hL':RowsOn w H' L')
  (hl:H.length≤1099511627776) (hl':H'.length≤1099511627776) (hc:∀ c ∈ L,c.length≤1099511627776) (hc':∀ c ∈ L',c.length≤1099511627776) :
  Calls Tryz.prog 17 #[.slice A H.length ca,.slice B H'.length cb] w fun e w'=>e = .returned (.bool (eqMs (rowsM H L) (rowsM H' L')))∧Below w.heap.size w w':=by
 have HA:=mk0 ha
 have HB:=mk0 hb
 have HL:=mk0 hL
 have HL':=mk0 hL'
 have HC:=mk0 (And.intro hc hc')
 have hli:(H.length:Int)≤1099511627776:=by omega
 have hli':(H'.length:Int)≤1099511627776:=by omega
 have HB0:=mk0 (Below.refl w.heap.size w)
 obtain ⟨R,hR⟩:∃ R,R=eqMs (rowsM H L) (rowsM H' L'):=⟨_,rfl⟩
 rw[← hR]
 have HRR:=mk0 hR
 clear ha hb hL hL' hc hc' hR
 by_cases hn:H.length=H'.length
 ·have hnb:((H.length:Int)==H'.length)=true:=by rw[beq_iff_eq];omega
  have hnb2:((H.length:Int) != H'.length)=false:=by rw[bne_eq_false_iff_eq];omega
  have HN:=mk0 hn
  clear hn
  go_enter Tryz.func17,Tryz.ntmps17
  go_wp2_with fail
  go_loopw[5] (fun v5 wr=>∃ (k:Nat),k≤H.length∧v5 = .int .i64 k∧Aside0 (eqMs ((rowsM H L).drop k) ((rowsM H' L').drop k)=R)∧Aside0 (Below w.heap.size w wr)) (fun i _=>H.length-(intOf i).toNat)
  case atStart=>exact ⟨0,by omega,rfl,⟨HRR.out.symm⟩,HB0⟩
  case round=>
   clear HB0
   obtain ⟨k,hk,rfl,HE,HBW⟩:=hrel
   by_cases hlt:k<H.length
   ·have hlt2:(k:Int)<H.length:=by omega
    have hlt3:k<H'.length:=by have:=HN.out;omega
    have hlt4:(k:Int)<H'.length:=by omega
    have hm1:k<L.length:=by rw[← HL.out.1];exact hlt
    have hm2:k<L'.length:=by rw[← HL'.out.1];exact hlt3
    obtain ⟨b,o,rfl,hx⟩:=kr_open (Kd.C_below HA.out HBW.out) (by omega)
    obtain ⟨b',o',rfl,hy⟩:=kr_open (Kd.C_below HB.out HBW.out) (by omega)
    obtain ⟨x0,x1,x2⟩:=hx k hlt
    obtain ⟨y0,y1,y2⟩:=hy k hlt3
    obtain ⟨q1,q2,q3⟩:=(HL.out.below HBW.out).2 k hlt hm1
    obtain ⟨q1',q2',q3'⟩:=(HL'.out.below HBW.out).2 k hlt3 hm2
    have hcc:=HC.out.1 _ (List.getElem_mem hm1)
    have hcc':=HC.out.2 _ (List.getElem_mem hm2)
    have HE2:=mk0 (show (eqM ⟨H[k].t,H[k].s,L[k]⟩ ⟨H'[k].t,H'[k].s,L'[k]⟩ && eqMs ((rowsM H L).drop (k+1)) ((rowsM H' L').drop (k+1)))=R by
     have:=HE.out
     rw[rowsM_drop H L k hlt hm1,rowsM_drop H' L' k hlt3 hm2,eqMs] at this
     exact this)
    generalize H[k]=x at *
    generalize H'[k]=y at *
    generalize L[k]=cx at *
    generalize L'[k]=cy at *
    obtain ⟨xt,xs,xA,xn,xc⟩:=x
    obtain ⟨yt,ys,yA,yn,yc⟩:=y
    dsimp only at *
    subst q1 q1'
    have HRW:=mk0 (keep_Row xt xs yt ys xA yA xc yc cx cy wr.drew (Kd.C_drew q3) (Kd.C_drew q3') hcc hcc')
    clear hx hy HE q2 q2' q3 q3' hcc hcc'
    go_wp2_with fail
    go_region_held3 (fun w'=>w'.cell? ⟨b,o+k*3,none⟩=some (.int .i64 xt)∧w'.cell? ⟨b,o+k*3+1,none⟩=some (.int .i64 xs)∧w'.cell? ⟨b,o+k*3+2,none⟩=some (.slice xA cx.length xc)∧w'.cell? ⟨b',o'+k*3,none⟩=some (.int .i64 yt)∧w'.cell? ⟨b',o'+k*3+1,none⟩=some (.int .i64 ys)∧w'.cell? ⟨b',o'+k*3+2,none⟩=some (.slice yA cy.length yc)) (go_keep) (first
     | (go_at_call 38;(with_reducible refine HRW.out.mono ?_);rintro e w5 ⟨rfl,b5⟩;have HB5:=mk0 ((below_drew wr.heap.size wr).trans b5);have z0:w5.cell? ⟨b,o+k*3,none⟩=some (.int .i64 xt):=(HB5.out.cell (World.block_lt_of_cell? wr _ x0)).trans x0;have z1:w5.cell? ⟨b,o+k*3+1,none⟩=some (.int .i64 xs):=(HB5.out.cell (World.block_lt_of_cell? wr _ x1)).trans x1;have z2:w5.cell? ⟨b,o+k*3+2,none⟩=some (.slice xA cx.length xc):=(HB5.out.cell (World.block_lt_of_cell? wr _ x2)).trans x2;have u0:w5.cell? ⟨b',o'+k*3,none⟩=some (.int .i64 yt):=(HB5.out.cell (World.block_lt_of_cell? wr _ y0)).trans y0;have u1:w5.cell? ⟨b',o'+k*3+1,none⟩=some (.int .i64 ys):=(HB5.out.cell (World.block_lt_of_cell? wr _ y1)).trans y1;have u2:w5.cell? ⟨b',o'+k*3+2,none⟩=some (.slice yA cy.length yc):=(HB5.out.cell (World.block_lt_of_cell? wr _ y2)).trans y2;clear b5))
    have HB6:=mk0 (HBW.out.trans (HB5.out.mono HBW.out.size))
    clear x0 x1 x2 y0 y1 y2 z0 z1 z2 u0 u1 u2 HB5 HRW
    generalize eqM ⟨xt,xs,cx⟩ ⟨yt,ys,cy⟩=q at *
    cases q
    ·have HE3:=mk0 (show R=false from HE2.out.symm)
     simp only[Bool.not_false]
     go_wp2
     go_ret
     exact ⟨by rw[HE3.out];rfl,HB6.out⟩
    ·have HE3:=mk0 (show eqMs ((rowsM H L).drop (k+1)) ((rowsM H' L').drop (k+1))=R by rw[← HE2.out];rfl)
     simp only[Bool.not_true]
     go_wp2
     go_roundw
     case rel=>exact ⟨k+1,by omega,by go_num,HE3,HB6⟩
     case measure=>simp[intOf];omega
   ·have hk2:k=H.length:=by omega
    subst hk2
    have HE3:=mk0 (show R=true by
     rw[← HE.out,List.drop_of_length_le (by rw[rowsM_len H L HL.out.1];exact Nat.le_refl _),List.drop_of_length_le (by rw[rowsM_len H' L' HL'.out.1,HN.out];exact Nat.le_refl _)];rfl)
    go_wp2
    go_ret
    exact ⟨by rw[HE3.out];rfl,HBW.out⟩
 ·have hnb:((H.length:Int)==H'.length)=false:=by rw[beq_eq_false_iff_ne];omega
  have HE3:=mk0 (show R=false by
   rw[HRR.out]
   cases hh:eqMs (rowsM H L) (rowsM H' L')
   ·rfl
   ·have:=eqMs_len hh
    rw[rowsM_len H L HL.out.1,rowsM_len H' L' HL'.out.1] at this
    exact absurd this hn)
  go_enter Tryz.func17,Tryz.ntmps17
  go_wp2
  go_ret
  exact ⟨by rw[HE3.out];rfl,HB0.out⟩
end Go.Proofs.YtpiobnfakmmpdaaGreat.Lib0
namespace Go.Proofs.YtpiobnfakmmpdaaGreat.Lib0
open Go.RowKit Go.Proofs.YtpiobnfakmmpdaaGreatW.PrintWords Go.ChangeMaps
theorem set3 {W:World} {rb:Nat} {T:TypeId} {a b c:Value} (h:W.heap[rb]?=some (.cells #[a,b,c] T (0,0))) (a' b' c':Value) :
  (((W.setCell ⟨rb,0,none⟩ a').setCell ⟨rb,1,none⟩ b').setCell ⟨rb,2,none⟩ c').heap[rb]?=some (.cells #[a',b',c'] T (0,0)):=by
 rw[heap_at_setCell (heap_at_setCell (heap_at_setCell h))]
 rfl
def AtS (w:World) (t s:Int) (l:List CellM) (e:Ending) (w':World):Prop:=
 ∃ A' c',e = .returned (.agg #[.int .i64 t,.int .i64 s,.slice A' l.length c'])∧l.length≤c'∧kc.R 37 w' w.heap.size (fun _=>True) (.slice A' l.length c') l∧Below w.heap.size w w'
set_option maxHeartbeats 1600000 in
set_option maxRecDepth 100000 in
theorem keep_At1 (t s:Int) (ad:Addr) (c:Nat) (l:List CellM) (w:World) (h:kc.C w (some ad) l.length l) (hl:l.length≤1099511627776) :
  Calls Tryz.prog 18 #[.int .i64 t,.int .i64 s,.slice (some ad) l.length c] w (AtS w t s l):=by
 have HC:=mk0 h
 have HL:=mk0 hl
 obtain ⟨w0,hw0⟩:∃ w0,w0=w.alloc (.cells #[.int .i64 0,.int .i64 0,.slice none 0 0] 35):=⟨_,rfl⟩
 have hn0:=heap_alloc_new w (.cells #[.int .i64 0,.int .i64 0,.slice none 0 0] 35)
 have hb0:=below_alloc (Below.refl w.heap.size w) (.cells #[.int .i64 0,.int .i64 0,.slice none 0 0] 35)
 have hs0:(w.alloc (.cells #[.int .i64 0,.int .i64 0,.slice none 0 0] 35)).heap.size=w.heap.size+1:=by simp
 rw[← hw0] at hn0 hb0 hs0
 have HB0:=mk0 hb0
 have hb1:=below_alloc (Below.refl w0.heap.size w0) (.cells #[] 37)
 have HN:=mk0 (heap_alloc_new w0 (.cells #[] 37))
 have HB1:=mk0 hb1
 have HN0:=mk0 ((hb1.block w.heap.size (by omega)).trans hn0)
 have HC1:=mk0 (Kd.C_below h (hb0.trans (hb1.mono hb0.size)))
 have HS0:=mk0 hs0
 rw[hs0] at HN
 clear h hl hn0 hb0 hb1 hs0
 subst hw0
 go_enter Tryz.func18,Tryz.ntmps18
 go_wp2_with (at_builtin;go_loud (refine kc_flat.append_new _ (w.heap.size+1) (.tmp 9) (.tmp 10) 33 37 _ _ c ad l rfl rfl Tryz.underlying33 info_cell rfl rfl rfl HN.out (Nat.le_of_eq HS0.out) HC1.out ?c2 ?_))
 case c2=>have:=HL.out;omega
 intro v1 w2 hr2 hb2
 obtain ⟨A2,c2,rfl,hc2,_⟩:=Kd.R_reads hr2
 have hlt:=(Array.getElem?_eq_some_iff.1 HN0.out).1
 have hn2:=(hb2.block w.heap.size (by omega)).trans HN0.out
 have d0:=cell_of_heap (i:=0) hn2 rfl
 have d1:=cell_of_heap (i:=1) hn2 rfl
 have d2:=cell_of_heap (i:=2) hn2 rfl
 have e0:=frozen_of_heap (i:=0) hn2
 have e1:=frozen_of_heap (i:=1) hn2
 have e2:=frozen_of_heap (i:=2) hn2
 have s3:=set3 hn2 (.int .i64 t) (.int .i64 s) (.slice A2 l.length c2)
 have G:=mk0 (And.intro (cell_of_heap (i:=0) s3 rfl) (And.intro (cell_of_heap (i:=1) s3 rfl) (cell_of_heap (i:=2) s3 rfl)))
 have HBF:=mk0 (((((HB0.out.trans (HB1.out.mono HB0.out.size)).trans (hb2.mono (by omega))).setCell (p:=⟨w.heap.size,0,none⟩) (Nat.le_refl _) (.int .i64 t)).setCell (p:=⟨w.heap.size,1,none⟩) (Nat.le_refl _) (.int .i64 s)).setCell (p:=⟨w.heap.size,2,none⟩) (Nat.le_refl _) (.slice A2 l.length c2))
 have HRF:=mk0 (R_set_ne rfl (R_set_ne rfl (R_set_ne rfl (Kd.R_lower (base':=w.heap.size) hr2 (by omega)) hn2 (by decide) 0 (.int .i64 t)) (heap_at_setCell hn2) (by decide) 1 (.int .i64 s)) (heap_at_setCell (heap_at_setCell hn2)) (by decide) 2 (.slice A2 l.length c2))
 have HC2:=mk0 hc2
 clear hr2 hb2 hn2 s3 hc2 hlt
 go_wp2
 generalize ((w2.setCell ⟨w.heap.size,0,none⟩ (.int .i64 t)).setCell ⟨w.heap.size,1,none⟩ (.int .i64 s)).setCell ⟨w.heap.size,2,none⟩ (.slice A2 l.length c2)=Wf at *
 obtain ⟨g0,g1,g2⟩:=G.out
 refine bodyPost_ret (v:=.agg #[.int .i64 t,.int .i64 s,.slice A2 l.length c2]) (by simp[results,Tryz.results18,go_sem,g0,g1,g2]) rfl ?_
 exact ⟨A2,c2,rfl,HC2.out,HRF.out,HBF.out⟩
set_option maxHeartbeats 1600000 in
set_option maxRecDepth 100000 in
theorem keep_At0 (t s:Int) (w:World):Calls Tryz.prog 18 #[.int .i64 t,.int .i64 s,.slice none 0 0] w (AtS w t s []):=by
 have hn0:=heap_alloc_new w (.cells #[.int .i64 t,.int .i64 s,.slice (some ⟨w.heap.size+1,0,none⟩) 0 0] 35)
 have b0:=below_alloc (Below.refl w.heap.size w) (.cells #[.int .i64 t,.int .i64 s,.slice (some ⟨w.heap.size+1,0,none⟩) 0 0] 35)
 have hs0:(w.alloc (.cells #[.int .i64 t,.int .i64 s,.slice (some ⟨w.heap.size+1,0,none⟩) 0 0] 35)).heap.size=w.heap.size+1:=by simp
 have b1:=below_alloc (Below.refl _ (w.alloc (.cells #[.int .i64 t,.int .i64 s,.slice (some ⟨w.heap.size+1,0,none⟩) 0 0] 35))) (.cells #[] 37)
 have hn1:=(b1.block w.heap.size (by omega)).trans hn0
 have hn2:=heap_alloc_new (w.alloc (.cells #[.int .i64 t,.int .i64 s,.slice (some ⟨w.heap.size+1,0,none⟩) 0 0] 35)) (.cells #[] 37)
 rw[hs0] at hn2
 have g0:=cell_of_heap (i:=0) hn1 rfl
 have g1:=cell_of_heap (i:=1) hn1 rfl
 have g2:=cell_of_heap (i:=2) hn1 rfl
 have HR:=mk0 (kc_flat.R_new (base:=w.heap.size) (xs:=[]) (by omega) hn2 (Nat.le_refl _) (by unfold maxLen;simp) (by simp) (by simp[flatF]))
 have HB:=mk0 (b0.trans (b1.mono (by omega)))
 clear hn0 b0 b1 hn1 hn2 hs0
 go_enter Tryz.func18,Tryz.ntmps18
 go_wp2
 generalize (w.alloc (.cells #[.int .i64 t,.int .i64 s,.slice (some ⟨w.heap.size+1,0,none⟩) 0 0] 35)).alloc (.cells #[] 37)=Wf at *
 refine bodyPost_ret (v:=.agg #[.int .i64 t,.int .i64 s,.slice (some ⟨w.heap.size+1,0,none⟩) 0 0]) (by simp[results,Tryz.results18,go_sem,g0,g1,g2]) rfl ?_
 exact ⟨_,_,rfl,Nat.le_refl _,HR.out,HB.out⟩
end Go.Proofs.YtpiobnfakmmpdaaGreat.Lib0
namespace Go.Proofs.YtpiobnfakmmpdaaGreat.Lib0
open Go.RowKit Go.Proofs.YtpiobnfakmmpdaaGreatW.PrintWords Go.ChangeMaps
structure ZoneM where
 kind:Int
 rows:Int
 nulls:Int
 minN:Int
 maxN:Int
 minS:ByteArray
 maxS:ByteArray
def ZoneM.cells (z:ZoneM):List Value:=[.int .i64 z.kind,.int .i64 z.rows,.int .i64 z.nulls,.int .i64 z.minN,.int .i64 z.maxN,.string z.minS,.string z.maxS]
def AtZ (base g T:Nat) (W V:World) (cs:Array Value):Prop:=V.heap[g]?=some (.cells cs T)∧(∀ q,q≠g→V.heap[q]?=W.heap[q]?)∧Below base W V
theorem AtZ.start {base g T:Nat} {W:World} {cs:Array Value} (h:W.heap[g]?=some (.cells cs T)):AtZ base g T W W cs:=⟨h,fun _ _=>rfl,Below.refl _ _⟩
theorem AtZ.set {base g T:Nat} {W V:World} {cs:Array Value} (h:AtZ base g T W V cs) (hb:base≤g) (i:Nat) (u:Value):AtZ base g T W (V.setCell ⟨g,i,none⟩ u) (cs.setIfInBounds i u):=
 ⟨heap_setCell_same _ _ _ _ _ _ h.1,fun q hq=>(Below.heap_setCell _ _ _ _ hq).trans (h.2.1 q hq),h.2.2.setCell (p:=⟨g,i,none⟩) hb u⟩
theorem AtZ.drew {base g T:Nat} {W V:World} {cs:Array Value} (h:AtZ base g T W V cs):AtZ base g T W V.drew cs:=⟨h.1,h.2.1,h.2.2.trans (below_drew _ _)⟩
theorem AtZ.other {base g T:Nat} {W V:World} {cs:Array Value} (h:AtZ base g T W V cs) {q i:Nat} (hq:q≠g):V.cell? ⟨q,i,none⟩=W.cell? ⟨q,i,none⟩:=by
 have:=h.2.1 q hq
 simp[World.cell?,this]
theorem AtZ.trans {base g T:Nat} {W V U:World} {cs cs':Array Value} (h:AtZ base g T W V cs) (k:AtZ base g T V U cs'):AtZ base g T W U cs':=⟨k.1,fun q hq=>(k.2.1 q hq).trans (h.2.1 q hq),h.2.2.trans k.2.2⟩
theorem cutL {Pp G:Prop} (h:Aside0 Pp→G) (k:Aside0 Pp):G:=h k
def minT (a b:ByteArray):ByteArray:=if (lessS a b || a.toList==b.toList)=true then a else b
def maxT (a b:ByteArray):ByteArray:=if (!lessS a b)=true then a else b
theorem run_minT (P:Program) (ats:Array TypeId) (ty:TypeId) (a b:ByteArray) (W:World):(Builtin.min_ ats ty #[.string a,.string b]).run P W = .ok (.string (minT a b)) W:=by
 simp[Builtin.min_,Builtin.min2,Op.stringOp,asBool,minT,lessS]
theorem run_maxT (P:Program) (ats:Array TypeId) (ty:TypeId) (a b:ByteArray) (W:World):(Builtin.max_ ats ty #[.string a,.string b]).run P W = .ok (.string (maxT a b)) W:=by
 simp[Builtin.max_,Builtin.max2,Op.stringOp,asBool,maxT,lessS]
def ZoneM.widen1 (z x:ZoneM):ZoneM:=⟨z.kind,z.rows,z.nulls,min z.minN x.minN,max z.maxN x.maxN,minT z.minS x.minS,maxT z.maxS x.maxS⟩
def ZoneM.widen (z x:ZoneM) (first:Bool):ZoneM:=ZoneM.widen1 (if first then ⟨z.kind,z.rows,z.nulls,x.minN,x.maxN,x.minS,x.maxS⟩ else z) x
set_option maxHeartbeats 1600000 in
set_option maxRecDepth 100000 in
theorem zone_widen_true (g:Nat) (z x:ZoneM) (w:World) (base:Nat) (hb:base≤g) (hbw:base≤w.heap.size) (hz:w.heap[g]?=some (.cells z.cells.toArray 145)) :
  Calls Tryz.prog 166 #[.pointer (some ⟨g,0,none⟩),.agg x.cells.toArray,.bool true] w fun e w'=>e = .returned (.tuple #[])∧w'.heap[g]?=some (.cells (z.widen x true).cells.toArray 145)∧Below base w w':=by
 obtain ⟨k,r,n,a,b,s,t⟩:=z
 obtain ⟨xk,xr,xn,xa,xb,xs,xt⟩:=x
 have hgl:g<w.heap.size:=(Array.getElem?_eq_some_iff.1 hz).1
 have hne:w.heap.size≠g:=by omega
 have hne2:g≠w.heap.size:=by omega
 have HB0:=mk0 ((below_alloc (Below.refl w.heap.size w) (.cells #[.int .i64 xk,.int .i64 xr,.int .i64 xn,.int .i64 xa,.int .i64 xb,.string xs,.string xt] 145)).mono hbw)
 unfold ZoneM.cells at *
 dsimp only at *
 go_enter Tryz.func166,Tryz.ntmps166
 go_wp2_with fail
 obtain ⟨W,hW⟩:∃ W,W=w.alloc (.cells #[.int .i64 xk,.int .i64 xr,.int .i64 xn,.int .i64 xa,.int .i64 xb,.string xs,.string xt] 145):=⟨_,rfl⟩
 rw[← hW]
 rw[← hW] at HB0
 have hn:=heap_alloc_new w (.cells #[.int .i64 xk,.int .i64 xr,.int .i64 xn,.int .i64 xa,.int .i64 xb,.string xs,.string xt] 145)
 rw[← hW] at hn
 have hzW:W.heap[g]?=some (.cells #[.int .i64 k,.int .i64 r,.int .i64 n,.int .i64 a,.int .i64 b,.string s,.string t] 145):=by rw[hW];exact (heap_alloc_old w _ hgl).trans hz
 have HZ0:=mk0 (AtZ.start (base:=base) hzW)
 have HY3:=mk0 (show W.cell? ⟨w.heap.size,3,none⟩=some (.int .i64 xa) from cell_of_heap (i:=3) hn rfl)
 have HY4:=mk0 (show W.cell? ⟨w.heap.size,4,none⟩=some (.int .i64 xb) from cell_of_heap (i:=4) hn rfl)
 have HY5:=mk0 (show W.cell? ⟨w.heap.size,5,none⟩=some (.string xs) from cell_of_heap (i:=5) hn rfl)
 have HY6:=mk0 (show W.cell? ⟨w.heap.size,6,none⟩=some (.string xt) from cell_of_heap (i:=6) hn rfl)
 clear hn hW hz hzW
 have y3:=HY3.out
 have y4:=HY4.out
 have y5:=HY5.out
 have y6:=HY6.out
 have z3:W.cell? ⟨g,3,none⟩=some (.int .i64 a):=cell_of_heap (i:=3) HZ0.out.1 rfl
 have z4:W.cell? ⟨g,4,none⟩=some (.int .i64 b):=cell_of_heap (i:=4) HZ0.out.1 rfl
 have z5:W.cell? ⟨g,5,none⟩=some (.string s):=cell_of_heap (i:=5) HZ0.out.1 rfl
 have z6:W.cell? ⟨g,6,none⟩=some (.string t):=cell_of_heap (i:=6) HZ0.out.1 rfl
 have q3:W.frozen? ⟨g,3,none⟩=false:=frozen_of_heap HZ0.out.1
 have q4:W.frozen? ⟨g,4,none⟩=false:=frozen_of_heap HZ0.out.1
 have q5:W.frozen? ⟨g,5,none⟩=false:=frozen_of_heap HZ0.out.1
 have q6:W.frozen? ⟨g,6,none⟩=false:=frozen_of_heap HZ0.out.1
 go_region
 have HZ1:=mk0 ((((HZ0.out.set hb 3 (.int .i64 xa)).set hb 4 (.int .i64 xb)).set hb 5 (.string xs)).set hb 6 (.string xt)).drew
 obtain ⟨V,hV⟩:∃ V,V=((((W.setCell ⟨g,3,none⟩ (.int .i64 xa)).setCell ⟨g,4,none⟩ (.int .i64 xb)).setCell ⟨g,5,none⟩ (.string xs)).setCell ⟨g,6,none⟩ (.string xt)).drew:=⟨_,rfl⟩
 rw[← hV] at HZ1 ⊢
 clear hV y3 y4 y5 y6 z3 z4 z5 z6 q3 q4 q5 q6 HZ0
 have HZ1:Aside0 (AtZ base g 145 W V #[.int .i64 k,.int .i64 r,.int .i64 n,.int .i64 xa,.int .i64 xb,.string xs,.string xt]):=HZ1
 have HY3:=mk0 ((HZ1.out.other hne).trans HY3.out)
 have HY4:=mk0 ((HZ1.out.other hne).trans HY4.out)
 have HY5:=mk0 ((HZ1.out.other hne).trans HY5.out)
 have HY6:=mk0 ((HZ1.out.other hne).trans HY6.out)
 obtain ⟨a,ha⟩:∃ a',a'=xa:=⟨_,rfl⟩
 obtain ⟨b,hb2⟩:∃ a',a'=xb:=⟨_,rfl⟩
 obtain ⟨s,hs⟩:∃ a',a'=xs:=⟨_,rfl⟩
 obtain ⟨t,ht⟩:∃ a',a'=xt:=⟨_,rfl⟩
 have HE:=mk0 (And.intro ha (And.intro hb2 (And.intro hs ht)))
 have HZ1:Aside0 (AtZ base g 145 W V #[.int .i64 k,.int .i64 r,.int .i64 n,.int .i64 a,.int .i64 b,.string s,.string t]):=by rw[ha,hb2,hs,ht];exact HZ1
 clear ha hb2 hs ht
 go_wp2_with fail
 have y3:=HY3.out
 have y4:=HY4.out
 have z3:V.cell? ⟨g,3,none⟩=some (.int .i64 a):=cell_of_heap (i:=3) HZ1.out.1 rfl
 have z4:V.cell? ⟨g,4,none⟩=some (.int .i64 b):=cell_of_heap (i:=4) HZ1.out.1 rfl
 have q3:V.frozen? ⟨g,3,none⟩=false:=frozen_of_heap HZ1.out.1
 have q4:V.frozen? ⟨g,4,none⟩=false:=frozen_of_heap HZ1.out.1
 apply cutL
 ·intro key
  go_region
  all_goals exact key.out
 refine ⟨?_⟩
 have HZ2:=mk0 (((HZ1.out.set hb 3 (.int .i64 (min a xa))).set hb 4 (.int .i64 (max b xb))).drew)
 obtain ⟨U,hU⟩:∃ U,U=((V.setCell ⟨g,3,none⟩ (.int .i64 (min a xa))).setCell ⟨g,4,none⟩ (.int .i64 (max b xb))).drew:=⟨_,rfl⟩
 rw[← hU] at HZ2 ⊢
 clear hU y3 y4 z3 z4 q3 q4
 have HZ2:Aside0 (AtZ base g 145 W U #[.int .i64 k,.int .i64 r,.int .i64 n,.int .i64 (min a xa),.int .i64 (max b xb),.string s,.string t]):=HZ2
 have HY5:=mk0 ((HZ2.out.other hne).trans ((HZ1.out.other hne).symm.trans HY5.out))
 have HY6:=mk0 ((HZ2.out.other hne).trans ((HZ1.out.other hne).symm.trans HY6.out))
 clear HZ1 HY3 HY4
 go_wp2_with fail
 have hmn:=run_minT Tryz.prog #[9,9] 9 s xs
 have hmx:=run_maxT Tryz.prog #[9,9] 9 t xt
 have y5:=HY5.out
 have y6:=HY6.out
 have z5:U.cell? ⟨g,5,none⟩=some (.string s):=cell_of_heap (i:=5) HZ2.out.1 rfl
 have z6:U.cell? ⟨g,6,none⟩=some (.string t):=cell_of_heap (i:=6) HZ2.out.1 rfl
 have q5:U.frozen? ⟨g,5,none⟩=false:=frozen_of_heap HZ2.out.1
 have q6:U.frozen? ⟨g,6,none⟩=false:=frozen_of_heap HZ2.out.1
 apply cutL
 ·intro key
  go_region
  all_goals exact key.out
 refine ⟨?_⟩
 have HZ3:=mk0 (((HZ2.out.set hb 5 (.string (minT s xs))).set hb 6 (.string (maxT t xt))).drew)
 obtain ⟨X,hX⟩:∃ X,X=((U.setCell ⟨g,5,none⟩ (.string (minT s xs))).setCell ⟨g,6,none⟩ (.string (maxT t xt))).drew:=⟨_,rfl⟩
 rw[← hX] at HZ3 ⊢
 clear hX y5 y6 z5 z6 q5 q6 hmn hmx
 have HZ3:Aside0 (AtZ base g 145 W X #[.int .i64 k,.int .i64 r,.int .i64 n,.int .i64 (min a xa),.int .i64 (max b xb),.string (minT s xs),.string (maxT t xt)]):=HZ3
 have HB9:=mk0 (HB0.out.trans HZ3.out.2.2)
 go_wp2
 go_end0
 exact ⟨rfl,by obtain ⟨rfl,rfl,rfl,rfl⟩:=HE.out;exact HZ3.out.1,HB9.out⟩
set_option maxHeartbeats 1600000 in
set_option maxRecDepth 100000 in
theorem zone_widen_false (g:Nat) (z x:ZoneM) (w:World) (base:Nat) (hb:base≤g) (hbw:base≤w.heap.size) (hz:w.heap[g]?=some (.cells z.cells.toArray 145)) :
  Calls Tryz.prog 166 #[.pointer (some ⟨g,0,none⟩),.agg x.cells.toArray,.bool false] w fun e w'=>e = .returned (.tuple #[])∧w'.heap[g]?=some (.cells (z.widen x false).cells.toArray 145)∧Below base w w':=by
 obtain ⟨k,r,n,a,b,s,t⟩:=z
 obtain ⟨xk,xr,xn,xa,xb,xs,xt⟩:=x
 have hgl:g<w.heap.size:=(Array.getElem?_eq_some_iff.1 hz).1
 have hne:w.heap.size≠g:=by omega
 have hne2:g≠w.heap.size:=by omega
 have HB0:=mk0 ((below_alloc (Below.refl w.heap.size w) (.cells #[.int .i64 xk,.int .i64 xr,.int .i64 xn,.int .i64 xa,.int .i64 xb,.string xs,.string xt] 145)).mono hbw)
 unfold ZoneM.cells at *
 dsimp only at *
 go_enter Tryz.func166,Tryz.ntmps166
 go_wp2_with fail
 obtain ⟨W,hW⟩:∃ W,W=w.alloc (.cells #[.int .i64 xk,.int .i64 xr,.int .i64 xn,.int .i64 xa,.int .i64 xb,.string xs,.string xt] 145):=⟨_,rfl⟩
 rw[← hW]
 rw[← hW] at HB0
 have hn:=heap_alloc_new w (.cells #[.int .i64 xk,.int .i64 xr,.int .i64 xn,.int .i64 xa,.int .i64 xb,.string xs,.string xt] 145)
 rw[← hW] at hn
 have hzW:W.heap[g]?=some (.cells #[.int .i64 k,.int .i64 r,.int .i64 n,.int .i64 a,.int .i64 b,.string s,.string t] 145):=by rw[hW];exact (heap_alloc_old w _ hgl).trans hz
 have HZ0:=mk0 (AtZ.start (base:=base) hzW)
 have HY3:=mk0 (show W.cell? ⟨w.heap.size,3,none⟩=some (.int .i64 xa) from cell_of_heap (i:=3) hn rfl)
 have HY4:=mk0 (show W.cell? ⟨w.heap.size,4,none⟩=some (.int .i64 xb) from cell_of_heap (i:=4) hn rfl)
 have HY5:=mk0 (show W.cell? ⟨w.heap.size,5,none⟩=some (.string xs) from cell_of_heap (i:=5) hn rfl)
 have HY6:=mk0 (show W.cell? ⟨w.heap.size,6,none⟩=some (.string xt) from cell_of_heap (i:=6) hn rfl)
 clear hn hW hz hzW
 obtain ⟨V,hV⟩:∃ V,V=W:=⟨_,rfl⟩
 rw[← hV] at HY3 HY4 HY5 HY6 ⊢
 have HZ1:Aside0 (AtZ base g 145 W V #[.int .i64 k,.int .i64 r,.int .i64 n,.int .i64 a,.int .i64 b,.string s,.string t]):=by rw[hV];exact HZ0
 clear hV HZ0
 have y3:=HY3.out
 have y4:=HY4.out
 have z3:V.cell? ⟨g,3,none⟩=some (.int .i64 a):=cell_of_heap (i:=3) HZ1.out.1 rfl
 have z4:V.cell? ⟨g,4,none⟩=some (.int .i64 b):=cell_of_heap (i:=4) HZ1.out.1 rfl
 have q3:V.frozen? ⟨g,3,none⟩=false:=frozen_of_heap HZ1.out.1
 have q4:V.frozen? ⟨g,4,none⟩=false:=frozen_of_heap HZ1.out.1
 apply cutL
 ·intro key
  go_region
  all_goals exact key.out
 refine ⟨?_⟩
 have HZ2:=mk0 (((HZ1.out.set hb 3 (.int .i64 (min a xa))).set hb 4 (.int .i64 (max b xb))).drew)
 obtain ⟨U,hU⟩:∃ U,U=((V.setCell ⟨g,3,none⟩ (.int .i64 (min a xa))).setCell ⟨g,4,none⟩ (.int .i64 (max b xb))).drew:=⟨_,rfl⟩
 rw[← hU] at HZ2 ⊢
 clear hU y3 y4 z3 z4 q3 q4
 have HZ2:Aside0 (AtZ base g 145 W U #[.int .i64 k,.int .i64 r,.int .i64 n,.int .i64 (min a xa),.int .i64 (max b xb),.string s,.string t]):=HZ2
 have HY5:=mk0 ((HZ2.out.other hne).trans ((HZ1.out.other hne).symm.trans HY5.out))
 have HY6:=mk0 ((HZ2.out.other hne).trans ((HZ1.out.other hne).symm.trans HY6.out))
 clear HZ1 HY3 HY4
 go_wp2_with fail
 have hmn:=run_minT Tryz.prog #[9,9] 9 s xs
 have hmx:=run_maxT Tryz.prog #[9,9] 9 t xt
 have y5:=HY5.out
 have y6:=HY6.out
 have z5:U.cell? ⟨g,5,none⟩=some (.string s):=cell_of_heap (i:=5) HZ2.out.1 rfl
 have z6:U.cell? ⟨g,6,none⟩=some (.string t):=cell_of_heap (i:=6) HZ2.out.1 rfl
 have q5:U.frozen? ⟨g,5,none⟩=false:=frozen_of_heap HZ2.out.1
 have q6:U.frozen? ⟨g,6,none⟩=false:=frozen_of_heap HZ2.out.1
 apply cutL
 ·intro key
  go_region
  all_goals exact key.out
 refine ⟨?_⟩
 have HZ3:=mk0 (((HZ2.out.set hb 5 (.string (minT s xs))).set hb 6 (.string (maxT t xt))).drew)
 obtain ⟨X,hX⟩:∃ X,X=((U.setCell ⟨g,5,none⟩ (.string (minT s xs))).setCell ⟨g,6,none⟩ (.string (maxT t xt))).drew:=⟨_,rfl⟩
 rw[← hX] at HZ3 ⊢
 clear hX y5 y6 z5 z6 q5 q6 hmn hmx
 have HZ3:Aside0 (AtZ base g 145 W X #[.int .i64 k,.int .i64 r,.int .i64 n,.int .i64 (min a xa),.int .i64 (max b xb),.string (minT s xs),.string (maxT t xt)]):=HZ3
 have HB9:=mk0 (HB0.out.trans HZ3.out.2.2)
 go_wp2
 go_end0
 exact ⟨rfl,HZ3.out.1,HB9.out⟩
theorem zone_widen (g:Nat) (z x:ZoneM) (first:Bool) (w:World) (base:Nat) (hb:base≤g) (hbw:base≤w.heap.size) (hz:w.heap[g]?=some (.cells z.cells.toArray 145)) :
  Calls Tryz.prog 166 #[.pointer (some ⟨g,0,none⟩),.agg x.cells.toArray,.bool first] w fun e w'=>e = .returned (.tuple #[])∧w'.heap[g]?=some (.cells (z.widen x first).cells.toArray 145)∧Below base w w':=by
 cases first
 ·exact zone_widen_false g z x w base hb hbw hz
 ·exact zone_widen_true g z x w base hb hbw hz
end Go.Proofs.YtpiobnfakmmpdaaGreat.Lib0

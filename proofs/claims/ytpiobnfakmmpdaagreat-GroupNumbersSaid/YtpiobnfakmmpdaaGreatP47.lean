import Derived.Test.YtpiobnfakmmpdaaGreatP46
set_option linter.unusedVariables false
set_option linter.unusedSimpArgs false
namespace Go.Proofs.YtpiobnfakmmpdaaGreat.Lib0
open Go.RowKit Go.Proofs.YtpiobnfakmmpdaaGreatW.PrintWords Go.ChangeMaps
def kq:Kd Nat:=Kd.scalar (fun p:Nat=>Value.pointer (some ⟨p,0,none⟩)) (fun _=>rfl)
def ptC (B:Option Addr) (n c:Nat) (fr on st:Int) (gp:Option Addr):Array Value:=#[.slice B n c,.int .i64 fr,.int .u32 on,.int .i32 st,.int .u32 0,.pointer gp]
def PtRaw (w:World) (pt:Nat) (cs:Array Value):Prop:=w.heap[pt]?=some (.cells cs 113 (0,0))
theorem PtRaw.lt {w:World} {pt:Nat} {cs:Array Value} (h:PtRaw w pt cs):pt<w.heap.size:=(Array.getElem?_eq_some_iff.1 h).1
theorem PtRaw.keep {w w':World} {pt:Nat} {cs:Array Value} (h:PtRaw w pt cs) (hb:Below w.heap.size w w'):PtRaw w' pt cs:=(hb.block pt h.lt).trans h
theorem PtRaw.no {w:World} {pt:Nat} {B:Option Addr} {n c:Nat} {fr on st:Int} {gp:Option Addr} (h:PtRaw w pt (ptC B n c fr on st gp)):(∀ o x,w.cell? ⟨pt,o,none⟩≠some (.int .u8 x))∧(∀ o s,w.cell? ⟨pt,o,none⟩≠some (.string s)):=by
 unfold PtRaw ptC at h
 constructor
 ·intro o x
  unfold World.cell?
  simp only[h]
  rcases o with _ | _ | _ | _ | _ | _ | o<;>simp
 ·intro o s
  unfold World.cell?
  simp only[h]
  rcases o with _ | _ | _ | _ | _ | _ | o<;>simp
section
variable {w:World} {pt:Nat} {B:Option Addr} {n c:Nat} {fr on st:Int} {gp:Option Addr}
theorem PtRaw.off_u8 (h:PtRaw w pt (ptC B n c fr on st gp)) {A:Option Addr} {m:Nat} {l':List UInt8} (hc:u8.C w A m l'):∀ ad,A=some ad→0<m→ad.block≠pt∧ad.block<w.heap.size:=by
 rintro ad rfl hm
 obtain ⟨b,o,e,hx⟩:=sc_open hc (by have:=hc.1;omega)
 cases e
 have h0:=hx 0 (by have:=hc.1;omega)
 refine ⟨?_,World.block_lt_of_cell? w _ h0⟩
 rintro rfl
 exact h.no.1 _ _ h0
theorem PtRaw.off_kc (h:PtRaw w pt (ptC B n c fr on st gp)) {A:Option Addr} {m:Nat} {l':List CellM} (hc:kc.C w A m l'):∀ ad,A=some ad→0<m→ad.block≠pt∧ad.block<w.heap.size:=by
 rintro ad rfl hm
 obtain ⟨b,o,e,hx⟩:=kc_open hc (by have:=hc.1;omega)
 cases e
 have h0:=(hx 0 (by have:=hc.1;omega)).1
 refine ⟨?_,World.block_lt_of_cell? w _ h0⟩
 rintro rfl
 exact h.no.2 _ _ h0
theorem PtRaw.kcC (h:PtRaw w pt (ptC B n c fr on st gp)) {w':World} (hk:Keep1 pt w w') {A:Option Addr} {m:Nat} {l':List CellM} (hc:kc.C w A m l'):kc.C w' A m l':=C_keep1 kc_Kw hc (h.off_kc hc) hk
theorem PtRaw.rows (h:PtRaw w pt (ptC B n c fr on st gp)) {w':World} (hk:Keep1 pt w w') {H:List RowH} {L:List (List CellM)} (ho:RowsOn w H L):RowsOn w' H L:=
 ⟨ho.1,fun i h1 h2=>⟨(ho.2 i h1 h2).1,(ho.2 i h1 h2).2.1,h.kcC hk (ho.2 i h1 h2).2.2⟩⟩
end
theorem GrpG.off {w:World} {g base:Nat} {ts ss:List Int} {ps:List PartM} {on st:Int} {Ar:Option Addr} {nr cr:Nat} {lo hi:Int} (h:GrpG w g base ts ss ps on st Ar nr cr lo hi) {pt:Nat} {B:Option Addr} {n c:Nat} {fr on' st':Int} {gp:Option Addr} (hq:PtRaw w pt (ptC B n c fr on' st' gp)) (hne:pt≠g) (hqp:∀ p ∈ ps,p.cp≠pt) (i:Nat) (u:Value):GrpG (w.setCell ⟨pt,i,none⟩ u) g base ts ss ps on st Ar nr cr lo hi:=by
 obtain ⟨At,ct,As,cs,Ap,cp,Az,cz,Ab,cb,E,L,h1,h2,h3,h4,h5,h6⟩:=h.ex
 have hg:(w.setCell ⟨pt,i,none⟩ u).heap[g]?=w.heap[g]?:=Below.heap_setCell _ _ _ _ (fun e=>hne e.symm)
 refine ⟨⟨At,ct,As,cs,Ap,cp,Az,cz,Ab,cb,E,L,hg.trans h1,?_,R_set_ne rfl h3 hq (by decide) i u,R_set_ne rfl h4 hq (by decide) i u,h5.off hq (by decide),h6⟩⟩
 exact ⟨(World.cell?_of_block (a:=⟨g,0,none⟩) hg).trans h2.c0,(World.cell?_of_block (a:=⟨g,1,none⟩) hg).trans h2.c1,(World.cell?_of_block (a:=⟨g,2,none⟩) hg).trans h2.c2,
  R_set_ne rfl h2.R0 hq (by decide) i u,R_set_ne rfl h2.R1 hq (by decide) i u,R_set_ne rfl h2.R2 hq (by decide) i u,
  h2.K.off ((Keep1.refl pt w).set i u) hqp hq.no.1 (fun o s k hs=>absurd hs (hq.no.2 o s)),h2.ne⟩
theorem rowsM_take:∀ (H:List RowH) (L:List (List CellM)) (a:Nat),rowsM (H.take a) (L.take a)=(rowsM H L).take a
 | [],L,a=>by simp[rowsM]
 | h :: H,[],a=>by cases a<;>simp[rowsM]
 | h :: H,c :: L,0=>by simp[rowsM]
 | h :: H,c :: L,a+1=>by simp only[List.take_succ_cons,rowsM];rw[rowsM_take H L a]
theorem RowsOn.append {w:World} {H H':List RowH} {L L':List (List CellM)} (h:RowsOn w H L) (h':RowsOn w H' L'):RowsOn w (H++H') (L++L'):=by
 have e1:=h.1
 have e2:=h'.1
 refine ⟨by simp[e1,e2],fun i h1 h2=>?_⟩
 by_cases hi:i<H.length
 ·rw[List.getElem_append_left hi,List.getElem_append_left (show i<L.length by omega)]
  exact h.2 i hi _
 ·rw[List.getElem_append_right (by omega),List.getElem_append_right (by omega)]
  have:=h'.2 (i-H.length) (by rw[List.length_append] at h1;omega) (by rw[List.length_append] at h1;omega)
  simpa only[e1] using this
theorem RowsR.append {w:World} {lo:Nat} {H H':List RowH} {L L':List (List CellM)} (h:RowsR w lo H L) (h':RowsR w lo H' L'):RowsR w lo (H++H') (L++L'):=by
 have e1:=h.1
 have e2:=h'.1
 refine ⟨by simp[e1,e2],fun i h1 h2=>?_⟩
 by_cases hi:i<H.length
 ·rw[List.getElem_append_left hi,List.getElem_append_left (show i<L.length by omega)]
  exact h.2 i hi _
 ·rw[List.getElem_append_right (by omega),List.getElem_append_right (by omega)]
  have:=h'.2 (i-H.length) (by rw[List.length_append] at h1;omega) (by rw[List.length_append] at h1;omega)
  simpa only[e1] using this
end Go.Proofs.YtpiobnfakmmpdaaGreat.Lib0
namespace Go.Proofs.YtpiobnfakmmpdaaGreat.Lib0
open Go.RowKit Go.Proofs.YtpiobnfakmmpdaaGreatW.PrintWords Go.ChangeMaps
def SgC (Ap:Option Addr) (np cp:Nat) (n lo hi:Int) (Ac:Option Addr) (nc cc:Nat):Array Value:=#[.slice Ap np cp,.int .i64 n,.int .i64 lo,.int .i64 hi,.slice Ac nc cc]
structure OpS (w0 wr:World) (sg bs:Nat) (xs:List (List UInt8)) (n lo hi:Int) (Ac:Option Addr) (nc cc:Nat) (PT:List Nat):Prop where
 ex:∃ (Ap:Option Addr) (cp:Nat),wr.heap[sg]?=some (.cells (SgC Ap PT.length cp n lo hi Ac nc cc) 96 (0,0))∧kq.R 99 wr bs (fun _=>True) (.slice Ap PT.length cp) PT
 pt:∀ i (h1:i<PT.length) (h2:i<xs.length),∃ (B:Option Addr) (c:Nat),PtRaw wr PT[i] (ptC B xs[i].length c ((16*i:Nat):Int) 0 0 none)∧xs[i].length≤c∧u8.C w0 B xs[i].length xs[i]
 le:PT.length≤xs.length
 nd:PT.Pairwise (· < ·)
 lt:∀ p ∈ PT,sg<p∧p<wr.heap.size
 B:Below sg w0 wr
 s0:sg=w0.heap.size
 s1:sg≤bs
 s2:bs≤wr.heap.size
theorem OpS.next {w0 wr w7:World} {sg bs:Nat} {xs:List (List UInt8)} {n lo hi:Int} {Ac:Option Addr} {nc cc:Nat} {PT:List Nat} {Ap:Option Addr} {cp:Nat} {v1:Value} {B:Option Addr} {cB:Nat}
  (h:OpS w0 wr sg bs xs n lo hi Ac nc cc PT) (hl:PT.length<xs.length) (hh:wr.heap[sg]?=some (.cells (SgC Ap PT.length cp n lo hi Ac nc cc) 96 (0,0))) (hk:kq.R 99 wr bs (fun _=>True) (.slice Ap PT.length cp) PT)
  (hB:u8.C w0 B (xs[PT.length]'hl).length (xs[PT.length]'hl)) (hcB:(xs[PT.length]'hl).length≤cB)
  (hr:kq.R 99 w7 bs (fun _=>True) v1 (PT++[wr.heap.size])) (hb:Below bs (wr.alloc (.cells (ptC B (xs[PT.length]'hl).length cB ((16*PT.length:Nat):Int) 0 0 none) 113)) w7)
  (hg:(wr.alloc (.cells (ptC B (xs[PT.length]'hl).length cB ((16*PT.length:Nat):Int) 0 0 none) 113)).grownBy w7 (Value.slice Ap PT.length cp).ownBlock) :
  OpS w0 (w7.setCell ⟨sg,0,none⟩ v1) sg bs xs n lo hi Ac nc cc (PT++[wr.heap.size]):=by
 have ba:=below_alloc (Below.refl wr.heap.size wr) (.cells (ptC B (xs[PT.length]'hl).length cB ((16*PT.length:Nat):Int) 0 0 none) 113)
 have hn:=heap_alloc_new wr (.cells (ptC B (xs[PT.length]'hl).length cB ((16*PT.length:Nat):Int) 0 0 none) 113)
 generalize wr.alloc (.cells (ptC B (xs[PT.length]'hl).length cB ((16*PT.length:Nat):Int) 0 0 none) 113)=Va at *
 have hka:=Kd.R_below hk ba
 have hsl:=(Array.getElem?_eq_some_iff.1 hh).1
 have ha:=(ba.block sg hsl).trans hh
 have e1:=(hg.block sg (Nat.lt_of_lt_of_le hsl ba.size) (fun e=>R_not_at hka ha (by decide) e.symm)).trans ha
 have hst:∀ (q:Nat) (cs:Array Value),PtRaw Va q cs→q≠sg→PtRaw (w7.setCell ⟨sg,0,none⟩ v1) q cs:=fun q cs hq hne=>
  (Below.heap_setCell _ _ _ _ hne).trans ((hg.block q hq.lt (fun e=>R_not_at hka hq (by decide) e.symm)).trans hq)
 obtain ⟨A1,c1,hv1⟩:=Kd.R_slice hr
 have hl1:(PT++[wr.heap.size]).length=PT.length+1:=by simp
 have hsz:(w7.setCell ⟨sg,0,none⟩ v1).heap.size=w7.heap.size:=by simp[World.setCell]
 have hws:wr.heap.size<Va.heap.size:=(Array.getElem?_eq_some_iff.1 hn).1
 have hV7:Va.heap.size≤w7.heap.size:=hb.size
 refine ⟨?_,fun i h1 h2=>?_,by rw[hl1];omega,?_,fun p hp=>?_,?_,h.s0,h.s1,?_⟩
 ·rw[hv1] at hr ⊢
  exact ⟨A1,c1,heap_setCell_same _ _ 0 _ _ _ e1,R_set_ne rfl hr e1 (by decide) 0 _⟩
 ·by_cases hi:i<PT.length
  ·rw[List.getElem_append_left hi]
   obtain ⟨B',c',p1,p2,p3⟩:=h.pt i hi h2
   exact ⟨B',c',hst _ _ (p1.keep ba) (by have:=(h.lt _ (List.getElem_mem hi)).1;omega),p2,p3⟩
  ·have hi2:i=PT.length:=by omega
   subst hi2
   rw[List.getElem_append_right (Nat.le_refl _)]
   simp only[Nat.sub_self,List.getElem_cons_zero]
   exact ⟨B,cB,hst _ _ hn (by omega),hcB,hB⟩
 ·rw[List.pairwise_append]
  refine ⟨h.nd,List.pairwise_singleton _ _,fun p hp q hq=>?_⟩
  rw[List.mem_singleton] at hq
  subst hq
  exact (h.lt p hp).2
 ·rw[hsz]
  rcases List.mem_append.1 hp with hp | hp
  ·have:=h.lt p hp;exact ⟨this.1,by omega⟩
  ·rw[List.mem_singleton] at hp
   subst hp
   exact ⟨hsl,by omega⟩
 ·have hb2:Below sg wr w7:=(ba.mono (Nat.le_of_lt hsl)).trans (hb.mono h.s1)
  exact (h.B.trans hb2).setCell (p:=⟨sg,0,none⟩) (Nat.le_refl _) _
 ·rw[hsz]
  have:=h.s2
  omega
theorem OpS.keep {w0 wr w7 W6:World} {sg bs:Nat} {xs:List (List UInt8)} {n lo hi:Int} {Ac:Option Addr} {nc cc:Nat} {PT:List Nat} {o:Obj} {v1:Value} (h:OpS w0 wr sg bs xs n lo hi Ac nc cc PT) (hk:Keep1 sg W6 wr) (h6:bs=W6.heap.size) (hb:Below bs (wr.alloc o) w7):Keep1 sg W6 (w7.setCell ⟨sg,0,none⟩ v1):=by
 have ba:=below_alloc (Below.refl wr.heap.size wr) o
 have hs2:=h.s2
 exact (⟨(hb.os.trans ba.os).trans hk.os,(hb.tape.trans ba.tape).trans hk.tape,(hb.output.trans ba.output).trans hk.output,Nat.le_trans hk.size (Nat.le_trans ba.size hb.size),fun k h1 h2=>(hb.block k (by omega)).trans ((ba.block k (by omega)).trans (hk.block k h1 h2))⟩:Keep1 sg W6 w7).set 0 v1
structure SegAt (w:World) (sg:Nat) (M:List RowM) (PT:List Nat):Prop where
 ex:∃ (Ap:Option Addr) (cp:Nat) (Ac:Option Addr) (cc:Nat) (lo hi:Int),w.heap[sg]?=some (.cells (SgC Ap PT.length cp M.length lo hi Ac (growsR [] M).1.length cc) 96 (0,0))∧kq.C w Ap PT.length PT∧kl.C w Ac (growsR [] M).1.length (growsR [] M).1∧(M.map (·.t))[0]?=some lo∧(M.map (·.t))[M.length-1]?=some hi
 len:PT.length=nP M
 pt:∀ i (h1:i<PT.length),∃ (B:Option Addr) (c:Nat),PtRaw w PT[i] (ptC B (bytesM ((M.drop (16*i)).take 16)).length c ((16*i:Nat):Int) 0 0 none)∧(bytesM ((M.drop (16*i)).take 16)).length≤c∧u8.C w B (bytesM ((M.drop (16*i)).take 16)).length (bytesM ((M.drop (16*i)).take 16))
 nd:PT.Pairwise (· < ·)
 lt:∀ p ∈ PT,sg<p
theorem SegAt.below {w w':World} {sg:Nat} {M:List RowM} {PT:List Nat} (h:SegAt w sg M PT) (hb:Below w.heap.size w w'):SegAt w' sg M PT:=by
 obtain ⟨Ap,cp,Ac,cc,lo,hi,h1,h2,h3,h4⟩:=h.ex
 exact ⟨⟨Ap,cp,Ac,cc,lo,hi,(hb.block sg (Array.getElem?_eq_some_iff.1 h1).1).trans h1,Kd.C_below h2 hb,Kd.C_below h3 hb,h4⟩,h.len,fun i h1=>by
  obtain ⟨B,c,p1,p2,p3⟩:=h.pt i h1
  exact ⟨B,c,p1.keep hb,p2,Kd.C_below p3 hb⟩,h.nd,h.lt⟩
end Go.Proofs.YtpiobnfakmmpdaaGreat.Lib0
namespace Go.Proofs.YtpiobnfakmmpdaaGreat.Lib0
open Go.RowKit Go.Proofs.YtpiobnfakmmpdaaGreatW.PrintWords Go.ChangeMaps
theorem PtRaw.cells {w:World} {pt:Nat} {B:Option Addr} {n c:Nat} {fr on st:Int} {gp:Option Addr} (h:PtRaw w pt (ptC B n c fr on st gp)):w.cell? ⟨pt,0,none⟩=some (.slice B n c)∧w.cell? ⟨pt,2,none⟩=some (.int .u32 on)∧w.cell? ⟨pt,3,none⟩=some (.int .i32 st)∧w.cell? ⟨pt,5,none⟩=some (.pointer gp)∧∀ i,w.frozen? ⟨pt,i,none⟩=false:=
 ⟨cell_of_heap (i:=0) h rfl,cell_of_heap (i:=2) h rfl,cell_of_heap (i:=3) h rfl,cell_of_heap (i:=5) h rfl,fun i=>frozen_of_heap h⟩
theorem PtRaw.setOn {w:World} {pt:Nat} {B:Option Addr} {n c:Nat} {fr on st:Int} {gp:Option Addr} (h:PtRaw w pt (ptC B n c fr on st gp)) (on':Int):PtRaw (w.setCell ⟨pt,2,none⟩ (.int .u32 on')) pt (ptC B n c fr on' st gp):=heap_at_setCell h
theorem PtRaw.setSt {w:World} {pt:Nat} {B:Option Addr} {n c:Nat} {fr on st:Int} {gp:Option Addr} (h:PtRaw w pt (ptC B n c fr on st gp)) (st':Int):PtRaw (w.setCell ⟨pt,3,none⟩ (.int .i32 st')) pt (ptC B n c fr on st' gp):=heap_at_setCell h
end Go.Proofs.YtpiobnfakmmpdaaGreat.Lib0
namespace Go.Proofs.YtpiobnfakmmpdaaGreat.Lib0
open Go.RowKit Go.Proofs.YtpiobnfakmmpdaaGreatW.PrintWords Go.ChangeMaps
structure SegF (w w':World) (PT:List Nat) (j:Nat):Prop where
 os:w'.os=w.os
 tape:w'.tape=w.tape
 output:w'.output=w.output
 size:w.heap.size≤w'.heap.size
 block:∀ k,k<w.heap.size→(∀ i (h:i<PT.length),i<j→k≠PT[i])→w'.heap[k]?=w.heap[k]?
theorem SegF.refl (w:World) (PT:List Nat):SegF w w PT 0:=⟨rfl,rfl,rfl,Nat.le_refl _,fun _ _ _=>rfl⟩
theorem SegF.next {w w1 w2:World} {PT:List Nat} {j:Nat} (h:SegF w w1 PT j) (hj:j<PT.length) (hk:Keep1 PT[j] w1 w2):SegF w w2 PT (j+1):=
 ⟨hk.os.trans h.os,hk.tape.trans h.tape,hk.output.trans h.output,Nat.le_trans h.size hk.size,fun k h1 h2=>(hk.block k (Nat.lt_of_lt_of_le h1 h.size) (h2 j hj (Nat.lt_succ_self j))).trans (h.block k h1 (fun i hi hij=>h2 i hi (Nat.lt_succ_of_lt hij)))⟩
theorem SegF.grow {w w1 w2:World} {PT:List Nat} {j:Nat} (h:SegF w w1 PT j) (hb:Below w.heap.size w1 w2):SegF w w2 PT j:=
 ⟨hb.os.trans h.os,hb.tape.trans h.tape,hb.output.trans h.output,Nat.le_trans h.size hb.size,fun k h1 h2=>(hb.block k h1).trans (h.block k h1 h2)⟩
theorem SegF.below {w w1:World} {PT:List Nat} {j base:Nat} (h:SegF w w1 PT j) (hb:base≤w.heap.size) (hp:∀ p ∈ PT,base≤p):Below base w w1:=
 ⟨h.os,h.tape,h.output,h.size,fun k hk=>h.block k (by omega) (fun i hi _ e=>by have:=hp PT[i] (List.getElem_mem hi);omega)⟩
theorem SegF.C {α:Type} {d:Kd α} (hK:∀ w w' x cs,d.K w x cs→d.K w' x cs) {w w1:World} {PT:List Nat} {j:Nat} (h:SegF w w1 PT j) (hs:0<d.sz) {A:Option Addr} {m:Nat} {l:List α} (hc:d.C w A m l) (hoff:∀ i (hi:i<PT.length) ad,A=some ad→0<m→ad.block≠PT[i]):d.C w1 A m l:=by
 refine ⟨hc.1,hc.2.1,fun hn=>?_⟩
 obtain ⟨ad,e,hx⟩:=hc.2.2 hn
 have hlt:ad.block<w.heap.size:=C_lt hs hc ad e hn
 refine ⟨ad,e,fun q p hp'=>?_⟩
 obtain ⟨cs,hl,hkk,hcell⟩:=hx q p hp'
 refine ⟨cs,hl,hK _ _ _ _ hkk,fun k v hv=>?_⟩
 rw[← hcell k v hv]
 exact World.cell?_of_block (by rw[add_block];exact h.block _ hlt (fun i hi _=>hoff i hi ad e hn))
end Go.Proofs.YtpiobnfakmmpdaaGreat.Lib0
namespace Go.Proofs.YtpiobnfakmmpdaaGreat.Lib0
open Go.RowKit Go.Proofs.YtpiobnfakmmpdaaGreatW.PrintWords Go.ChangeMaps
end Go.Proofs.YtpiobnfakmmpdaaGreat.Lib0
namespace Go.Proofs.YtpiobnfakmmpdaaGreat.Lib0
open Go.RowKit Go.Proofs.YtpiobnfakmmpdaaGreatW.PrintWords Go.ChangeMaps
end Go.Proofs.YtpiobnfakmmpdaaGreat.Lib0
namespace Go.Proofs.YtpiobnfakmmpdaaGreat.Lib0
open Go.RowKit Go.Proofs.YtpiobnfakmmpdaaGreatW.PrintWords Go.ChangeMaps
end Go.Proofs.YtpiobnfakmmpdaaGreat.Lib0
namespace Go.Proofs.YtpiobnfakmmpdaaGreat.Lib0
open Go.RowKit Go.Proofs.YtpiobnfakmmpdaaGreatW.PrintWords Go.ChangeMaps
end Go.Proofs.YtpiobnfakmmpdaaGreat.Lib0
namespace Go.Proofs.YtpiobnfakmmpdaaGreat.Lib0
open Go.RowKit Go.Proofs.YtpiobnfakmmpdaaGreatW.PrintWords Go.ChangeMaps
end Go.Proofs.YtpiobnfakmmpdaaGreat.Lib0
namespace Go.Proofs.YtpiobnfakmmpdaaGreat.Lib0
open Go.RowKit Go.Proofs.YtpiobnfakmmpdaaGreatW.PrintWords Go.ChangeMaps
set_option maxRecDepth 100000 in
theorem group_Count {w:World} {g base:Nat} {ts ss:List Int} {ps:List PartM} {on st:Int} {Ar:Option Addr} {nr cr:Nat} {lo hi:Int} (h:GrpG w g base ts ss ps on st Ar nr cr lo hi) :
  Calls Tryz.prog 67 #[.pointer (some ⟨g,0,none⟩)] w fun e w'=>e = .returned (.int .i64 ts.length)∧w=w':=by
 obtain ⟨At,ct,As,cs,Ap,cp,Az,cz,Ab,cb,E,L,h1,h2,h3⟩:=h.ex
 have x0:=h2.c0
 clear h h1 h2 h3
 go_enter Tryz.func67,Tryz.ntmps67
 go_wp2
 go_ret
 exact ⟨rfl,rfl⟩
end Go.Proofs.YtpiobnfakmmpdaaGreat.Lib0
namespace Go.Proofs.YtpiobnfakmmpdaaGreat.Lib0
open Go.RowKit Go.Proofs.YtpiobnfakmmpdaaGreatW.PrintWords Go.ChangeMaps
set_option maxHeartbeats 3200000 in
set_option maxRecDepth 100000 in
theorem law16_known (w:World):Calls Tryz.prog 24 #[] w fun e w'=>e = .returned (.bool true)∧Below w.heap.size w w':=by
 have HW0:=mk0 (group_Write none 0 [] [] w ⟨rfl,by simp,fun h=>by simp at h⟩ ⟨rfl,fun i h1=>by simp at h1⟩ (fun r hr=>by simp[rowsM] at hr))
 simp only[List.length_nil] at HW0
 rw[show writeR [] []=([],4) from rfl] at HW0
 go_enter Tryz.func24,Tryz.ntmps24
 go_wp2_with fail
 (with_reducible refine HW0.out.mono ?_)
 rintro e w1 ⟨v1,rfl,hr1,hb1⟩
 obtain ⟨A1,c1,rfl⟩:=Kd.R_slice hr1
 have B1:=mk0 hb1
 clear hr1 hb1 HW0
 have HN:=mk0 (keep_Num oneA 5 w1)
 unfold oneA at HN
 go_wp2_with fail
 (with_reducible refine HN.out.mono ?_)
 rintro e w2 ⟨rfl,hb2⟩
 have B2:=mk0 hb2
 clear hb2 HN
 have hn3:=heap_alloc_new w2 (.cells #[.string ⟨#[97]⟩,.int .i64 1,.int .i64 5,.string ⟨#[]⟩] 37)
 have B3:=mk0 (below_alloc (Below.refl w2.heap.size w2) (.cells #[.string ⟨#[97]⟩,.int .i64 1,.int .i64 5,.string ⟨#[]⟩] 37))
 have hc3:=C_of (kc_flat.R_new (base:=0) (xs:=[⟨⟨#[97]⟩,1,5,⟨#[]⟩⟩]) (cap:=1) (Nat.zero_le _) hn3 (by decide) (by decide) rfl rfl)
 have HA1:=mk0 (show Calls Tryz.prog 18 #[.int .i64 1,.int .i64 0,.slice (some ⟨w2.heap.size,0,none⟩) 1 1] (w2.alloc (.cells #[.string ⟨#[97]⟩,.int .i64 1,.int .i64 5,.string ⟨#[]⟩] 37)) (AtS (w2.alloc (.cells #[.string ⟨#[97]⟩,.int .i64 1,.int .i64 5,.string ⟨#[]⟩] 37)) 1 0 [⟨⟨#[97]⟩,1,5,⟨#[]⟩⟩]) from keep_At1 1 0 ⟨w2.heap.size,0,none⟩ 1 [⟨⟨#[97]⟩,1,5,⟨#[]⟩⟩] _ hc3 (by decide))
 clear hn3 hc3
 go_wp2_with fail
 (with_reducible refine HA1.out.mono ?_)
 rintro e w4 ⟨A4,c4,rfl,hc4,hr4,hb4⟩
 have B4:=mk0 hb4
 have R4:=mk0 hr4
 have C4:=mk0 hc4
 clear hb4 hr4 hc4 HA1
 have HA2:=mk0 (keep_At0 1 1 w4)
 go_wp2_with fail
 (with_reducible refine HA2.out.mono ?_)
 rintro e w5 ⟨A5,c5,rfl,hc5,hr5,hb5⟩
 have B5:=mk0 hb5
 have R5:=mk0 hr5
 have C5:=mk0 hc5
 clear hb5 hr5 hc5 HA2
 go_wp2_with fail
 obtain ⟨W,hW⟩:∃ W,W=w5.alloc (.cells #[.int .i64 1,.int .i64 0,.slice A4 1 c4,.int .i64 1,.int .i64 1,.slice A5 0 c5] 35):=⟨_,rfl⟩
 have hn6:=heap_alloc_new w5 (.cells #[.int .i64 1,.int .i64 0,.slice A4 1 c4,.int .i64 1,.int .i64 1,.slice A5 0 c5] 35)
 have hb6:=below_alloc (Below.refl w5.heap.size w5) (.cells #[.int .i64 1,.int .i64 0,.slice A4 1 c4,.int .i64 1,.int .i64 1,.slice A5 0 c5] 35)
 rw[← hW] at hn6 hb6 ⊢
 have hr6:=C_of (kr_flat.R_new (base:=0) (xs:=[⟨1,0,A4,1,c4⟩,⟨1,1,A5,0,c5⟩]) (cap:=2) (Nat.zero_le _) hn6 (Nat.le_refl 2) (by decide) rfl rfl)
 have ho6:RowsOn W [⟨1,0,A4,1,c4⟩,⟨1,1,A5,0,c5⟩] [[⟨⟨#[97]⟩,1,5,⟨#[]⟩⟩],[]]:=by
  refine ⟨rfl,fun i h1 h2=>?_⟩
  rcases i with _ | _ | i
  ·exact ⟨rfl,C4.out,C_of (Kd.R_below (Kd.R_below R4.out B5.out) hb6)⟩
  ·exact ⟨rfl,C5.out,C_of (Kd.R_below R5.out hb6)⟩
  ·simp at h1;omega
 have hk6:rowsM [⟨1,0,A4,1,c4⟩,⟨1,1,A5,0,c5⟩] [[⟨⟨#[97]⟩,1,5,⟨#[]⟩⟩],[]]=knownM:=rfl
 have BW:=mk0 (show Below w.heap.size w W from B1.out.trans ((B2.out.trans ((B3.out.trans ((B4.out.trans ((B5.out.trans (hb6.mono B5.out.size)).mono B4.out.size)).mono B3.out.size)).mono B2.out.size)).mono B1.out.size))
 clear hW hn6 hb6 B1 B2 B3 B4 B5 R4 R5 C4 C5
 obtain ⟨ad,had⟩:∃ ad:Addr,ad=⟨w5.heap.size,0,none⟩:=⟨_,rfl⟩
 obtain ⟨H,hH⟩:∃ H:List RowH,H = [⟨1,0,A4,1,c4⟩,⟨1,1,A5,0,c5⟩]:=⟨_,rfl⟩
 obtain ⟨L,hL⟩:∃ L:List (List CellM),L = [[⟨⟨#[97]⟩,1,5,⟨#[]⟩⟩],[]]:=⟨_,rfl⟩
 rw[← hH,← hL] at ho6 hk6
 rw[← hH] at hr6
 rw[← had] at hr6 ⊢
 have HL2:=mk0 (show H.length=2 by rw[hH];rfl)
 rw[HL2.out] at hr6
 have hcl:∀ c ∈ L,c.length≤1099511627776:=by rw[hL];intro c hc;simp at hc;rcases hc with rfl | rfl<;>decide
 have HWR:=mk0 (group_Write (some ad) 2 H L W (by rw[HL2.out];exact hr6) ho6 (by rw[hk6];exact known_I64))
 rw[HL2.out,writeR_M ho6.1,hk6,known_write] at HWR
 have HR6:=mk0 hr6
 have HO6:=mk0 ho6
 have HK6:=mk0 hk6
 have HCL:=mk0 hcl
 clear hr6 ho6 hk6 hcl had hH hL
 go_wp2_with fail
 (with_reducible refine HWR.out.mono ?_)
 rintro e w7 ⟨v7,rfl,hr7,hb7⟩
 obtain ⟨A7,c7,rfl⟩:=Kd.R_slice hr7
 have R7:=mk0 hr7
 have B7:=mk0 (BW.out.trans (hb7.mono BW.out.size))
 have O7:=mk0 (HO6.out.below hb7)
 have K7:=mk0 (Kd.C_below HR6.out hb7)
 obtain ⟨A',c',e9,hc7,_⟩:=Kd.R_reads hr7
 cases e9
 have HRD:=mk0 (group_Read A7 c7 (writeM knownM).1 w7 (C_of hr7) hc7 (by have:=known_len;omega))
 clear hr7 hb7 hc7 HWR BW HR6 HO6
 have hkl:=known_len
 have HKR:=mk0 (fun x (h:readG (writeM knownM).1=some x)=>known_read h)
 have HKS:=mk0 known_some
 generalize (writeM knownM).1=lb at *
 go_wp2_with fail
 (with_reducible refine HRD.out.mono ?_)
 intro e w8 hrd
 rcases hrd with ⟨hnone,_⟩ | ⟨ts,ss,ps,lo,hi,hs,rfl,hg,hlo,hhi,hb8⟩
 ·exact absurd hnone HKS.out
 have HF:=mk0 (readG_some hs)
 have HE:=mk0 (HKR.out _ hs)
 have HG:=mk0 hg.g
 have B8:=mk0 hb8
 clear hs hg hlo hhi hb8 HRD HKR HKS
 have HCT:=mk0 (group_Count HG.out)
 rw[HE.out.1] at HCT
 go_wp2_with fail
 (with_reducible refine HCT.out.mono ?_)
 rintro e w9 ⟨rfl,rfl⟩
 go_wp2_with fail
 have HRW:=mk0 (group_Rows (.inl HG.out) HF.out.fit B8.out.size)
 (with_reducible refine HRW.out.mono ?_)
 rintro e w10 ⟨H',L',A9,c9,rfl,hr9,ho9,hk9,hg9,hf9⟩
 have B10:=mk0 (FrG.below HG.out.K hf9 (Nat.le_refl _) B8.out.size)
 have hl9:=built_lens ho9.1 hk9 HF.out.ps12
 have BB:=mk0 (B8.out.trans B10.out)
 have hcl:=HCL.out
 have HKR:=mk0 (keep_Rows A9 (some ad) c9 2 H' H L' L w10 (C_of hr9) (by rw[HL2.out];exact Kd.C_below K7.out BB.out) ho9 (O7.out.below BB.out) (by have:=hl9.1;have:=HF.out.n16;omega) (by rw[HL2.out];decide) (fun c hc=>by have:=hl9.2 c hc;omega) hcl)
 rw[HL2.out,hk9,HK6.out,HE.out.2] at HKR
 have BF:=mk0 (B7.out.trans (BB.out.mono B7.out.size))
 clear hr9 ho9 hk9 hg9 hf9 B10 hl9 hcl HRW
 go_wp2_with fail
 (with_reducible refine HKR.out.mono ?_)
 rintro e w11 ⟨rfl,hb11⟩
 have BZ:=mk0 (BF.out.trans (hb11.mono BF.out.size))
 clear hb11
 go_wp2
 go_ret
 exact ⟨rfl,BZ.out⟩
end Go.Proofs.YtpiobnfakmmpdaaGreat.Lib0

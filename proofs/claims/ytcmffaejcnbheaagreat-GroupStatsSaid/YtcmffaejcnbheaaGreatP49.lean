import Derived.Test.YtcmffaejcnbheaaGreatP30
import Derived.Test.YtcmffaejcnbheaaGreatP45
import Derived.Test.YtcmffaejcnbheaaGreatP47
import Derived.Test.YtcmffaejcnbheaaGreatP48
set_option linter.unusedVariables false
set_option linter.unusedSimpArgs false
namespace Go.Proofs.YtcmffaejcnbheaaGreat.Lib0
open Go.RowKit Go.Proofs.YtcmffaejcnbheaaGreatW.PrintWords Go.ChangeMaps
theorem info_zoneR:(Tryz.prog.info? 65).map (fun i=>(i.zero,i.size,i.bytes))=some (some (.agg #[.string ⟨#[]⟩,.int .i64 0,.int .i64 0,.int .i64 0,.int .i64 0,.int .i64 0,.string ⟨#[]⟩,.string ⟨#[]⟩]),8,88):=by kernel_rfl
theorem info_bloomR:(Tryz.prog.info? 72).map (fun i=>(i.zero,i.size,i.bytes))=some (some (.agg #[.string ⟨#[]⟩,.int .i64 0,.slice none 0 0]),3,48):=by kernel_rfl
def zoneC (M:List RowM) (x:ColM):ZoneE:=⟨x.name,zoneB x.kind (columnB M x.name)⟩
def bloomC (M:List RowM) (x:ColM):List BloomM:=if x.kind=2 then [⟨x.name,bloomBits (dictL (textsK (columnB M x.name))).length,bloomB (textsK (columnB M x.name))⟩] else []
def bloomsC (M:List RowM) (xs:List ColM):List BloomM:=(xs.map (bloomC M)).flatten
theorem bloomsC_next (M:List RowM) (xs:List ColM) (j:Nat) (h:j<xs.length):bloomsC M (xs.take (j+1))=bloomsC M (xs.take j)++bloomC M xs[j]:=by
 unfold bloomsC
 rw[take_next xs j h,List.map_append,List.flatten_append]
 simp
theorem bloomsC_len (M:List RowM) (xs:List ColM):(bloomsC M xs).length≤xs.length:=by
 induction xs with
 | nil=>simp[bloomsC]
 | cons x t ih=>
  unfold bloomsC at *
  rw[List.map_cons,List.flatten_cons,List.length_append,List.length_cons]
  have:(bloomC M x).length≤1:=by unfold bloomC;split<;>simp
  omega
structure StT (w V:World) (sb:Nat) (n lo hi:Int) (zs:List ZoneE) (es:List BloomM):Prop where
 ex:∃ (Az:Option Addr) (cz:Nat) (Ab:Option Addr) (cb:Nat) (E:List BloomE) (L:List (List UInt8)),
  V.heap[sb]?=some (.cells #[.int .i64 n,.int .i64 lo,.int .i64 hi,.slice Az zs.length cz,.slice Ab E.length cb] 50)∧
  kz.R 65 V w.heap.size (fun _=>True) (.slice Az zs.length cz) zs∧kb.R 72 V w.heap.size (fun _=>True) (.slice Ab E.length cb) E∧
  BlR V w.heap.size E L∧bloomsM E L=es∧zs.length≤cz∧E.length≤cb
 F:Below w.heap.size w V
theorem BlR.below {w w':World} {lo:Nat} {E:List BloomE} {L:List (List UInt8)} (h:BlR w lo E L) (hb:Below w.heap.size w w'):BlR w' lo E L:=
 ⟨h.1,fun i h1 h2=>⟨(h.2 i h1 h2).1,(h.2 i h1 h2).2.1,Kd.R_below (h.2 i h1 h2).2.2 hb⟩⟩
theorem StT.below {w V V':World} {sb:Nat} {n lo hi:Int} {zs:List ZoneE} {es:List BloomM} (h:StT w V sb n lo hi zs es) (hb:Below V.heap.size V V'):StT w V' sb n lo hi zs es:=by
 obtain ⟨Az,cz,Ab,cb,E,L,h1,h2,h3,h4,h5⟩:=h.ex
 exact ⟨⟨Az,cz,Ab,cb,E,L,(hb.block sb (Array.getElem?_eq_some_iff.1 h1).1).trans h1,Kd.R_below h2 hb,Kd.R_below h3 hb,h4.below hb,h5⟩,h.F.trans (hb.mono h.F.size)⟩
theorem stt_zone {w V V1:World} {sb:Nat} {n lo hi:Int} {zs:List ZoneE} {es:List BloomM} {y:ZoneE} {Az:Option Addr} {cz:Nat} {Ab:Option Addr} {cb:Nat} {E:List BloomE} {L:List (List UInt8)} {v1:Value}
  (h1:V.heap[sb]?=some (.cells #[.int .i64 n,.int .i64 lo,.int .i64 hi,.slice Az zs.length cz,.slice Ab E.length cb] 50))
  (h2:kz.R 65 V w.heap.size (fun _=>True) (.slice Az zs.length cz) zs) (h3:kb.R 72 V w.heap.size (fun _=>True) (.slice Ab E.length cb) E) (h4:BlR V w.heap.size E L) (h5:bloomsM E L=es)
  (h9:E.length≤cb) (hf:Below w.heap.size w V) (hsl:w.heap.size≤sb)
  (hr:kz.R 65 V1 w.heap.size (fun _=>True) v1 (zs++[y])) (hb:Below w.heap.size V V1) (hg:V.grownBy V1 (Value.slice Az zs.length cz).ownBlock) :
  StT w (V1.setCell ⟨sb,3,none⟩ v1) sb n lo hi (zs++[y]) es:=by
 have e1:=(hg.block sb (Array.getElem?_eq_some_iff.1 h1).1 (fun e=>R_not_at h2 h1 (by decide) e.symm)).trans h1
 obtain ⟨A1,c1,rfl,hc1,_⟩:=Kd.R_reads hr
 exact ⟨⟨A1,c1,Ab,cb,E,L,heap_setCell_same _ _ 3 _ _ _ e1,R_set_ne rfl hr e1 (by decide) 3 _,R_set_ne rfl (R_grown_ne rfl h3 h2 (by decide) hg) e1 (by decide) 3 _,(h4.grown h2 (by decide) hg).off e1 (by decide),h5,hc1,h9⟩,
  (hf.trans hb).trans ((Below.refl w.heap.size V1).setCell (p:=⟨sb,3,none⟩) hsl _)⟩
theorem stt_bloom {w V V1:World} {sb:Nat} {n lo hi:Int} {zs:List ZoneE} {es:List BloomM} {y:BloomE} {bb:List UInt8} {Az:Option Addr} {cz:Nat} {Ab:Option Addr} {cb:Nat} {E:List BloomE} {L:List (List UInt8)} {v1:Value}
  (h1:V.heap[sb]?=some (.cells #[.int .i64 n,.int .i64 lo,.int .i64 hi,.slice Az zs.length cz,.slice Ab E.length cb] 50))
  (h2:kz.R 65 V w.heap.size (fun _=>True) (.slice Az zs.length cz) zs) (h3:kb.R 72 V w.heap.size (fun _=>True) (.slice Ab E.length cb) E) (h4:BlR V w.heap.size E L) (h5:bloomsM E L=es)
  (h8:zs.length≤cz) (hf:Below w.heap.size w V) (hsl:w.heap.size≤sb)
  (hy:y.n=bb.length) (hyc:bb.length≤y.c) (hyr:u8.R 5 V w.heap.size (fun _=>True) (.slice y.A y.n y.c) bb)
  (hr:kb.R 72 V1 w.heap.size (fun _=>True) v1 (E++[y])) (hb:Below w.heap.size V V1) (hg:V.grownBy V1 (Value.slice Ab E.length cb).ownBlock) :
  StT w (V1.setCell ⟨sb,4,none⟩ v1) sb n lo hi zs (es++[⟨y.col,y.bits,bb⟩]):=by
 have e1:=(hg.block sb (Array.getElem?_eq_some_iff.1 h1).1 (fun e=>R_not_at h3 h1 (by decide) e.symm)).trans h1
 obtain ⟨A1,c1,rfl,hc1,_⟩:=Kd.R_reads hr
 exact ⟨⟨Az,cz,A1,c1,E++[y],L++[bb],heap_setCell_same _ _ 4 _ _ _ e1,R_set_ne rfl (R_grown_ne rfl h2 h3 (by decide) hg) e1 (by decide) 4 _,R_set_ne rfl hr e1 (by decide) 4 _,((h4.grown h3 (by decide) hg).snoc y bb hy hyc (R_grown_ne rfl hyr h3 (by decide) hg)).off e1 (by decide),by rw[bloomsM_snoc _ _ _ _ h4.1,h5],h8,hc1⟩,
  (hf.trans hb).trans ((Below.refl w.heap.size V1).setCell (p:=⟨sb,4,none⟩) hsl _)⟩
def StatP (M:List RowM) (cols:List ColM) (n:Nat) (lo hi:Int) (w:World) (e:Ending) (w':World):Prop:=
 ∃ (Az:Option Addr) (cz:Nat) (Ab:Option Addr) (cb:Nat) (E:List BloomE) (L:List (List UInt8)),e = .returned (.agg #[.int .i64 n,.int .i64 lo,.int .i64 hi,.slice Az cols.length cz,.slice Ab E.length cb])∧
  kz.R 65 w' w.heap.size (fun _=>True) (.slice Az cols.length cz) (cols.map (zoneC M))∧kb.R 72 w' w.heap.size (fun _=>True) (.slice Ab E.length cb) E∧BlR w' w.heap.size E L∧bloomsM E L=bloomsC M cols∧cols.length≤cz∧E.length≤cb∧Below w.heap.size w w'
set_option maxHeartbeats 6400000 in
set_option maxRecDepth 100000 in
theorem ref_Stats (B:Option Addr) (d:Nat) (H:List RowH) (L:List (List CellM)) (w:World) (hH:kr.C w B H.length H) (hL:RowsOn w H L) (hn:0<H.length) (hl:H.length≤65536) (hsz:∀ c ∈ L,∀ x ∈ c,x.col.size≤1099511627776) (lo hi:Int) (hlo:(H[0]'hn).t=lo) (hhi:(H[H.length-1]'(by omega)).t=hi)
  (hk:∀ x ∈ (growsR [] (rowsM H L)).1,x.kind=1∨x.kind=2) (hc12:(growsR [] (rowsM H L)).1.length≤12) (hss:∀ nm,∀ c ∈ columnB (rowsM H L) nm,c.s.size≤1099511627776) :
  Calls Tryz.prog 19 #[.slice B H.length d] w (StatP (rowsM H L) (growsR [] (rowsM H L)).1 H.length lo hi w):=by
 have mixed:Tryz.prog.follows .mixedOrders=true:=by kernel_rfl
 have late:Tryz.prog.follows .lateStores=true:=by kernel_rfl
 obtain ⟨M,hM⟩:∃ M,M=rowsM H L:=⟨_,rfl⟩
 rw[← hM] at hk hc12 hss ⊢
 obtain ⟨cols,hcols⟩:∃ cols,cols=(growsR [] M).1:=⟨_,rfl⟩
 rw[← hcols] at hk hc12 ⊢
 have HME:=mk0 hM
 have HCE:=mk0 hcols
 clear hM hcols
 obtain ⟨w0,hw0⟩:∃ w0,w0=w.alloc (.cells #[.int .i64 0,.int .i64 0,.int .i64 0,.slice none 0 0,.slice none 0 0] 50):=⟨_,rfl⟩
 have hn0:=heap_alloc_new w (.cells #[.int .i64 0,.int .i64 0,.int .i64 0,.slice none 0 0,.slice none 0 0] 50)
 have hb0:=below_alloc (Below.refl w.heap.size w) (.cells #[.int .i64 0,.int .i64 0,.int .i64 0,.slice none 0 0,.slice none 0 0] 50)
 rw[← hw0] at hn0 hb0
 have HN0:=mk0 hn0
 have HB0:=mk0 hb0
 have HH:=mk0 (Kd.C_below hH hb0)
 have HL:=mk0 (hL.below hb0)
 have HSZ:=mk0 hsz
 have HSS:=mk0 hss
 have HKN:=mk0 hk
 have HC12:=mk0 hc12
 have hHi:(H.length:Int)≤65536:=by omega
 have hHi0:(0:Int)<H.length:=by omega
 obtain ⟨bt,ot,rfl,hxt⟩:=kr_open HH.out hn
 have t0:=(hxt 0 hn).1
 have t1:=(hxt (H.length-1) (by omega)).1
 rw[hlo,Nat.zero_mul,Nat.add_zero] at t0
 rw[hhi] at t1
 have hnn:wrap64 ((H.length:Int)-1)=((H.length-1:Nat):Int):=by unfold wrap64;omega
 have hnn2:IntKind.i64.wrap ((H.length:Int)-1)=((H.length-1:Nat):Int):=by rw[IntWalk.i64_in _ (by omega)];omega
 have hnn3:(((H.length-1:Nat):Int))<H.length:=by omega
 clear hlo hhi hxt hH hL hsz hss hk hc12 hn0 hb0
 go_enter Tryz.func19,Tryz.ntmps19
 go_wp2_with fail
 rw[← hw0]
 clear hw0
 have hbt:bt<w0.heap.size:=World.block_lt_of_cell? w0 _ t0
 have k1:∀ o,(w0.alloc o).cell? ⟨bt,ot,none⟩=some (.int .i64 lo):=fun o=>(World.cell?_alloc_lt _ _ ⟨bt,ot,none⟩ hbt).trans t0
 have k2:∀ o,(w0.alloc o).cell? ⟨bt,ot+(H.length-1)*3,none⟩=some (.int .i64 hi):=fun o=>(World.cell?_alloc_lt _ _ ⟨bt,ot+(H.length-1)*3,none⟩ hbt).trans t1
 go_region
 have HS1:Aside0 (StT w0 ((w0.alloc (.cells #[.int .i64 H.length,.int .i64 lo,.int .i64 hi,.slice none 0 0,.slice none 0 0] 50)).drew) w0.heap.size H.length lo hi [] []):=
  ⟨⟨none,0,none,0,[],[],heap_alloc_new w0 _,Kd.R_nil _ _ _ _ _,Kd.R_nil _ _ _ _ _,⟨rfl,fun i h1=>by simp at h1⟩,rfl,Nat.zero_le _,Nat.zero_le _⟩,(below_alloc (Below.refl w0.heap.size w0) _).trans (below_drew w0.heap.size _)⟩
 generalize (w0.alloc (.cells #[.int .i64 H.length,.int .i64 lo,.int .i64 hi,.slice none 0 0,.slice none 0 0] 50)).drew=w1 at *
 have HGR:=mk0 (ref_Grow (some ⟨bt,ot,none⟩) d H L w1 (Kd.C_below HH.out HS1.out.F) (HL.out.below HS1.out.F) (by omega) HSZ.out)
 have HCOL:=mk0 (show ∀ nm w',Below w0.heap.size w0 w'→Calls Tryz.prog 49 #[.slice (some ⟨bt,ot,none⟩) H.length d,.string nm] w' (fun e w''=>∃ A c,e = .returned (.slice A (columnB (rowsM H L) nm).length c)∧kc.R 78 w'' w'.heap.size (fun _=>True) (.slice A (columnB (rowsM H L) nm).length c) (columnB (rowsM H L) nm)∧Below w'.heap.size w' w'') from fun nm w' hb=>by
  have h:=ref_Column (some ⟨bt,ot,none⟩) d H L nm w' (Kd.C_below HH.out hb) (HL.out.below hb) (by omega)
  rw[show (columnB (rowsM H L) nm).length=H.length by unfold columnB;rw[List.length_map,rowsM_len _ _ HL.out.1]]
  exact h)
 have HLC:=mk0 (show ∀ nm,(columnB (rowsM H L) nm).length≤65536 from fun nm=>by unfold columnB;rw[List.length_map,rowsM_len _ _ HL.out.1];exact hl)
 rw[← HME.out] at HGR HCOL HLC
 rw[← HCE.out] at HGR
 generalize (growsR [] M).2.1=r1 at *
 generalize (growsR [] M).2.2=r2 at *
 clear k1 k2 t0 t1 hnn hnn2 hnn3 hbt HH HL HSZ
 go_wp2_with fail
 (with_reducible refine HGR.out.mono ?_)
 rintro e w2 ⟨v,rfl,hr2,hb2⟩
 obtain ⟨Ac,cc,rfl⟩:=Kd.R_slice hr2
 have HCR:=mk0 hr2
 have HS2:=mk0 (HS1.out.below hb2)
 have hci:(cols.length:Int)≤12:=by have:=HC12.out;omega
 clear hr2 hb2 HGR HS1
 obtain ⟨sb,hsb⟩:∃ sb,sb=w0.heap.size:=⟨_,rfl⟩
 rw[← hsb] at HS2 ⊢
 have HSB:=mk0 hsb
 clear hsb
 go_wp2_with fail
 go_loopw[7] (fun v7 wr=>∃ j:Nat,j≤cols.length∧v7 = .int .i64 j∧Aside0 (StT w0 wr sb H.length lo hi ((cols.take j).map (zoneC M)) (bloomsC M (cols.take j)))∧Aside0 (kl.R 88 wr w1.heap.size (fun _=>True) (.slice Ac cols.length cc) cols)) (fun i _=>cols.length-(intOf i).toNat)
 case atStart=>exact ⟨0,by omega,rfl,HS2,HCR⟩
 case round=>
  clear HS2 HCR
  obtain ⟨j,hj,rfl,HST,HCR⟩:=hrel
  by_cases hjl:j<cols.length
  ·have hjl2:(j:Int)<cols.length:=by omega
   obtain ⟨bk,ok,rfl,hxk⟩:=kl_open (C_of HCR.out) (by omega)
   obtain ⟨q0,q1⟩:=hxk j hjl
   obtain ⟨x,hx⟩:∃ x,x=cols[j]:=⟨_,rfl⟩
   have HNZ:=mk0 (show (cols.take (j+1)).map (zoneC M)=(cols.take j).map (zoneC M)++[zoneC M x] by rw[take_next _ j hjl,List.map_append,hx];rfl)
   have HNB:=mk0 (show bloomsC M (cols.take (j+1))=bloomsC M (cols.take j)++bloomC M x by rw[bloomsC_next _ _ j hjl,hx])
   have HKX:=mk0 (show x.kind=1∨x.kind=2 from HKN.out x (by rw[hx];exact List.getElem_mem hjl))
   have HJX:=mk0 hx
   rw[← hx] at q0 q1
   clear hx hxk
   have HZL:=mk0 (show ((cols.take j).map (zoneC M)).length≤1048576 by rw[List.length_map,List.length_take];omega)
   have HBL:=mk0 (show (bloomsC M (cols.take j)).length≤1048576 by have:=bloomsC_len M (cols.take j);rw[List.length_take] at this;omega)
   obtain ⟨zs,hzs⟩:∃ zs,zs=(cols.take j).map (zoneC M):=⟨_,rfl⟩
   obtain ⟨bs,hbs⟩:∃ bs,bs=bloomsC M (cols.take j):=⟨_,rfl⟩
   rw[← hzs] at HNZ HST HZL
   rw[← hbs] at HNB HST HBL
   clear hzs hbs
   have HCX:=mk0 (HCOL.out x.name wr HST.out.F)
   have HLX:=mk0 (HLC.out x.name)
   have HSX:=mk0 (HSS.out x.name)
   have HBX:=mk0 (show bloomC M x=if x.kind=2 then [⟨x.name,bloomBits (dictL (textsK (columnB M x.name))).length,bloomB (textsK (columnB M x.name))⟩] else [] from rfl)
   obtain ⟨cs,hcs⟩:∃ cs,cs=columnB M x.name:=⟨_,rfl⟩
   have HZX:=mk0 (show zoneC M x=⟨x.name,zoneB x.kind cs⟩ by rw[hcs];rfl)
   rw[← hcs] at HCX HLX HSX HBX
   clear hcs
   go_wp2_with fail
   (with_reducible refine HCX.out.mono ?_)
   rintro e W0 ⟨A8,c8,rfl,hr8,hb8⟩
   have HR8:=mk0 hr8
   have HS2:=mk0 (HST.out.below hb8)
   have HC2:=mk0 (Kd.R_below HCR.out hb8)
   clear hr8 hb8 HCX HST HCR q0 q1
   obtain ⟨bk',ok',e9,hxk⟩:=kl_open (C_of HC2.out) (by omega)
   cases e9
   obtain ⟨q0,q1⟩:=hxk j hjl
   rw[← HJX.out] at q0 q1
   clear hxk
   obtain ⟨Az,cz,Ab,cb,E,Lb,h1,h2,h3,h4,h5,h6,h7⟩:=HS2.out.ex
   have z3:=cell_of_heap (i:=3) h1 rfl
   have zf:=frozen_of_heap (i:=3) h1
   have hsl:=(Array.getElem?_eq_some_iff.1 h1).1
   have hxl:bk<W0.heap.size:=World.block_lt_of_cell? W0 _ q0
   have HH:=mk0 (And.intro h1 (And.intro h2 (And.intro h3 (And.intro h4 (And.intro h5 (And.intro h6 h7))))))
   have HZB:=mk0 (ref_Zone x.kind HKX.out A8 c8 cs W0.drew (Kd.C_drew (C_of HR8.out)) HLX.out)
   obtain ⟨z,hz⟩:∃ z,z=zoneB x.kind cs:=⟨_,rfl⟩
   rw[← hz] at HZB HZX
   obtain ⟨z0,z1,z2,z3',z4,z5,z6⟩:=z
   unfold ZoneM.cells at HZB
   dsimp only at HZB
   have hlz:=HZL.out
   have HSW:=mk0 (show w0.heap.size≤sb from Nat.le_of_eq HSB.out.symm)
   obtain ⟨i0,hi0⟩:∃ i0,i0=ok+j*2:=⟨_,rfl⟩
   clear h1 h2 h3 h4 h5 h6 h7 hz
   go_wp2_with fail
   apply cutL4 (Good:=fun w5 w7 A1 c1=>StT w0 (w7.setCell ⟨sb,3,none⟩ (.slice A1 (zs.length+1) c1)) sb H.length lo hi (zs++[⟨x.name,⟨z0,z1,z2,z3',z4,z5,z6⟩⟩]) bs∧kl.R 88 (w7.setCell ⟨sb,3,none⟩ (.slice A1 (zs.length+1) c1)) w1.heap.size (fun _=>True) (.slice (some ⟨bk,ok,none⟩) cols.length cc) cols∧kc.R 78 (w7.setCell ⟨sb,3,none⟩ (.slice A1 (zs.length+1) c1)) wr.heap.size (fun _=>True) (.slice A8 cs.length c8) cs)
   ·intro key
    go_region_law (first
     | (go_simp;go_at_call 50;(with_reducible refine HZB.out.mono ?_);rintro e w5 ⟨rfl,b5⟩;have HB5:=mk0 (show Below W0.heap.size W0 w5 from (below_drew W0.heap.size W0).trans b5);have q0a:w5.cell? ⟨bk,ok+j*2,none⟩=some (.string x.name):=(HB5.out.cell hxl).trans q0;have q1a:w5.cell? ⟨bk,ok+j*2+1,none⟩=some (.int .i64 x.kind):=(HB5.out.cell hxl).trans q1;have z3a:w5.cell? ⟨sb,3,none⟩=some (.slice Az zs.length cz):=(HB5.out.cell hsl).trans z3;have q0b:∀ o,(w5.alloc o).cell? ⟨bk,ok+j*2,none⟩=some (.string x.name):=(fun o=>(World.cell?_alloc_lt _ _ ⟨bk,ok+j*2,none⟩ (Nat.lt_of_lt_of_le hxl HB5.out.size)).trans q0a);have q1b:∀ o,(w5.alloc o).cell? ⟨bk,ok+j*2+1,none⟩=some (.int .i64 x.kind):=(fun o=>(World.cell?_alloc_lt _ _ ⟨bk,ok+j*2+1,none⟩ (Nat.lt_of_lt_of_le hxl HB5.out.size)).trans q1a);have z3b:∀ o,(w5.alloc o).cell? ⟨sb,3,none⟩=some (.slice Az zs.length cz):=(fun o=>(World.cell?_alloc_lt _ _ ⟨sb,3,none⟩ (Nat.lt_of_lt_of_le hsl HB5.out.size)).trans z3a);have HB6:=mk0 (HB5.out.trans ((below_alloc (Below.refl w5.heap.size w5) (.cells #[.string x.name,.int .i64 z0,.int .i64 z1,.int .i64 z2,.int .i64 z3',.int .i64 z4,.string z5,.string z6] 65)).mono HB5.out.size));have HRV:=mk0 (Kd.R_below HH.out.2.1 HB6.out);have HSV:=mk0 (Nat.le_trans HS2.out.F.size HB6.out.size);clear b5)
     | (refine kz_flat.one_step (V:=w5.alloc (.cells #[.string x.name,.int .i64 z0,.int .i64 z1,.int .i64 z2,.int .i64 z3',.int .i64 z4,.string z5,.string z6] 65)) w0.heap.size rfl (.tmp 45) (.tmp 59) 47 65 (.agg #[.string ⟨#[]⟩,.int .i64 0,.int .i64 0,.int .i64 0,.int .i64 0,.int .i64 0,.string ⟨#[]⟩,.string ⟨#[]⟩]) 88 rfl Tryz.underlying47 info_zoneR rfl (by decide) (by decide) (by decide) (.slice Az zs.length cz) zs ⟨x.name,⟨z0,z1,z2,z3',z4,z5,z6⟩⟩ w5.heap.size 65 rfl rfl (heap_alloc_new w5 _) HRV.out HSV.out hlz ?_;intro v1 w7 hr7 hb7 hg7 hat7;obtain ⟨A1,c1,hv1⟩:=Kd.R_slice hr7;rw[List.length_append] at hv1;replace hv1:v1 = .slice A1 (zs.length+1) c1:=hv1;subst hv1;have e1:=(hg7.block sb (Nat.lt_of_lt_of_le hsl HB6.out.size) (fun e=>R_not_at HRV.out ((HB6.out.block sb hsl).trans HH.out.1) (by decide) e.symm)).trans ((HB6.out.block sb hsl).trans HH.out.1);have HS7:=mk0 (stt_zone ((HB6.out.block sb hsl).trans HH.out.1) HRV.out (Kd.R_below HH.out.2.2.1 HB6.out) (HH.out.2.2.2.1.below HB6.out) HH.out.2.2.2.2.1 HH.out.2.2.2.2.2.2 (HS2.out.F.trans (HB6.out.mono HS2.out.F.size)) HSW.out hr7 hb7 hg7);have HC7:=mk0 (show kl.R 88 (w7.setCell ⟨sb,3,none⟩ (.slice A1 (zs.length+1) c1)) w1.heap.size (fun _=>True) (.slice (some ⟨bk,ok,none⟩) cols.length cc) cols from R_set_ne rfl (R_grown_ne rfl (Kd.R_below HC2.out HB6.out) HRV.out (by decide) hg7) e1 (by decide) 3 _);have HR7:=mk0 (show kc.R 78 (w7.setCell ⟨sb,3,none⟩ (.slice A1 (zs.length+1) c1)) wr.heap.size (fun _=>True) (.slice A8 cs.length c8) cs from R_set_ne rfl (R_grown_ne rfl (Kd.R_below HR8.out HB6.out) HRV.out (by decide) hg7) e1 (by decide) 3 _);have z3c:w7.cell? ⟨sb,3,none⟩=some (.slice Az zs.length cz):=cell_of_heap (i:=3) e1 rfl;have z3f:w7.frozen? ⟨sb,3,none⟩=false:=frozen_of_heap e1;clear hr7 hb7 hg7 hat7 e1))
    all_goals exact key.out w5 w7 A1 c1 ⟨HS7.out,HC7.out,HR7.out⟩
   ·rintro w5 w7 A1 c1 ⟨hs7,hc7,hr7⟩
    clear HH HS2 HC2 HR8 HZB q0 q1 z3 zf hxl hsl
    rw[← HZX.out,← HNZ.out] at hs7
    have HS7:=mk0 hs7
    have HC7:=mk0 hc7
    have HR7:=mk0 hr7
    clear hs7 hc7 hr7 HZX
    generalize w7.setCell ⟨sb,3,none⟩ (.slice A1 (zs.length+1) c1)=U at *
    obtain ⟨bk',ok',e9,hxk⟩:=kl_open (C_of HC7.out) (by omega)
    cases e9
    obtain ⟨q0,q1⟩:=hxk j hjl
    rw[← HJX.out] at q0 q1
    clear hxk
    by_cases hkd:x.kind=2
    ·have HNB2:=mk0 (show bloomsC M (cols.take (j+1))=bs++[⟨x.name,bloomBits (dictL (textsK cs)).length,bloomB (textsK cs)⟩] by rw[HNB.out,HBX.out,if_pos hkd])
     rw[hkd] at q1
     clear hkd
     have HI0:=mk0 (Kd.R_nil Kd.string 9 U U.heap.size (fun _=>True))
     have HU0:=mk0 (Below.refl U.heap.size U)
     have hcl:cs.length≤65536:=HLX.out
     go_wp2_with fail
     clear q0 q1
     go_loopw[9,10] (fun v9 v10 wq=>∃ i:Nat,i≤cs.length∧v10 = .int .i64 i∧Aside0 (Kd.string.R 9 wq U.heap.size (fun _=>True) v9 (textsK (cs.take i)))∧Aside0 (Below U.heap.size U wq)) (fun _ i _=>cs.length-(intOf i).toNat)
     case atStart=>exact ⟨0,by omega,rfl,HI0,HU0⟩
     case round=>
      clear HI0 HU0
      obtain ⟨i,hile,rfl,HTR,HUB⟩:=hrel
      obtain ⟨A9,c9,hv9⟩:=Kd.R_slice HTR.out
      subst hv9
      generalize wr=W1 at *
      by_cases hil:i<cs.length
      ·have hil2:(i:Int)<cs.length:=by omega
       obtain ⟨b3,o3,rfl,hx3⟩:=kc_open (Kd.C_below (C_of HR7.out) HUB.out) (by omega)
       obtain ⟨x0,x1,x2,x3⟩:=hx3 i hil
       have HNT:=mk0 (textsK_next cs i hil)
       have HTL:=mk0 (show (textsK (cs.take i)).length≤1099511627776 by unfold textsK;rw[List.length_map];exact Nat.le_trans (List.length_filter_le _ _) (by rw[List.length_take];omega))
       obtain ⟨y,hy⟩:∃ y,y=cs[i]:=⟨_,rfl⟩
       rw[← hy] at x0 x1 x2 x3 HNT
       clear hy hx3
       by_cases hyk:y.kind=2
       ·have hb2:(y.kind==2)=true:=by rw[beq_iff_eq];exact hyk
        have HNT:=mk0 (show textsK (cs.take (i+1))=textsK (cs.take i)++[y.s] by rw[HNT.out,if_pos hyk])
        clear hyk
        go_wp2_with (at_builtin;go_loud (refine str_append (W:=W1) (.tmp 80) (.tmp 86) 126 9 (.slice A9 (textsK (cs.take i)).length c9) (textsK (cs.take i)) y.s U.heap.size rfl rfl Tryz.underlying126 info_str rfl rfl HTR.out HUB.out.size HTL.out ?_))
        intro v5 w5 hr5 hb5 hg5 ha5
        rw[← HNT.out] at hr5
        have HR5:=mk0 hr5
        have HB5:=mk0 (HUB.out.trans hb5)
        clear hr5 hb5 hg5 ha5 HTR HUB HNT HTL
        go_wp2
        go_roundw
        case rel=>exact ⟨i+1,by omega,by go_num,HR5,HB5⟩
        case measure=>simp[intOf];omega
       ·have hyb:(y.kind==2)=false:=by rw[beq_eq_false_iff_ne];exact hyk
        have HR5:=mk0 (show Kd.string.R 9 W1 U.heap.size (fun _=>True) (.slice A9 (textsK (cs.take i)).length c9) (textsK (cs.take (i+1))) by rw[HNT.out,if_neg hyk,List.append_nil];exact HTR.out)
        clear hyk HTR HNT HTL
        go_wp2
        go_roundw
        case rel=>exact ⟨i+1,by omega,by go_num,HR5,HUB⟩
        case measure=>simp[intOf];omega
      ·have hil2:¬ (i:Int)<cs.length:=by omega
       have HTR:=mk0 (show Kd.string.R 9 W1 U.heap.size (fun _=>True) (.slice A9 (textsK cs).length c9) (textsK cs) by
        have h:=HTR.out
        rw[List.take_of_length_le (by omega)] at h
        exact h)
       rw[List.take_of_length_le (by omega:cs.length≤i)]
       have HS8:=mk0 (HS7.out.below HUB.out)
       have HC8:=mk0 (Kd.R_below HC7.out HUB.out)
       clear HS7 HC7 HR7
       obtain ⟨bk',ok',e9,hxk⟩:=kl_open (C_of HC8.out) (by omega)
       cases e9
       obtain ⟨q0,q1⟩:=hxk j hjl
       rw[← HJX.out] at q0 q1
       clear hxk
       obtain ⟨Az,cz,Ab,cb,E,Lb,h1,h2,h3,h4,h5,h6,h7⟩:=HS8.out.ex
       have z4:=cell_of_heap (i:=4) h1 rfl
       have zf:=frozen_of_heap (i:=4) h1
       have hsl:=(Array.getElem?_eq_some_iff.1 h1).1
       have hxl:bk<W1.heap.size:=World.block_lt_of_cell? W1 _ q0
       have hel:E.length≤1048576:=by rw[← bloomsM_len E Lb h4.1,h5];exact HBL.out
       have HH:=mk0 (And.intro h1 (And.intro h2 (And.intro h3 (And.intro h4 (And.intro h5 (And.intro h6 h7))))))
       have HTX:=mk0 (show (textsK cs).length≤65536 by unfold textsK;rw[List.length_map];exact Nat.le_trans (List.length_filter_le _ _) hcl)
       have HBB:=mk0 (ref_Bloom A9 c9 (textsK cs) W1.drew (Kd.C_drew (C_of HTR.out)) HTX.out (fun s hs=>by obtain ⟨c,hc,hck,rfl⟩:=textsK_mem hs;exact HSX.out c hc))
       obtain ⟨bb,hbb⟩:∃ bb,bb=bloomB (textsK cs):=⟨_,rfl⟩
       obtain ⟨bits,hbits⟩:∃ bits:Int,bits=bloomBits (dictL (textsK cs)).length:=⟨_,rfl⟩
       rw[← hbb,← hbits] at HBB HNB2
       clear h1 h2 h3 h4 h5 h6 h7 hbb hbits
       go_wp2_with fail
       apply cutL6 (Good:=fun w5 w7 A1 c1 Ax cx=>StT w0 (w7.setCell ⟨sb,4,none⟩ (.slice A1 (E.length+1) c1)) sb H.length lo hi ((cols.take (j+1)).map (zoneC M)) (bs++[⟨x.name,bits,bb⟩])∧kl.R 88 (w7.setCell ⟨sb,4,none⟩ (.slice A1 (E.length+1) c1)) w1.heap.size (fun _=>True) (.slice (some ⟨bk,ok,none⟩) cols.length cc) cols)
       ·intro key
        go_region_law (first
         | (go_simp;go_at_call 51;(with_reducible refine HBB.out.mono ?_);rintro e w5 ⟨Ax,cx,rfl,hcx,hrx,b5⟩;have HB5:=mk0 (show Below W1.heap.size W1 w5 from (below_drew W1.heap.size W1).trans b5);have HRX:=mk0 (And.intro hcx hrx);have q0a:w5.cell? ⟨bk,ok+j*2,none⟩=some (.string x.name):=(HB5.out.cell hxl).trans q0;have z4a:w5.cell? ⟨sb,4,none⟩=some (.slice Ab E.length cb):=(HB5.out.cell hsl).trans z4;have q0b:∀ o,(w5.alloc o).cell? ⟨bk,ok+j*2,none⟩=some (.string x.name):=(fun o=>(World.cell?_alloc_lt _ _ ⟨bk,ok+j*2,none⟩ (Nat.lt_of_lt_of_le hxl HB5.out.size)).trans q0a);have z4b:∀ o,(w5.alloc o).cell? ⟨sb,4,none⟩=some (.slice Ab E.length cb):=(fun o=>(World.cell?_alloc_lt _ _ ⟨sb,4,none⟩ (Nat.lt_of_lt_of_le hsl HB5.out.size)).trans z4a);have HB6:=mk0 (HB5.out.trans ((below_alloc (Below.refl w5.heap.size w5) (.cells #[.string x.name,.int .i64 bits,.slice Ax bb.length cx] 72)).mono HB5.out.size));have HRV:=mk0 (Kd.R_below HH.out.2.2.1 HB6.out);have HSV:=mk0 (Nat.le_trans HS8.out.F.size HB6.out.size);clear b5 hcx hrx)
         | (refine kb_flat.one_step (V:=w5.alloc (.cells #[.string x.name,.int .i64 bits,.slice Ax bb.length cx] 72)) w0.heap.size rfl (.tmp 89) (.tmp 98) 48 72 (.agg #[.string ⟨#[]⟩,.int .i64 0,.slice none 0 0]) 48 rfl Tryz.underlying48 info_bloomR rfl (by decide) (by decide) (by decide) (.slice Ab E.length cb) E ⟨x.name,bits,Ax,bb.length,cx⟩ w5.heap.size 72 rfl rfl (heap_alloc_new w5 _) HRV.out HSV.out hel ?_;intro v1 w7 hr7 hb7 hg7 hat7;obtain ⟨A1,c1,hv1⟩:=Kd.R_slice hr7;rw[List.length_append] at hv1;replace hv1:v1 = .slice A1 (E.length+1) c1:=hv1;subst hv1;have e1:=(hg7.block sb (Nat.lt_of_lt_of_le hsl HB6.out.size) (fun e=>R_not_at HRV.out ((HB6.out.block sb hsl).trans HH.out.1) (by decide) e.symm)).trans ((HB6.out.block sb hsl).trans HH.out.1);have HS9:=mk0 (stt_bloom (y:=⟨x.name,bits,Ax,bb.length,cx⟩) (bb:=bb) ((HB6.out.block sb hsl).trans HH.out.1) (Kd.R_below HH.out.2.1 HB6.out) HRV.out (HH.out.2.2.2.1.below HB6.out) HH.out.2.2.2.2.1 HH.out.2.2.2.2.2.1 (HS8.out.F.trans (HB6.out.mono HS8.out.F.size)) HSW.out rfl HRX.out.1 (Kd.R_lower (Kd.R_below HRX.out.2 (below_alloc (Below.refl w5.heap.size w5) (.cells #[.string x.name,.int .i64 bits,.slice Ax bb.length cx] 72))) HS8.out.F.size) hr7 hb7 hg7);have HC9:=mk0 (show kl.R 88 (w7.setCell ⟨sb,4,none⟩ (.slice A1 (E.length+1) c1)) w1.heap.size (fun _=>True) (.slice (some ⟨bk,ok,none⟩) cols.length cc) cols from R_set_ne rfl (R_grown_ne rfl (Kd.R_below HC8.out HB6.out) HRV.out (by decide) hg7) e1 (by decide) 4 _);have z4c:w7.cell? ⟨sb,4,none⟩=some (.slice Ab E.length cb):=cell_of_heap (i:=4) e1 rfl;have z4f:w7.frozen? ⟨sb,4,none⟩=false:=frozen_of_heap e1;clear hr7 hb7 hg7 hat7 e1))
        all_goals exact key.out w5 w7 A1 c1 Ax cx ⟨HS9.out,HC9.out⟩
       ·rintro w5 w7 A1 c1 Ax cx ⟨hs9,hc9⟩
        rw[← HNB2.out] at hs9
        have HS9:=mk0 hs9
        have HC9:=mk0 hc9
        clear hs9 hc9 HH HS8 HC8 HBB q0 q1 z4 zf hxl hsl
        go_wp2
        go_roundw
        case rel=>exact ⟨j+1,by omega,by go_num,HS9,HC9⟩
        case measure=>simp[intOf];omega
    ·have hk1:x.kind=1:=HKX.out.resolve_right hkd
     rw[hk1] at q1
     have HS8:=mk0 (show StT w0 U sb H.length lo hi ((cols.take (j+1)).map (zoneC M)) (bloomsC M (cols.take (j+1))) by
      have e:bloomsC M (cols.take (j+1))=bs:=by rw[HNB.out,HBX.out,if_neg hkd,List.append_nil]
      rw[e];exact HS7.out)
     clear HS7 hkd hk1
     go_wp2
     go_roundw
     case rel=>exact ⟨j+1,by omega,by go_num,HS8,HC7⟩
     case measure=>simp[intOf];omega
  ·have hj2:j=cols.length:=by omega
   subst hj2
   rw[List.take_length] at HST
   obtain ⟨Az,cz,Ab,cb,E,Lb,h1,h2,h3,h4,h5,h6,h7⟩:=HST.out.ex
   have hzl:(cols.map (zoneC M)).length=cols.length:=by simp
   rw[hzl] at h1 h2 h6
   have c0:=cell_of_heap (i:=0) h1 rfl
   have c1:=cell_of_heap (i:=1) h1 rfl
   have c2:=cell_of_heap (i:=2) h1 rfl
   have c3:=cell_of_heap (i:=3) h1 rfl
   have c4:=cell_of_heap (i:=4) h1 rfl
   have hwl:w.heap.size<w0.heap.size:=(Array.getElem?_eq_some_iff.1 HN0.out).1
   have hv:=(HST.out.F.block w.heap.size hwl).trans HN0.out
   have d0:=cell_of_heap (i:=0) hv rfl
   have d1:=cell_of_heap (i:=1) hv rfl
   have d2:=cell_of_heap (i:=2) hv rfl
   have d3:=cell_of_heap (i:=3) hv rfl
   have d4:=cell_of_heap (i:=4) hv rfl
   have e0:=frozen_of_heap (i:=0) hv
   have e1:=frozen_of_heap (i:=1) hv
   have e2:=frozen_of_heap (i:=2) hv
   have e3:=frozen_of_heap (i:=3) hv
   have e4:=frozen_of_heap (i:=4) hv
   have hq:=(((((AtZ.start (base:=w.heap.size) hv).set (Nat.le_refl _) 0 (.int .i64 H.length)).set (Nat.le_refl _) 1 (.int .i64 lo)).set (Nat.le_refl _) 2 (.int .i64 hi)).set (Nat.le_refl _) 3 (.slice Az cols.length cz)).set (Nat.le_refl _) 4 (.slice Ab E.length cb)
   have HSF:=mk0 (show AtZ w.heap.size w.heap.size 50 wr (((((wr.setCell ⟨w.heap.size,0,none⟩ (.int .i64 H.length)).setCell ⟨w.heap.size,1,none⟩ (.int .i64 lo)).setCell ⟨w.heap.size,2,none⟩ (.int .i64 hi)).setCell ⟨w.heap.size,3,none⟩ (.slice Az cols.length cz)).setCell ⟨w.heap.size,4,none⟩ (.slice Ab E.length cb)) #[.int .i64 H.length,.int .i64 lo,.int .i64 hi,.slice Az cols.length cz,.slice Ab E.length cb] from hq)
   have hne:∀ {α:Type} {d:Kd α} {e:Nat} {v:Value} {l:List α},d.R e wr w0.heap.size (fun _=>True) v l→∀ q,v.ownBlock=some q→q≠w.heap.size:=fun h q hq=>by have:=R_base h q hq;omega
   have HTT:=mk0 (And.intro (Kd.R_lower (base':=w.heap.size) (R_moved rfl h2 (fun q hq=>HSF.out.2.1 q (hne h2 q hq))) (Nat.le_of_lt hwl)) (And.intro (Kd.R_lower (base':=w.heap.size) (R_moved rfl h3 (fun q hq=>HSF.out.2.1 q (hne h3 q hq))) (Nat.le_of_lt hwl)) (show BlR (((((wr.setCell ⟨w.heap.size,0,none⟩ (.int .i64 H.length)).setCell ⟨w.heap.size,1,none⟩ (.int .i64 lo)).setCell ⟨w.heap.size,2,none⟩ (.int .i64 hi)).setCell ⟨w.heap.size,3,none⟩ (.slice Az cols.length cz)).setCell ⟨w.heap.size,4,none⟩ (.slice Ab E.length cb)) w.heap.size E Lb from ⟨h4.1,fun i k1 k2=>⟨(h4.2 i k1 k2).1,(h4.2 i k1 k2).2.1,Kd.R_lower (base':=w.heap.size) (R_moved rfl (h4.2 i k1 k2).2.2 (fun q hq=>HSF.out.2.1 q (hne (h4.2 i k1 k2).2.2 q hq))) (Nat.le_of_lt hwl)⟩⟩)))
   have HFF:=mk0 ((HB0.out.trans (HST.out.F.mono HB0.out.size)).trans HSF.out.2.2)
   have HL5:=mk0 (And.intro h5 (And.intro h6 h7))
   clear hv hq h1 h2 h3 h4 h5 h6 h7 hne
   go_wp2
   generalize ((((wr.setCell ⟨w.heap.size,0,none⟩ (.int .i64 H.length)).setCell ⟨w.heap.size,1,none⟩ (.int .i64 lo)).setCell ⟨w.heap.size,2,none⟩ (.int .i64 hi)).setCell ⟨w.heap.size,3,none⟩ (.slice Az cols.length cz)).setCell ⟨w.heap.size,4,none⟩ (.slice Ab E.length cb)=Wf at *
   have g0:=cell_of_heap (i:=0) HSF.out.1 rfl
   have g1:=cell_of_heap (i:=1) HSF.out.1 rfl
   have g2:=cell_of_heap (i:=2) HSF.out.1 rfl
   have g3:=cell_of_heap (i:=3) HSF.out.1 rfl
   have g4:=cell_of_heap (i:=4) HSF.out.1 rfl
   refine bodyPost_ret (v:=.agg #[.int .i64 H.length,.int .i64 lo,.int .i64 hi,.slice Az cols.length cz,.slice Ab E.length cb]) (by simp[results,Tryz.results19,go_sem,g0,g1,g2,g3,g4]) rfl ?_
   exact ⟨Az,cz,Ab,cb,E,Lb,rfl,HTT.out.1,HTT.out.2.1,HTT.out.2.2,HL5.out.1,HL5.out.2.1,HL5.out.2.2,HFF.out⟩
end Go.Proofs.YtcmffaejcnbheaaGreat.Lib0

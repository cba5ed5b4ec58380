import Derived.Test.YtplnodcbbcdcgaaGreatP43
set_option linter.unusedVariables false
set_option linter.unusedSimpArgs false
namespace Go.Proofs.YtplnodcbbcdcgaaGreat.Lib0
open Go.RowKit Go.Proofs.YtplnodcbbcdcgaaGreatW.PrintWords Go.ChangeMaps
structure SegF (w w':World) (PT:List Nat) (j:Nat):Prop where
 os:w'.os=w.os
 tape:w'.tape=w.tape
 output:w'.output=w.output
 size:w.heap.size≤w'.heap.size
 block:∀ k,k<w.heap.size→(∀ i (h:i<PT.length),i<j→k≠PT[i])→w'.heap[k]?=w.heap[k]?
theorem SegF.refl (w:World) (PT:List Nat):SegF w w PT 0:=⟨rfl,rfl,rfl,Nat.le_refl _,fun _ _ _=>rfl⟩
theorem SegF.next {w w1 w2:World} {PT:List Nat} {j:Nat} (h:SegF w w1 PT j) (hj:j<PT.length) (hk:Keep1 PT[j] w1 w2):SegF w w2 PT (j+1):=
 ⟨hk.os.trans h.os,hk.tape.trans h.tape,hk.output.trans h.output,Nat.le_trans h.size hk.size,fun k h1 h2=>(hk.block k (Nat.lt_of_lt_of_le h1 h.size) (h2 j hj (Nat.lt_succ_self j))).trans (h.block k h1 (fun i hi hij=>h2 i hi (Nat.lt_succ_of_lt hij)))⟩
theorem SegF.grow {w w1 w2:World} {PT:List Nat} {j:Nat} (h:SegF w w1 PT j) (hb:Below w.heap.size w1 w2):SegF w w2 PT j:=
 ⟨hb.os.trans h.os,hb.tape.trans h.tape,hb.output.trans h.output,Nat.le_trans h.size hb.size,fun k h1 h2=>(hb.block k h1).trans (h.block k h1 h2)⟩
theorem SegF.below {w w1:World} {PT:List Nat} {j base:Nat} (h:SegF w w1 PT j) (hb:base≤w.heap.size) (hp:∀ p ∈ PT,base≤p):Below base w w1:=
 ⟨h.os,h.tape,h.output,h.size,fun k hk=>h.block k (by omega) (fun i hi _ e=>by have:=hp PT[i] (List.getElem_mem hi);omega)⟩
theorem SegF.C {α:Type} {d:Kd α} (hK:∀ w w' x cs,d.K w x cs→d.K w' x cs) {w w1:World} {PT:List Nat} {j:Nat} (h:SegF w w1 PT j) (hs:0<d.sz) {A:Option Addr} {m:Nat} {l:List α} (hc:d.C w A m l) (hoff:∀ i (hi:i<PT.length) ad,A=some ad→0<m→ad.block≠PT[i]):d.C w1 A m l:=by
 refine ⟨hc.1,hc.2.1,fun hn=>?_⟩
 obtain ⟨ad,e,hx⟩:=hc.2.2 hn
 have hlt:ad.block<w.heap.size:=C_lt hs hc ad e hn
 refine ⟨ad,e,fun q p hp'=>?_⟩
 obtain ⟨cs,hl,hkk,hcell⟩:=hx q p hp'
 refine ⟨cs,hl,hK _ _ _ _ hkk,fun k v hv=>?_⟩
 rw[← hcell k v hv]
 exact World.cell?_of_block (by rw[add_block];exact h.block _ hlt (fun i hi _=>hoff i hi ad e hn))
theorem PtRaw.off_kq {w:World} {pt:Nat} {B:Option Addr} {n c:Nat} {fr on st:Int} (h:PtRaw w pt (ptC B n c fr on st none)) {A:Option Addr} {m:Nat} {l':List Nat} (hc:kq.C w A m l'):∀ ad,A=some ad→0<m→ad.block≠pt:=by
 rintro ad rfl hm
 obtain ⟨b,o,e,hx⟩:=sc_open hc (by have:=hc.1;omega)
 cases e
 have h0:=hx 0 (by have:=hc.1;omega)
 rintro rfl
 unfold PtRaw ptC at h
 unfold World.cell? at h0
 simp only[h] at h0
 rw[Nat.add_zero] at h0
 rcases o with _ | _ | _ | _ | _ | _ | o<;>simp at h0
theorem R_keep1 {α:Type} {d:Kd α} {e base pt:Nat} {w w':World} {v:Value} {l:List α} {cs:Array Value} (hE:d.E = []) (h:d.R e w base (fun _=>True) v l) (hp:PtRaw w pt cs) (hne:85≠e) (hk:Keep1 pt w w'):d.R e w' base (fun _=>True) v l:=
 R_moved hE h (fun k hv=>hk.block k (Kd.R_lt h k hv) (fun e=>R_not_at h hp hne (by rw[hv,e])))
theorem RowsR.keep1 {lo pt:Nat} {w w':World} {H:List RowH} {L:List (List CellM)} {cs:Array Value} (h:RowsR w lo H L) (hp:PtRaw w pt cs) (hk:Keep1 pt w w'):RowsR w' lo H L:=
 ⟨h.1,fun i h1 h2=>⟨(h.2 i h1 h2).1,(h.2 i h1 h2).2.1,R_keep1 rfl (h.2 i h1 h2).2.2 hp (by decide) hk⟩⟩
def SRowsS (w:World) (M:List RowM) (PT:List Nat) (e:Ending) (w':World):Prop:=
 ∃ (H:List RowH) (L:List (List CellM)) (A:Option Addr) (c:Nat),e = .returned (.slice A H.length c)∧H.length≤c∧kr.R 37 w' w.heap.size (fun _=>True) (.slice A H.length c) H∧RowsR w' w.heap.size H L∧rowsM H L=M∧SegF w w' PT PT.length
set_option maxHeartbeats 6400000 in
set_option maxRecDepth 100000 in
theorem seg_Rows {w:World} {sg:Nat} {M:List RowM} {PT:List Nat} {b:List UInt8} (h:SegAt w sg M PT) (hM:writeS M=(b,0)) (hi:∀ r ∈ M,∀ c ∈ r.cs,I64 c.n) :
  Calls Tryz.prog 12 #[.pointer (some ⟨sg,0,none⟩)] w (SRowsS w M PT):=by
 obtain ⟨h0,h4096,hck,_⟩:=writeS_ok hM
 obtain ⟨Ap,cp,Ac,cc,lo,hi',hh,hq,_⟩:=h.ex
 have HQ:=mk0 hq
 have HSA:=mk0 h
 have hlen:=h.len
 have HLEN:=mk0 (show PT.length≤256 by rw[h.len];unfold nP;omega)
 have HNP:=mk0 h.len
 have HCK:=mk0 hck
 have HI:=mk0 hi
 have y0:w.cell? ⟨sg,0,none⟩=some (.slice Ap PT.length cp):=cell_of_heap (i:=0) hh rfl
 have HR0:=mk0 (Kd.R_nil kr 37 w w.heap.size (fun _=>True))
 have HF0:=mk0 (SegF.refl w PT)
 have hpl:(PT.length:Int)≤256:=by have:=HLEN.out;omega
 clear h hM hi h0 h4096 hck hh hq hlen
 go_enter Tryz.func12,Tryz.ntmps12
 go_wp2_with fail
 clear y0
 go_loopw[3,11] (fun v3 v11 wr=>∃ (j:Nat) (H:List RowH) (L:List (List CellM)),j≤PT.length∧v11 = .int .i64 j∧Aside0 (rowsM H L=M.take (16*j))∧Aside0 (H.length≤16*j)∧Aside0 (RowsR wr w.heap.size H L)∧Aside0 (kr.R 37 wr w.heap.size (fun _=>True) v3 H)∧Aside0 (SegF w wr PT j)) (fun _ i _=>PT.length-(intOf i).toNat)
 case atStart=>exact ⟨0,[],[],by omega,rfl,⟨by simp[rowsM]⟩,⟨by simp⟩,⟨⟨rfl,fun i h1=>by simp at h1⟩⟩,HR0,HF0⟩
 case round=>
  clear HR0 HF0
  obtain ⟨j,H,L,hj,rfl,HM,HN,HO,HR,HF⟩:=hrel
  obtain ⟨A3,c3,rfl,hc3,_⟩:=Kd.R_reads HR.out
  by_cases hlt:j<PT.length
  ·have hlt2:(j:Int)<PT.length:=by omega
   have hqr:=HF.out.C (d:=kq) sc_Kw (by decide) HQ.out (fun i hi ad e hn=>by
    obtain ⟨B,c,p1,_⟩:=HSA.out.pt i hi
    exact p1.off_kq HQ.out ad e hn)
   obtain ⟨bq,oq,e9,hxq⟩:=sc_open hqr (by omega)
   have x0:=hxq j hlt
   subst e9
   obtain ⟨B,c,p1,p2,p3⟩:=HSA.out.pt j hlt
   have hne:∀ i (hi:i<PT.length),i<j→PT[j]≠PT[i]:=fun i hi hij e=>by
    have:=List.pairwise_iff_getElem.1 HSA.out.nd i j hi hlt hij
    omega
   have p4:=show PtRaw wr PT[j] (ptC B (bytesM ((M.drop (16*j)).take 16)).length c ((16*j:Nat):Int) 0 0 none) from (HF.out.block PT[j] p1.lt hne).trans p1
   have p5:=HF.out.C (d:=u8) sc_Kw (by decide) p3 (fun i hi ad e hn=>by
    obtain ⟨B',c',q1,_⟩:=HSA.out.pt i hi
    exact (q1.off_u8 p3 ad e hn).1)
   have hjl:16*j<M.length:=by have:=HNP.out;unfold nP at this;omega
   have hwp:=pcs_write HCK.out j hjl
   obtain ⟨qs,hq1,hq2,_⟩:=readG_write (M:=(M.drop (16*j)).take 16) (by rw[hwp]) (fun r hr=>HI.out r (List.mem_of_mem_drop (List.mem_of_mem_take hr)))
   rw[hwp] at hq1
   simp only at hq1
   have hsm:=bytesM_small (checkM_take (checkM_drop HCK.out (16*j)) 16) (piece_len hjl).1 (piece_len hjl).2 (fun r hr=>HI.out r (List.mem_of_mem_drop (List.mem_of_mem_take hr)))
   have HPG:=mk0 (part_group p4 p5 p2 (by omega) (by rw[hq1];intro h;cases h))
   have HP4:=mk0 p4
   have HQ1:=mk0 hq1
   have HQ2:=mk0 hq2
   have HTK:=mk0 (show M.take (16*j)++(M.drop (16*j)).take 16=M.take (16*(j+1)) by rw[Nat.mul_succ,List.take_add])
   generalize (M.drop (16*j)).take 16=pc at *
   obtain ⟨pt,hpt⟩:∃ pt,pt=PT[j]:=⟨_,rfl⟩
   rw[← hpt] at x0 HPG HP4
   have HPX:=mk0 hpt
   clear hpt hxq hqr p1 p2 p3 p4 p5 hne hwp hq1 hq2 hsm
   go_wp2_with fail
   (with_reducible refine HPG.out.mono ?_)
   rintro e w5 ⟨ts,ss,ps,lo5,hi5,g,base,rfl,q1,q2,q3,q4,q5,q6,q7⟩
   have HG:=mk0 q2
   have HFT:=mk0 (readG_some q1)
   have HE:=mk0 (show builtM ts ss (ps.map PartM.q)=pc by
    rw[HQ1.out] at q1
    injection q1 with q1
    injection q1 with e1 q1
    injection q1 with e2 e3
    rw[← e1,← e2,← e3]
    exact HQ2.out)
   have HB5:=mk0 (And.intro q3 (And.intro q4 (And.intro q5 q7)))
   have HRW:=mk0 (group_RowsR (.inl HG.out) HFT.out.fit q5)
   clear q1 q2 q3 q4 q5 q6 q7 HPG HQ1 HQ2
   go_wp2_with fail
   (with_reducible refine HRW.out.mono ?_)
   rintro e w6 ⟨H',L',A6,c6,rfl,hr6,ho6,hk6,hg6,hf6⟩
   have hkp:=FrG.keep1 HG.out.K hf6 HB5.out.2.1 HB5.out.1 HB5.out.2.2.2
   have hs5:=HB5.out.2.2.2.size
   have HR6:=mk0 (R_keep1 rfl HR.out HP4.out (by decide) hkp)
   have HO6:=mk0 ((HO.out.keep1 HP4.out hkp).append (ho6.low (Nat.le_trans HF.out.size hs5)))
   have HF6:=mk0 (HF.out.next hlt (by rw[← HPX.out];exact hkp))
   have HM6:=mk0 (show rowsM (H++H') (L++L')=M.take (16*(j+1)) by rw[rowsM_append _ _ _ _ HO.out.1,HM.out,hk6,HE.out,HTK.out])
   have HC6:=mk0 (C_of hr6)
   have HL6:=mk0 (show H'.length≤16 by
    have:=congrArg List.length hk6
    rw[rowsM_len H' L' ho6.1,builtM_len] at this
    have:=HFT.out.n16
    omega)
   have HN6:=mk0 (show (H++H').length≤16*(j+1) by have:=HN.out;have:=HL6.out;rw[List.length_append];omega)
   have HAP:=mk0 (show H.length+H'.length≤1099511627776 by have:=HN.out;have:=HL6.out;have:=HLEN.out;omega)
   have HS6:=mk0 (Nat.le_trans HF.out.size (Nat.le_trans hs5 hf6.size))
   clear hr6 ho6 hk6 hg6 hf6 hkp hs5 HRW HR HO HF HM HN HG HFT HB5 HE HTK HP4
   go_wp2_with (at_builtin;go_loud (refine kr_append_rows (W:=w6) (.tmp 15) (.tmp 18) 22 37 (.slice A3 H.length c3) H H' A6 H'.length c6 w.heap.size (by rfl) rfl Tryz.underlying22 info_row rfl rfl HR6.out HC6.out HS6.out HAP.out ?_))
   intro v7 w7 hr7 hb7 hg7 ha7
   have HR7:=mk0 hr7
   have HF7:=mk0 (HF6.out.grow hb7)
   have HO7:=mk0 (HO6.out.grown HR6.out (by decide) hg7)
   clear hr7 hb7 hg7 ha7 HR6 HO6 HC6 HAP HF6 HS6
   go_wp2
   go_roundw
   case rel=>exact ⟨j+1,_,_,by omega,by go_num,HM6,HN6,HO7,HR7,HF7⟩
   case measure=>simp[intOf];omega
  ·obtain rfl:j=PT.length:=by omega
   have HME:=mk0 (show rowsM H L=M by rw[HM.out,List.take_of_length_le (by have:=HNP.out;unfold nP at this;omega)])
   clear HM
   go_wp2
   go_ret
   exact ⟨H,L,A3,c3,rfl,hc3,HR.out,HO.out,HME.out,HF.out⟩
end Go.Proofs.YtplnodcbbcdcgaaGreat.Lib0
namespace Go.Proofs.YtplnodcbbcdcgaaGreat.Lib0
open Go.RowKit Go.Proofs.YtplnodcbbcdcgaaGreatW.PrintWords Go.ChangeMaps
set_option maxRecDepth 100000 in
theorem seg_Count {w:World} {sg:Nat} {M:List RowM} {PT:List Nat} (h:SegAt w sg M PT) :
  Calls Tryz.prog 18 #[.pointer (some ⟨sg,0,none⟩)] w fun e w'=>e = .returned (.int .i64 M.length)∧w=w':=by
 obtain ⟨Ap,cp,Ac,cc,lo,hi,hh,_⟩:=h.ex
 have x1:w.cell? ⟨sg,1,none⟩=some (.int .i64 M.length):=cell_of_heap (i:=1) hh rfl
 clear h hh
 go_enter Tryz.func18,Tryz.ntmps18
 go_wp2
 go_ret
 exact ⟨rfl,rfl⟩
set_option maxRecDepth 100000 in
theorem seg_Groups {w:World} {sg:Nat} {M:List RowM} {PT:List Nat} (h:SegAt w sg M PT) :
  Calls Tryz.prog 19 #[.pointer (some ⟨sg,0,none⟩)] w fun e w'=>e = .returned (.int .i64 (nP M))∧w=w':=by
 obtain ⟨Ap,cp,Ac,cc,lo,hi,hh,_⟩:=h.ex
 have x0:w.cell? ⟨sg,0,none⟩=some (.slice Ap PT.length cp):=cell_of_heap (i:=0) hh rfl
 rw[h.len] at x0
 clear h hh
 go_enter Tryz.func19,Tryz.ntmps19
 go_wp2
 go_ret
 exact ⟨rfl,rfl⟩
end Go.Proofs.YtplnodcbbcdcgaaGreat.Lib0
namespace Go.Proofs.YtplnodcbbcdcgaaGreat.Lib0
open Go.RowKit Go.Proofs.YtplnodcbbcdcgaaGreatW.PrintWords Go.ChangeMaps
def knownS:List RowM:=(List.range 17).map fun i:Nat=>(⟨(i:Int),(i:Int),[⟨⟨#[97]⟩,1,(i:Int),⟨#[]⟩⟩]⟩:RowM)
theorem knownS_check:checkM knownS=0:=by kernel_rfl
theorem knownS_I64:∀ r ∈ knownS,∀ c ∈ r.cs,I64 c.n:=by
 intro r hr c hc
 unfold knownS at hr
 obtain ⟨i,hi,rfl⟩:=List.mem_map.1 hr
 rw[List.mem_range] at hi
 simp only[List.mem_singleton] at hc
 subst hc
 show I64 (i:Int)
 unfold I64
 omega
theorem knownS_write:writeS knownS=(segB knownS,0):=by
 unfold writeS
 rw[if_neg (by decide),if_pos knownS_check]
theorem knownS_next (j:Nat) (h:j<17):knownS.take (j+1)=knownS.take j++[⟨(j:Int),(j:Int),[⟨⟨#[97]⟩,1,(j:Int),⟨#[]⟩⟩]⟩]:=by
 rw[take_next knownS j (by simpa [knownS] using h)]
 simp[knownS]
theorem segB_len {M:List RowM} {b:List UInt8} (h:writeS M=(b,0)) (hi:∀ r ∈ M,∀ c ∈ r.cs,I64 c.n):b.length≤1073741824:=by
 obtain ⟨h0,h1,h2,rfl⟩:=writeS_ok h
 have h3:=recs_take_len (blks M) 1048576 (blks M).length (blks_small h2 h1 hi)
 rw[List.take_length] at h3
 have h4:(blks M).length≤257:=by rw[blks_len];unfold nP;omega
 have h5:=Nat.mul_le_mul_right (1048576+12) h4
 show (recs (blks M)).length≤_
 omega
theorem openS_nil:openS []=none:=by unfold openS;rw[if_pos (.inr rfl)]
set_option maxHeartbeats 6400000 in
set_option maxRecDepth 100000 in
theorem law17_known (w:World):Calls Tryz.prog 8 #[] w fun e w'=>e = .returned (.bool true)∧Below w.heap.size w w':=by
 have HR0:=mk0 (Kd.R_nil kr 37 w w.heap.size (fun _=>True))
 have HB0:=mk0 (Below.refl w.heap.size w)
 go_enter Tryz.func8,Tryz.ntmps8
 go_wp2_with fail
 go_loopw[1,2] (fun v1 v2 wr=>∃ (j:Nat) (H:List RowH) (L:List (List CellM)),j≤17∧v2 = .int .i64 j∧Aside0 (rowsM H L=knownS.take j)∧Aside0 (H.length=j)∧Aside0 (RowsR wr w.heap.size H L)∧Aside0 (kr.R 37 wr w.heap.size (fun _=>True) v1 H)∧Aside0 (Below w.heap.size w wr)) (fun _ i _=>17-(intOf i).toNat)
 case atStart=>exact ⟨0,[],[],by omega,rfl,⟨rfl⟩,⟨rfl⟩,⟨⟨rfl,fun i h1=>by simp at h1⟩⟩,HR0,HB0⟩
 case round=>
  clear HR0 HB0
  obtain ⟨j,H,L,hj,rfl,HM,HN,HO,HR,HB⟩:=hrel
  obtain ⟨A1,c1,rfl,hc1,_⟩:=Kd.R_reads HR.out
  by_cases hlt:j<17
  ·have hlt2:(j:Int)<17:=by omega
   have HNM:=mk0 (keep_Num ⟨#[97]⟩ (j:Int) wr)
   go_wp2_with fail
   (with_reducible refine HNM.out.mono ?_)
   rintro e w2 ⟨rfl,hb2⟩
   have hn3:=heap_alloc_new w2 (.cells #[.string ⟨#[97]⟩,.int .i64 1,.int .i64 (j:Int),.string ⟨#[]⟩] 39)
   have hb3:=below_alloc (Below.refl w2.heap.size w2) (.cells #[.string ⟨#[97]⟩,.int .i64 1,.int .i64 (j:Int),.string ⟨#[]⟩] 39)
   have hc3:=C_of (kc_flat.R_new (base:=0) (xs:=[⟨⟨#[97]⟩,1,(j:Int),⟨#[]⟩⟩]) (cap:=1) (Nat.zero_le _) hn3 (Nat.le_refl 1) (by decide) rfl rfl)
   have HA1:=mk0 (show Calls Tryz.prog 23 #[.int .i64 (j:Int),.int .i64 (j:Int),.slice (some ⟨w2.heap.size,0,none⟩) 1 1] (w2.alloc (.cells #[.string ⟨#[97]⟩,.int .i64 1,.int .i64 (j:Int),.string ⟨#[]⟩] 39)) _ from keep_At1 (j:Int) (j:Int) ⟨w2.heap.size,0,none⟩ 1 [⟨⟨#[97]⟩,1,(j:Int),⟨#[]⟩⟩] _ hc3 (by simp))
   have HB3:=mk0 (hb2.trans (hb3.mono hb2.size))
   clear hb2 hn3 hb3 hc3 HNM
   go_wp2_with fail
   (with_reducible refine HA1.out.mono ?_)
   rintro e w4 ⟨A4,c4,rfl,hc4,hr4,hb4⟩
   have hb14:=HB3.out.trans (hb4.mono HB3.out.size)
   have HB4:=mk0 (HB.out.trans (hb14.mono HB.out.size))
   have HRA:=mk0 (Kd.R_below HR.out hb14)
   have HOA:=mk0 (HO.out.below hb14)
   have HCA:=mk0 (Kd.R_lower (base':=w.heap.size) hr4 (Nat.le_trans HB.out.size HB3.out.size))
   have HBA:=HB4
   have HC4:=mk0 hc4
   have HLW:=mk0 (show H.length≤1099511627776 by have:=HN.out;omega)
   have HNX:=mk0 (knownS_next j hlt)
   clear hc4 hr4 hb4 hb14 HB3 HB4 HA1 HR HO HB
   go_wp2_with (at_builtin;go_loud (refine kr_append (W:=w4) (.tmp 13) (.tmp 20) 22 37 (.slice A1 H.length c1) H ⟨(j:Int),(j:Int),A4,1,c4⟩ w.heap.size rfl rfl Tryz.underlying22 info_row rfl rfl HRA.out HBA.out.size HLW.out ?_))
   intro v7 w7 hr7 hb7 hg7 hat7
   have HO7:=mk0 ((HOA.out.grown HRA.out (by decide) hg7).snoc ⟨(j:Int),(j:Int),A4,1,c4⟩ [⟨⟨#[97]⟩,1,(j:Int),⟨#[]⟩⟩] rfl HC4.out (R_grown_ne rfl HCA.out HRA.out (by decide) hg7))
   have HB7:=mk0 (HBA.out.trans hb7)
   have HM7:=mk0 (show rowsM (H++[(⟨(j:Int),(j:Int),A4,1,c4⟩:RowH)]) (L++[[⟨⟨#[97]⟩,1,(j:Int),⟨#[]⟩⟩]])=knownS.take (j+1) by
    rw[rowsM_snoc _ _ _ _ HOA.out.1,HM.out,HNX.out])
   have HH7:=mk0 (show (H++[(⟨(j:Int),(j:Int),A4,1,c4⟩:RowH)]).length=j+1 by rw[List.length_append,HN.out];rfl)
   have HR7:=mk0 hr7
   generalize H++[(⟨(j:Int),(j:Int),A4,1,c4⟩:RowH)]=H2 at *
   clear hr7 hb7 hg7 hat7 HRA HOA HCA HBA HC4 HLW HNX HM HN
   go_wp2
   go_roundw
   case rel=>exact ⟨j+1,H2,_,by omega,by go_num,HM7,HH7,HO7,HR7,HB7⟩
   case measure=>simp[intOf];omega
  ·have hj17:j=17:=by omega
   subst hj17
   have hMK:rowsM H L=knownS:=by rw[HM.out];exact List.take_of_length_le (by decide)
   have HWR:=mk0 (seg_Write A1 c1 H L wr hc1 (C_of HR.out) HO.out.on (by rw[hMK];exact knownS_I64))
   rw[hMK,knownS_write] at HWR
   have HMK:=mk0 hMK
   have HKC:=mk0 (C_of HR.out)
   have HKO:=mk0 HO.out.on
   have HZL:=mk0 (segB_len knownS_write knownS_I64)
   have HOZ:=mk0 (openS_write knownS_write knownS_I64)
   have HWZ:=mk0 knownS_write
   clear hMK HM HR HO
   generalize segB knownS=z at *
   go_wp2_with fail
   (with_reducible refine HWR.out.mono ?_)
   rintro e w2 ⟨v2,rfl,hr2,hb2⟩
   obtain ⟨A2,c2,rfl,hc2,hC2⟩:=u8_R_len hr2
   have HB2:=mk0 hb2
   have HOP:=mk0 (seg_Open A2 c2 z w2 hC2 hc2 (by have:=HZL.out;omega))
   clear hr2 hb2 hC2 hc2 HWR
   go_wp2_with fail
   (with_reducible refine HOP.out.mono ?_)
   intro e w3 hop
   rcases hop with ⟨hnone,_⟩ | ⟨M,PT,sg,hsm,rfl,hsg,hsa,hb3⟩
   ·rw[HOZ.out] at hnone;cases hnone
   obtain rfl:knownS=M:=by rw[HOZ.out] at hsm;injection hsm
   have HSG:=mk0 hsg
   have HSA:=mk0 hsa
   have HB3:=mk0 (HB2.out.trans (hb3.mono HB2.out.size))
   have HS2:=mk0 HB2.out.size
   have HON:=mk0 (seg_Open none 0 [] w3 (u8_nil w3) (by decide) (by decide))
   simp only[List.length_nil] at HON
   clear hsm hsg hsa hb3 HOP HOZ HB2
   go_wp2_with fail
   (with_reducible refine HON.out.mono ?_)
   intro e w4 hop
   rcases hop with ⟨_,rfl,hb4⟩ | ⟨M,PT',sg',hsm,_⟩
   case inr=>rw[openS_nil] at hsm;cases hsm
   have HSA4:=mk0 (HSA.out.below hb4)
   have HB4:=mk0 (HB3.out.trans (hb4.mono HB3.out.size))
   have HGR:=mk0 (seg_Groups HSA4.out)
   rw[show nP knownS=2 from rfl] at HGR
   have HCT:=mk0 (seg_Count HSA4.out)
   rw[show knownS.length=17 from rfl] at HCT
   have HRW:=mk0 (seg_Rows HSA4.out HWZ.out knownS_I64)
   clear hb4 HON HSA HB3
   go_wp2_with fail
   (with_reducible refine HGR.out.mono ?_)
   rintro e w5 ⟨rfl,rfl⟩
   go_wp2_with fail
   (with_reducible refine HCT.out.mono ?_)
   rintro e w5 ⟨rfl,rfl⟩
   go_wp2_with fail
   (with_reducible refine HRW.out.mono ?_)
   rintro e w6 ⟨H',L',A6,c6,rfl,hc6,hr6,ho6,hm6,hf6⟩
   have hb6:=hf6.below (base:=wr.heap.size) HB4.out.size (fun p hp=>by have:=HSA4.out.lt p hp;have:=HSG.out;have:=HS2.out;omega)
   have hb46:=HB4.out.trans hb6
   have HB6:=mk0 (HB.out.trans (hb46.mono HB.out.size))
   have hl6:H'.length=17:=by rw[← rowsM_len H' L' ho6.1,hm6];rfl
   have hcl:∀ c ∈ L',c.length≤1099511627776:=fun c hc=>by
    rw[← rowsM_cs H' L' ho6.1,hm6] at hc
    obtain ⟨r,hr,rfl⟩:=List.mem_map.1 hc
    unfold knownS at hr
    obtain ⟨i,_,rfl⟩:=List.mem_map.1 hr
    simp
   have hcl2:∀ c ∈ L,c.length≤1099511627776:=fun c hc=>by
    rw[← rowsM_cs H L HKO.out.1,HMK.out] at hc
    obtain ⟨r,hr,rfl⟩:=List.mem_map.1 hc
    unfold knownS at hr
    obtain ⟨i,_,rfl⟩:=List.mem_map.1 hr
    simp
   have HKR:=mk0 (keep_Rows A6 A1 c6 c1 H' H L' L w6 (C_of hr6) (Kd.C_below HKC.out hb46) ho6.on (HKO.out.below hb46) (by rw[hl6];decide) (by have:=HN.out;omega) hcl hcl2)
   rw[hm6,HMK.out,eqMs_refl] at HKR
   clear hr6 ho6 hm6 hf6 hb6 hb46 hl6 hcl hcl2 hc6 HRW
   go_wp2_with fail
   (with_reducible refine HKR.out.mono ?_)
   rintro e w7 ⟨rfl,hb7⟩
   have BZ:=mk0 (HB6.out.trans (hb7.mono HB6.out.size))
   clear hb7
   go_wp2
   go_ret
   exact ⟨rfl,BZ.out⟩
end Go.Proofs.YtplnodcbbcdcgaaGreat.Lib0
namespace Go.Proofs.YtplnodcbbcdcgaaGreat.Lib0
open Go.RowKit Go.Proofs.YtplnodcbbcdcgaaGreatW.PrintWords Go.ChangeMaps
theorem eqCs_eq:∀ {a b:List CellM},eqCs a b=true→a=b
 | [],[],_=>rfl
 | [],_ :: _,h=>by cases h
 | _ :: _,[],h=>by cases h
 | x :: a,y :: b,h=>by
  rw[eqCs,Bool.and_eq_true] at h
  have h1:=h.1
  have h2:=eqCs_eq h.2
  unfold eqC at h1
  simp only[Bool.and_eq_true,beq_iff_eq] at h1
  obtain ⟨x0,x1,x2,x3⟩:=x
  obtain ⟨y0,y1,y2,y3⟩:=y
  simp only at h1
  obtain ⟨e0,e1,e2,e3⟩:=h1
  rw[toList_inj e0,e1,e2,toList_inj e3,h2]
theorem eqMs_eq:∀ {a b:List RowM},eqMs a b=true→a=b
 | [],[],_=>rfl
 | [],_ :: _,h=>by cases h
 | _ :: _,[],h=>by cases h
 | x :: a,y :: b,h=>by
  rw[eqMs,Bool.and_eq_true] at h
  have h1:=h.1
  have h2:=eqMs_eq h.2
  unfold eqM at h1
  simp only[Bool.and_eq_true,beq_iff_eq] at h1
  obtain ⟨x0,x1,x2⟩:=x
  obtain ⟨y0,y1,y2⟩:=y
  simp only at h1
  obtain ⟨e0,e1,e2⟩:=h1
  rw[e0,e1,eqCs_eq e2,h2]
structure RisF (M:List RowM) (n:Nat) (z:List UInt8):Prop where
 len:M.length=n
 wr:writeS M=(z,0)
 i64:∀ r ∈ M,∀ c ∈ r.cs,I64 c.n
 small:z.length≤1073741824
 cs:∀ r ∈ M,r.cs.length≤1000
theorem rising_seg (M0:List RowM) (n:Nat) (h0:0<n) (hn:n≤1000):∃ z,RisF (risingM M0 n) n z:=by
 have hw:=rising_writeS M0 n h0 hn
 have hi:∀ r ∈ risingM M0 n,∀ c ∈ r.cs,I64 c.n:=fun r hr=>(rising17_row M0 n hn r hr).2.2
 refine ⟨segB (risingM M0 n),risingM_len M0 n,hw,hi,segB_len hw hi,fun r hr=>?_⟩
 have:=rowB_head (rising17_row M0 n hn r hr).1
 omega
set_option maxHeartbeats 6400000 in
set_option maxRecDepth 100000 in
theorem walk_SegmentSame (A B:Option Addr) (ca cb:Nat) (H G:List RowH) (L K:List (List CellM)) (w:World) (hH:kr.C w A H.length H) (hL:RowsOn w H L) (hl:H.length≤9223372036854775807) (hc:∀ c ∈ L,c.length≤9223372036854775807) (gH:kr.C w B G.length G) (gL:RowsOn w G K) (gl:G.length≤9223372036854775807) (gc:∀ c ∈ K,c.length≤9223372036854775807) :
  Calls Tryz.prog 5 #[.slice A H.length ca,.slice B G.length cb] w (TrueEnd w):=by
 have mixed:Tryz.prog.follows .mixedOrders=true:=by kernel_rfl
 have late:Tryz.prog.follows .lateStores=true:=by kernel_rfl
 have HRI:=mk0 (show Calls Tryz.prog 7 #[.slice A H.length ca,.int .i64 40] w (RisS w (risingM (rowsM H L) (min H.length 40))) from keep_Rising A ca H L 40 w hH hL hl (by decide) hc)
 have HRJ:=mk0 (show ∀ w',Below w.heap.size w w'→Calls Tryz.prog 7 #[.slice B G.length cb,.int .i64 40] w' (RisS w' (risingM (rowsM G K) (min G.length 40))) from fun w' hb=>keep_Rising B cb G K 40 w' (Kd.C_below gH hb) (gL.below hb) gl (by decide) gc)
 obtain ⟨n,hn⟩:∃ n,n=min H.length 40:=⟨_,rfl⟩
 obtain ⟨m,hm⟩:∃ m,m=min G.length 40:=⟨_,rfl⟩
 rw[← hn] at HRI
 rw[← hm] at HRJ
 have hn40:n≤40:=by omega
 have hm40:m≤40:=by omega
 generalize rowsM H L=M0 at *
 generalize rowsM G K=N0 at *
 clear hH hL hc gH gL gc hn hm
 go_enter Tryz.func5,Tryz.ntmps5
 go_wp2_with fail
 (with_reducible refine HRI.out.mono ?_)
 rintro e w1 ⟨H1,L1,A1,c1,rfl,hr1,hrr1,hm1,hb1⟩
 have hH1:H1.length=n:=by
  have:=congrArg List.length hm1
  rw[rowsM_len H1 L1 hrr1.1,risingM_len] at this
  exact this
 have B1:=mk0 hb1
 have HRJ1:=mk0 (HRJ.out w1 hb1)
 have HC1:=mk0 (C_of hr1)
 have HO1:=mk0 hrr1.on
 have HM1:=mk0 hm1
 obtain ⟨_,_,he1,hc1,_⟩:=Kd.R_reads hr1
 cases he1
 have HCC1:=mk0 hc1
 clear hr1 hrr1 hm1 hb1 hc1 HRI HRJ
 go_wp2_with fail
 (with_reducible refine HRJ1.out.mono ?_)
 rintro e w2 ⟨H2,L2,A2,c2,rfl,hr2,hrr2,hm2,hb2⟩
 have hH2:H2.length=m:=by
  have:=congrArg List.length hm2
  rw[rowsM_len H2 L2 hrr2.1,risingM_len] at this
  exact this
 have B12:=mk0 hb2
 have B2:=mk0 (B1.out.trans (hb2.mono B1.out.size))
 have HC2:=mk0 (C_of hr2)
 have HO2:=mk0 hrr2.on
 have HM2:=mk0 hm2
 obtain ⟨_,_,he2,hc2,_⟩:=Kd.R_reads hr2
 cases he2
 have HCC2:=mk0 hc2
 clear hr2 hrr2 hm2 hb2 hc2 HRJ1
 subst hH1 hH2
 by_cases hn0:H1.length=0
 ·obtain rfl:H1 = []:=List.eq_nil_of_length_eq_zero hn0
  have HKN:=mk0 (law17_known w2)
  clear hn0 HC1 HO1 HM1 HC2 HO2 HM2
  go_wp2_with fail
  (with_reducible refine HKN.out.mono ?_)
  rintro e w3 ⟨rfl,hb3⟩
  have B3:=mk0 (B2.out.trans (hb3.mono B2.out.size))
  clear hb3 HKN
  go_wp2
  go_ret
  exact ⟨rfl,B3.out⟩
 have z1:((H1.length:Int)==0)=false:=by rw[beq_eq_false_iff_ne];omega
 have z1':¬ H1 = []:=by rintro rfl;simp at hn0
 by_cases hm0:H2.length=0
 ·obtain rfl:H2 = []:=List.eq_nil_of_length_eq_zero hm0
  have HKN:=mk0 (law17_known w2)
  clear hm0 HC1 HO1 HM1 HC2 HO2 HM2
  go_wp2_with fail
  (with_reducible refine HKN.out.mono ?_)
  rintro e w3 ⟨rfl,hb3⟩
  have B3:=mk0 (B2.out.trans (hb3.mono B2.out.size))
  clear hb3 HKN
  go_wp2
  go_ret
  exact ⟨rfl,B3.out⟩
 have z2:((H2.length:Int)==0)=false:=by rw[beq_eq_false_iff_ne];omega
 have z2':¬ H2 = []:=by rintro rfl;simp at hm0
 obtain ⟨za,hF1⟩:=rising_seg M0 H1.length (by omega) (by omega)
 obtain ⟨zb,hF2⟩:=rising_seg N0 H2.length (by omega) (by omega)
 have F1:=mk0 hF1
 have F2:=mk0 hF2
 generalize risingM M0 H1.length=M1 at *
 generalize risingM N0 H2.length=M2 at *
 have HWA:=mk0 (seg_Write A1 c1 H1 L1 w2 HCC1.out (Kd.C_below HC1.out B12.out) (HO1.out.below B12.out) (by rw[HM1.out];exact hF1.i64))
 rw[HM1.out,hF1.wr] at HWA
 have HWB:=mk0 (show ∀ w',Below w2.heap.size w2 w'→Calls Tryz.prog 9 #[.slice A2 H2.length c2] w' (ToldB 5 w' zb 0) from fun w' hb=>by
  have h:=seg_Write A2 c2 H2 L2 w' HCC2.out (Kd.C_below HC2.out hb) (HO2.out.below hb) (by rw[HM2.out];exact hF2.i64)
  rw[HM2.out,hF2.wr] at h
  exact h)
 clear hF1 hF2 hn0 hm0
 go_wp2_with fail
 (with_reducible refine HWA.out.mono ?_)
 rintro e w3 ⟨v3,rfl,hr3,hb3⟩
 obtain ⟨A3,c3,rfl,hc3,hC3⟩:=u8_R_len hr3
 have B23:=mk0 hb3
 have B3:=mk0 (B2.out.trans (hb3.mono B2.out.size))
 have HC3:=mk0 hC3
 have HCC3:=mk0 hc3
 have HWB3:=mk0 (HWB.out w3 hb3)
 clear hr3 hb3 hC3 hc3 HWA HWB z1 z1' z2 z2'
 go_wp2_with fail
 (with_reducible refine HWB3.out.mono ?_)
 rintro e w4 ⟨v4,rfl,hr4,hb4⟩
 obtain ⟨A4,c4,rfl,hc4,hC4⟩:=u8_R_len hr4
 have B34:=mk0 hb4
 have B4:=mk0 (B3.out.trans (hb4.mono B3.out.size))
 have HC4:=mk0 hC4
 have HOP:=mk0 (seg_Open A3 c3 za w4 (Kd.C_below HC3.out hb4) HCC3.out (by have:=F1.out.small;omega))
 clear hr4 hb4 hC4 hc4 HWB3
 go_wp2_with fail
 (with_reducible refine HOP.out.mono ?_)
 intro e w5 hop
 rcases hop with ⟨hnone,_⟩ | ⟨M,PT,sg,hsm,rfl,hsg,hsa,hb5⟩
 ·rw[openS_write F1.out.wr F1.out.i64] at hnone;cases hnone
 obtain rfl:M1=M:=by rw[openS_write F1.out.wr F1.out.i64] at hsm;injection hsm
 have HSG:=mk0 hsg
 have HSA:=mk0 hsa
 have B45:=mk0 hb5
 have HRW:=mk0 (seg_Rows hsa F1.out.wr F1.out.i64)
 clear hsm hsg hsa hb5 HOP
 go_wp2_with fail
 (with_reducible refine HRW.out.mono ?_)
 rintro e w6 ⟨H6,L6,A6,c6,rfl,hc6,hr6,ho6,hm6,hf6⟩
 have hb6:=hf6.below (base:=w4.heap.size) B45.out.size (fun p hp=>by have:=HSA.out.lt p hp;have:=HSG.out;omega)
 have B46:=mk0 (B45.out.trans hb6)
 have HWC:=mk0 (seg_Write A6 c6 H6 L6 w6 hc6 (C_of hr6) ho6.on (by rw[hm6];exact F1.out.i64))
 rw[hm6,F1.out.wr] at HWC
 clear hc6 hr6 ho6 hm6 hf6 hb6 HRW
 go_wp2_with fail
 (with_reducible refine HWC.out.mono ?_)
 rintro e w7 ⟨v7,rfl,hr7,hb7⟩
 obtain ⟨A7,c7,rfl,hc7,hC7⟩:=u8_R_len hr7
 have B47:=mk0 (B46.out.trans (hb7.mono B46.out.size))
 have B7:=mk0 (B4.out.trans (B47.out.mono B4.out.size))
 have HC7:=mk0 hC7
 have B37:=mk0 (B34.out.trans (B47.out.mono B34.out.size))
 have B27:=mk0 (B23.out.trans (B37.out.mono B23.out.size))
 have B17:=mk0 (B12.out.trans (B27.out.mono B12.out.size))
 clear hr7 hb7 hC7 hc7 HWC
 go_wp2_with fail
 have CA7:=mk0 (Kd.C_below HC3.out B37.out)
 have CB7:=mk0 (Kd.C_below HC4.out B47.out)
 have hcvA:=u8_string (P:=Tryz.prog) (w:=w7.drew) (c:=c3) Tryz.underlying23 Tryz.underlying5 Tryz.underlying9 (Kd.C_drew CA7.out)
 have hcvB:=u8_string (P:=Tryz.prog) (w:=w7.drew) (c:=c4) Tryz.underlying23 Tryz.underlying5 Tryz.underlying9 (Kd.C_drew CB7.out)
 have hcvC:=u8_string (P:=Tryz.prog) (w:=w7.drew) (c:=c7) Tryz.underlying23 Tryz.underlying5 Tryz.underlying9 (Kd.C_drew HC7.out)
 have BDR:=mk0 (below_drew w7.heap.size w7)
 have hcs1:∀ c ∈ L1,c.length≤1099511627776:=fun c hc=>by
  rw[← rowsM_cs H1 L1 HO1.out.1,HM1.out] at hc
  obtain ⟨r,hr,rfl⟩:=List.mem_map.1 hc
  have:=F1.out.cs r hr
  omega
 have hcs2:∀ c ∈ L2,c.length≤1099511627776:=fun c hc=>by
  rw[← rowsM_cs H2 L2 HO2.out.1,HM2.out] at hc
  obtain ⟨r,hr,rfl⟩:=List.mem_map.1 hc
  have:=F2.out.cs r hr
  omega
 have HKR:=mk0 (keep_Rows A1 A2 c1 c2 H1 H2 L1 L2 w7.drew (Kd.C_drew (Kd.C_below HC1.out B17.out)) (Kd.C_drew (Kd.C_below HC2.out B27.out)) ((HO1.out.below B17.out).below BDR.out) ((HO2.out.below B27.out).below BDR.out) (by omega) (by omega) hcs1 hcs2)
 rw[HM1.out,HM2.out] at HKR
 have hsame:((str za).toList==(str zb).toList)=eqMs M1 M2:=by
  by_cases he:M1=M2
  ·have hz:za=zb:=by
    have h1:=F1.out.wr
    rw[he,F2.out.wr] at h1
    injection h1 with h1
    exact h1.symm
   rw[hz,he,eqMs_refl]
   simp
  ·have h1:eqMs M1 M2=false:=by
    cases hk:eqMs M1 M2
    ·rfl
    ·exact absurd (eqMs_eq hk) he
   have h2:¬ (str za).toList=(str zb).toList:=fun h=>he (by
    have hz:=str_inj (toList_inj h)
    have h3:=F1.out.wr
    rw[hz] at h3
    exact writeS_inj h3 F2.out.wr F1.out.i64 F2.out.i64)
   rw[h1,beq_eq_false_iff_ne]
   exact h2
 have hself:((str za).toList==(str za).toList)=true:=by simp
 generalize eqMs M1 M2=k at *
 clear hcs1 hcs2 HC1 HC2 HO1 HO2 HM1 HM2 F1 F2 HC3 HC4 HSA HSG
 go_region_held3 (fun w'=>(convert 23 9 (.slice A3 za.length c3)).run Tryz.prog w' = .ok (.string (str za)) w'∧(convert 23 9 (.slice A4 zb.length c4)).run Tryz.prog w' = .ok (.string (str zb)) w'∧(convert 23 9 (.slice A7 za.length c7)).run Tryz.prog w' = .ok (.string (str za)) w') (go_keep) (first
  | (go_at_call 8;(with_reducible refine HKN.out.mono ?_);rintro e w9 ⟨rfl,hb9⟩;have B79:=mk0 (B78.out.trans (hb9.mono B78.out.size));have eA:=u8_string (P:=Tryz.prog) (c:=c3) Tryz.underlying23 Tryz.underlying5 Tryz.underlying9 (Kd.C_below CA7.out B79.out);have eB:=u8_string (P:=Tryz.prog) (c:=c4) Tryz.underlying23 Tryz.underlying5 Tryz.underlying9 (Kd.C_below CB7.out B79.out);have eC:=u8_string (P:=Tryz.prog) (c:=c7) Tryz.underlying23 Tryz.underlying5 Tryz.underlying9 (Kd.C_below HC7.out B79.out);clear hb9)
  | (go_at_call 13;(with_reducible refine HKR.out.mono ?_);rintro e w8 ⟨rfl,hb8⟩;have B78:=mk0 (BDR.out.trans (hb8.mono BDR.out.size));have dA:=u8_string (P:=Tryz.prog) (c:=c3) Tryz.underlying23 Tryz.underlying5 Tryz.underlying9 (Kd.C_below CA7.out B78.out);have dB:=u8_string (P:=Tryz.prog) (c:=c4) Tryz.underlying23 Tryz.underlying5 Tryz.underlying9 (Kd.C_below CB7.out B78.out);have dC:=u8_string (P:=Tryz.prog) (c:=c7) Tryz.underlying23 Tryz.underlying5 Tryz.underlying9 (Kd.C_below HC7.out B78.out);have HKN:=mk0 (law17_known w8);clear hb8))
 all_goals
  have B9:=mk0 (B7.out.trans (B79.out.mono B7.out.size))
  clear dA dB dC eA eB eC hcvA hcvB hcvC hsame hself
  go_wp2
  go_ret
  exact ⟨rfl,B9.out⟩
end Go.Proofs.YtplnodcbbcdcgaaGreat.Lib0
namespace Go.Proofs.YtplnodcbbcdcgaaGreat.Lib0
open Go.RowKit Go.Proofs.YtplnodcbbcdcgaaGreatW.PrintWords Go.ChangeMaps
end Go.Proofs.YtplnodcbbcdcgaaGreat.Lib0
namespace Go.Proofs.YtplnodcbbcdcgaaGreat.Lib0
open Go.RowKit Go.Proofs.YtplnodcbbcdcgaaGreatW.PrintWords Go.ChangeMaps
attribute [local irreducible] wpQuiet
end Go.Proofs.YtplnodcbbcdcgaaGreat.Lib0

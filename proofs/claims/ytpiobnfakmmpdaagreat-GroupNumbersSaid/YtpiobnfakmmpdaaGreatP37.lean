import Derived.Test.YtpiobnfakmmpdaaGreatP36
import Derived.Test.YtpiobnfakmmpdaaGreatP33
import Derived.Test.YtpiobnfakmmpdaaGreatP35
set_option linter.unusedVariables false
set_option linter.unusedSimpArgs false
namespace Go.Proofs.YtpiobnfakmmpdaaGreat.Lib0
open Go.RowKit Go.Proofs.YtpiobnfakmmpdaaGreatW.PrintWords Go.ChangeMaps
def cellQ (c:CellM) (nm:ByteArray):List CellM:=if c.kind=0 then [] else [⟨nm,c.kind,c.n,c.s⟩]
def cellsB (i:Nat) (qs:List PartQ):List CellM:=(qs.map fun q=>cellQ (q.cs.getD i noCell) q.name).flatten
def builtM (ts ss:List Int) (qs:List PartQ):List RowM:=(List.range ts.length).map fun i=>⟨ts.getD i 0,ss.getD i 0,cellsB i qs⟩
theorem cellsB_next (i:Nat) (qs:List PartQ) (j:Nat) (h:j<qs.length):cellsB i (qs.take (j+1))=cellsB i (qs.take j)++cellQ (qs[j].cs.getD i noCell) qs[j].name:=by
 unfold cellsB
 rw[take_next qs j h,List.map_append,List.flatten_append]
 simp
theorem builtM_next (ts ss:List Int) (qs:List PartQ) (i:Nat) (h:i<ts.length):(builtM ts ss qs).take (i+1)=(builtM ts ss qs).take i++[⟨ts.getD i 0,ss.getD i 0,cellsB i qs⟩]:=by
 have hl:i<(builtM ts ss qs).length:=by simp[builtM,h]
 rw[take_next _ i hl]
 congr 2
 simp[builtM]
theorem cellsB_len (i:Nat) (qs:List PartQ):(cellsB i qs).length≤qs.length:=by
 induction qs with
 | nil=>simp[cellsB]
 | cons q t ih=>
  have e:cellsB i (q :: t)=cellQ (q.cs.getD i noCell) q.name++cellsB i t:=by simp[cellsB]
  have h1:(cellQ (q.cs.getD i noCell) q.name).length≤1:=by unfold cellQ;split<;>simp
  rw[e,List.length_append,List.length_cons]
  omega
theorem Free.same {w w':World} {ps:List PartM} {v:Value} (h:Free w ps v) (hs:∀ p ∈ ps,w'.heap[p.cp]?=w.heap[p.cp]?):Free w' ps v:=fun p hp q hq hx=>h p hp q hq (hx.same (hs p hp))
theorem ChksAt.off {w w':World} {base q:Nat} {ps:List PartM} (h:ChksAt w base ps) (hk:Keep1 q w w') (hne:∀ p ∈ ps,p.cp≠q) (h8:∀ o x,w.cell? ⟨q,o,none⟩≠some (.int .u8 x)) (hc:∀ o s k,w.cell? ⟨q,o,none⟩=some (.string s)→w.cell? ⟨q,o+1,none⟩≠some (.int .i64 k)):ChksAt w' base ps:=
 ⟨fun p hp=>(h.at_ p hp).off hk (hne p hp) h8 hc,h.nodup,h.old,h.fit⟩
structure RowAt (w V:World) (base rb:Nat) (t s:Int) (ps:List PartM) (cs:List CellM):Prop where
 ex:∃ A c,cs.length≤c∧V.heap[rb]?=some (.cells #[.int .i64 t,.int .i64 s,.slice A cs.length c] 35)∧kc.R 37 V w.heap.size (fun _=>True) (.slice A cs.length c) cs∧Free V ps (.slice A cs.length c)
 K:ChksAt V base ps
 F:Fr ps w V
def BuiltS (w:World) (g base:Nat) (vt vs vp:Value) (ts ss:List Int) (ps:List PartM) (e:Ending) (w':World):Prop:=
 ∃ H L A c,e = .returned (.slice A H.length c)∧H.length≤c∧kr.R 35 w' w.heap.size (fun _=>True) (.slice A H.length c) H∧RowsR w' w.heap.size H L∧rowsM H L=builtM ts ss (ps.map PartM.q)∧GrpAt w' g base vt vs vp ts ss ps∧Fr ps w w'
set_option maxHeartbeats 3200000 in
set_option maxRecDepth 100000 in
theorem group_built {w:World} {g base:Nat} {vt vs vp:Value} {ts ss:List Int} {ps:List PartM} (h:GrpAt w g base vt vs vp ts ss ps) (hss:ss.length=ts.length) (hts:ts.length≤65536) (hps:ps.length≤65536) (hcs:∀ p ∈ ps,p.cs.length=ts.length) :
  Calls Tryz.prog 61 #[.pointer (some ⟨g,0,none⟩)] w (BuiltS w g base vt vs vp ts ss ps):=by
 have HG:=mk0 h
 have HSS:=mk0 hss
 have HTS:=mk0 hts
 have HPS:=mk0 hps
 have HCS:=mk0 hcs
 obtain ⟨At,ct,rfl⟩:=Kd.R_slice h.R0
 obtain ⟨As,cs',rfl⟩:=Kd.R_slice h.R1
 obtain ⟨Ap,cp',rfl⟩:=Kd.R_slice h.R2
 have x0:=h.c0
 have hti:(ts.length:Int)≤65536:=by omega
 have hpi:(ps.length:Int)≤65536:=by omega
 have HF0:=mk0 (Fr.refl ps w)
 clear h hss hcs
 go_enter Tryz.func61,Tryz.ntmps61
 go_wp2_with fail
 clear x0
 go_loopw[3,15] (fun v3 v15 wr=>∃ (i:Nat) (H:List RowH) (L:List (List CellM)),i≤ts.length∧v15 = .int .i64 i∧Aside0 (H.length=i)∧Aside0 (rowsM H L=(builtM ts ss (ps.map PartM.q)).take i)∧Aside0 (kr.R 35 wr w.heap.size (fun _=>True) v3 H)∧Aside0 (RowsR wr w.heap.size H L)∧Aside0 (ChksAt wr base ps∧Free wr ps v3)∧Aside0 (Fr ps w wr)) (fun _ i _=>ts.length-(intOf i).toNat)
 case atStart=>exact ⟨0,[],[],by omega,rfl,⟨rfl⟩,⟨by simp[rowsM]⟩,⟨Kd.R_nil _ _ _ _ _⟩,⟨⟨rfl,fun i h1=>by simp at h1⟩⟩,⟨⟨HG.out.K,Free.none _ _ _ _⟩⟩,HF0⟩
 case round=>
  clear HF0
  obtain ⟨i,H,L,hi,rfl,HHL,HM,HR,HRR,HKF,HF⟩:=hrel
  obtain ⟨A3,c3,hv3⟩:=Kd.R_slice HR.out
  subst hv3
  have HGW:=mk0 (HG.out.fr HF.out HKF.out.1)
  by_cases hlt:i<ts.length
  ·have hlt2:(i:Int)<ts.length:=by omega
   have hls2:(i:Int)<ss.length:=by have:=HSS.out;omega
   have hls:i<ss.length:=by have:=HSS.out;omega
   obtain ⟨bt,ot,rfl,hxt⟩:=sc_open (C_of HGW.out.R0) (by omega)
   obtain ⟨bs,os,rfl,hxs⟩:=sc_open (C_of HGW.out.R1) (by omega)
   have xt:=hxt i hlt
   have xs:=hxs i hls
   have g1:=HGW.out.c1
   have g2:=HGW.out.c2
   have hg:=HGW.out.lt
   have hgn:g≠wr.heap.size:=by omega
   obtain ⟨t,ht⟩:∃ t,t=ts[i]:=⟨_,rfl⟩
   obtain ⟨s,hs⟩:∃ s,s=ss[i]:=⟨_,rfl⟩
   rw[← ht] at xt
   rw[← hs] at xs
   have HMN:=mk0 (show (builtM ts ss (ps.map PartM.q)).take (i+1)=rowsM H L++[⟨t,s,cellsB i (ps.map PartM.q)⟩] by
    rw[builtM_next _ _ _ i hlt,HM.out,ht,hs,List.getD_eq_getElem?_getD,List.getD_eq_getElem?_getD,List.getElem?_eq_getElem hlt,List.getElem?_eq_getElem hls];rfl)
   clear ht hs hxt hxs
   go_wp2_with fail
   have HQL:=mk0 (show (ps.map PartM.q).length=ps.length by simp)
   have HRA:Aside0 (RowAt wr (wr.alloc (.cells #[.int .i64 t,.int .i64 s,.slice none 0 0] 35)) base wr.heap.size t s ps (cellsB i ((ps.map PartM.q).take 0))):=by
    have hb:=below_alloc (Below.refl wr.heap.size wr) (.cells #[.int .i64 t,.int .i64 s,.slice none 0 0] 35)
    exact ⟨⟨none,0,Nat.zero_le _,heap_alloc_new wr _,Kd.R_nil _ _ _ _ _,Free.none _ _ _ _⟩,HKF.out.1.below hb,Fr.of_below HKF.out.1 hb⟩
   clear g1 g2 xt xs hgn
   generalize wr=W0 at *
   go_loopw[34] (fun v34 wq=>∃ (j:Nat),j≤ps.length∧v34 = .int .i64 j∧Aside0 (RowAt W0 wq base W0.heap.size t s ps (cellsB i ((ps.map PartM.q).take j)))) (fun j _=>ps.length-(intOf j).toNat)
   case atStart=>exact ⟨0,by omega,rfl,HRA⟩
   case round=>
    clear HRA
    obtain ⟨j,hj,rfl,HRA⟩:=hrel
    obtain ⟨Ar,cr,hcr,hrb,hrc,hrf⟩:=HRA.out.ex
    have HGV:=mk0 (HGW.out.fr HRA.out.F HRA.out.K)
    by_cases hjl:j<ps.length
    ·have hjl2:(j:Int)<ps.length:=by omega
     obtain ⟨bp,op,rfl,hxp⟩:=kp_open (C_of HGV.out.R2) (by omega)
     obtain ⟨p0,p1⟩:=hxp j hjl
     obtain ⟨p,hp⟩:∃ p,p=ps[j]:=⟨_,rfl⟩
     have hpm:p ∈ ps:=by rw[hp];exact List.getElem_mem hjl
     have HNX:=mk0 (show cellsB i ((ps.map PartM.q).take (j+1))=cellsB i ((ps.map PartM.q).take j)++cellQ (p.cs.getD i noCell) p.name by
      rw[cellsB_next i _ j (by simp;exact hjl),hp];simp[PartM.q])
     have hlen:i<p.cs.length:=by rw[HCS.out p hpm];exact hlt
     obtain ⟨y,hy⟩:∃ y,y=p.cs[i]:=⟨_,rfl⟩
     rw[List.getD_eq_getElem?_getD,List.getElem?_eq_getElem hlen,Option.getD_some,← hy] at HNX
     rw[← hp] at p0 p1
     obtain ⟨acc,hacc⟩:∃ acc,acc=cellsB i ((ps.map PartM.q).take j):=⟨_,rfl⟩
     have HAL:=mk0 (show acc.length≤65536 by rw[hacc];have:=cellsB_len i ((ps.map PartM.q).take j);rw[List.length_take] at this;have:=HPS.out;have:=HQL.out;omega)
     rw[← hacc] at HNX hcr hrb hrc hrf
     have HRT:=mk0 (And.intro HRA.out.K HRA.out.F)
     clear HRA hacc hp
     have hrl:W0.heap.size<wr.heap.size:=(Array.getElem?_eq_some_iff.1 hrb).1
     have HRB:=mk0 (And.intro hcr (And.intro hrb (And.intro hrc hrf)))
     have HY:=mk0 hy
     clear hcr hrb hrc hrf hxp hy
     go_wp2_with fail
     obtain ⟨V1,hV1⟩:∃ V,V=wr.alloc (.cells #[.string p.name,.pointer (some ⟨p.cp,0,none⟩)] 136):=⟨_,rfl⟩
     have hx1:=heap_alloc_new wr (.cells #[.string p.name,.pointer (some ⟨p.cp,0,none⟩)] 136)
     have hb1:=below_alloc (Below.refl wr.heap.size wr) (.cells #[.string p.name,.pointer (some ⟨p.cp,0,none⟩)] 136)
     rw[← hV1] at hx1 hb1 ⊢
     have HK1:=mk0 (HRT.out.1.below hb1)
     have HCE:=mk0 (ck_Cell (HK1.out.at_ p hpm) (HK1.out.fit p hpm).1 (HK1.out.fit p hpm).2 i hlen)
     rw[← HY.out] at HCE
     have HX1:=mk0 hx1
     have HB1:=mk0 hb1
     clear hV1 hx1 hb1
     (with_reducible refine HCE.out.mono ?_)
     rintro e w5 ⟨rfl,hck,hk1,hsb⟩
     have HF5:=mk0 ((HRT.out.2.more HKF.out.1 (HB1.out.mono (Nat.le_of_lt hrl))).trans (Fr.turn HK1.out hpm hk1 hsb))
     have HK5:=mk0 (HK1.out.turn hpm hk1 hck)
     have hpc:=HRT.out.1.at_ p hpm |>.lt
     have hpw:p.cp<W0.heap.size:=(HKF.out.1.at_ p hpm).lt
     have HFR5:=mk0 (((HRB.out.2.2.2.below HRT.out.1 HB1.out)).turn HK1.out hpm hk1 hsb (fun x hx=>Nat.lt_of_lt_of_le (Kd.R_lt HRB.out.2.2.1 x hx) HB1.out.size))
     have HRC5:=mk0 (R_moved (w':=w5) rfl (Kd.R_below HRB.out.2.2.1 HB1.out) (fun q hq=>hk1.block q (Nat.lt_of_lt_of_le (Kd.R_lt HRB.out.2.2.1 q hq) HB1.out.size) (by have:=R_base HRB.out.2.2.1 q hq;omega)))
     have HRB5:=mk0 ((hk1.block W0.heap.size (Nat.lt_of_lt_of_le hrl HB1.out.size) (by omega)).trans ((HB1.out.block _ hrl).trans HRB.out.2.1))
     have HX5:=mk0 ((hk1.block wr.heap.size (Array.getElem?_eq_some_iff.1 HX1.out).1 (by omega)).trans HX1.out)
     have HS5:=mk0 (Nat.le_trans HB1.out.size hk1.size)
     clear hck hk1 hsb HX1 HB1 HK1 HCE
     have x0:=cell_of_heap (i:=0) HX5.out rfl
     have r2:=cell_of_heap (i:=2) HRB5.out rfl
     have n1:wr.heap.size≠w5.heap.size:=by
      have:=(Array.getElem?_eq_some_iff.1 HX5.out).1
      omega
     have n2:W0.heap.size≠w5.heap.size:=by
      have:=(Array.getElem?_eq_some_iff.1 HRB5.out).1
      omega
     have x0a:∀ o,(w5.alloc o).cell? ⟨wr.heap.size,0,none⟩=some (.string p.name):=fun o=>(World.cell?_alloc_lt _ _ _ (Array.getElem?_eq_some_iff.1 HX5.out).1).trans x0
     have r2a:∀ o,(w5.alloc o).cell? ⟨W0.heap.size,2,none⟩=some (.slice Ar acc.length cr):=fun o=>(World.cell?_alloc_lt _ _ _ (Array.getElem?_eq_some_iff.1 HRB5.out).1).trans r2
     have hcr2:=HRB.out.1
     clear HRB
     by_cases hyk:y.kind=0
     ·have hb0:(y.kind==0)=true:=by rw[beq_iff_eq];exact hyk
      have HNX:=mk0 (show cellsB i ((ps.map PartM.q).take (j+1))=acc by rw[HNX.out];unfold cellQ;rw[if_pos hyk,List.append_nil])
      have HBC:=mk0 (below_alloc (Below.refl w5.heap.size w5) (.cells #[.string y.col,.int .i64 y.kind,.int .i64 y.n,.string y.s] 37))
      have HRN:Aside0 (RowAt W0 (w5.alloc (.cells #[.string y.col,.int .i64 y.kind,.int .i64 y.n,.string y.s] 37)) base W0.heap.size t s ps (cellsB i ((ps.map PartM.q).take (j+1)))):=by
       rw[HNX.out]
       exact ⟨⟨Ar,cr,hcr2,(HBC.out.block _ (Array.getElem?_eq_some_iff.1 HRB5.out).1).trans HRB5.out,Kd.R_below HRC5.out HBC.out,HFR5.out.below HK5.out HBC.out⟩,HK5.out.below HBC.out,HF5.out.more HKF.out.1 (HBC.out.mono HF5.out.size)⟩
      rw[hyk] at HRN
      clear HRC5 HRB5 HX5 HF5 HK5 HFR5 HRT HBC
      go_wp2
      go_roundw
      case rel=>exact ⟨j+1,by omega,by go_num,HRN⟩
      case measure=>simp[intOf];omega
     ·have hb0:(y.kind==0)=false:=by rw[beq_eq_false_iff_ne];exact hyk
      have hb0':(y.kind != 0)=true:=by rw[bne_iff_ne];exact hyk
      have HNX:=mk0 (show cellsB i ((ps.map PartM.q).take (j+1))=acc++[⟨p.name,y.kind,y.n,y.s⟩] by rw[HNX.out];unfold cellQ;rw[if_neg hyk])
      have HBC:=mk0 (below_alloc (Below.refl w5.heap.size w5) (.cells #[.string p.name,.int .i64 y.kind,.int .i64 y.n,.string y.s] 37))
      have HRC6:=mk0 (Kd.R_below HRC5.out HBC.out)
      have HRB6:=mk0 ((HBC.out.block _ (Array.getElem?_eq_some_iff.1 HRB5.out).1).trans HRB5.out)
      have HFR6:=mk0 (HFR5.out.below HK5.out HBC.out)
      have HK6:=mk0 (HK5.out.below HBC.out)
      have HF6:=mk0 (HF5.out.more HKF.out.1 (HBC.out.mono HF5.out.size))
      have HA6:=mk0 (show acc.length≤1099511627776 by have:=HAL.out;omega)
      clear HRC5 HRB5 HX5 HF5 HK5 HFR5 HRT HBC
      go_wp2_with (at_builtin;go_loud (refine kc_append (W:=w5.alloc (.cells #[.string p.name,.int .i64 y.kind,.int .i64 y.n,.string y.s] 37)) (.tmp 49) (.tmp 51) 33 37 (.slice Ar acc.length cr) acc ⟨p.name,y.kind,y.n,y.s⟩ W0.heap.size rfl rfl Tryz.underlying33 info_cell rfl (by show Value.slice (some ⟨_,0,none⟩) 1 1=_;simp) HRC6.out HF6.out.size HA6.out ?_))
      intro v1 w7 hr7 hb7 hg7 hat7
      have hrb7:=(hg7.block W0.heap.size (Array.getElem?_eq_some_iff.1 HRB6.out).1 (fun e=>R_not_at HRC6.out HRB6.out (by decide) e.symm)).trans HRB6.out
      have r27:=cell_of_heap (i:=2) hrb7 rfl
      have f27:=frozen_of_heap (i:=2) hrb7
      obtain ⟨A7,c7,rfl,hc7,_⟩:=Kd.R_reads hr7
      have hown7:∀ q,(Value.slice A7 (acc++[(⟨p.name,y.kind,y.n,y.s⟩:CellM)]).length c7).ownBlock=some q→q≠W0.heap.size:=fun q hq e=>by
       subst e
       exact R_not_at hr7 hrb7 (by decide) hq
      have hk7:=HK6.out.grown hg7 HFR6.out
      have hne7:∀ p ∈ ps,p.cp≠W0.heap.size:=fun p hp e=>by have:=(HKF.out.1.at_ p hp).lt;omega
      have HRN:Aside0 (RowAt W0 (w7.setCell ⟨W0.heap.size,2,none⟩ (.slice A7 (acc++[(⟨p.name,y.kind,y.n,y.s⟩:CellM)]).length c7)) base W0.heap.size t s ps (acc++[⟨p.name,y.kind,y.n,y.s⟩])):=
       ⟨⟨⟨A7,c7,hc7,heap_setCell_same _ _ 2 _ _ _ hrb7,R_moved rfl hr7 (fun q hq=>Below.heap_setCell _ _ _ _ (hown7 q hq)),(Free.next HK6.out HFR6.out hg7 (by rcases hat7 with h | ⟨b,h1,h2⟩;exact .inl h;exact .inr ⟨b,h1,by simpa using h2⟩)).same (fun p hp=>Below.heap_setCell _ _ _ _ (hne7 p hp))⟩,
        hk7.off ((Keep1.refl W0.heap.size w7).set 2 _) hne7 (fun o x=>by
         unfold World.cell?
         simp only[hrb7]
         rcases o with _ | _ | _ | o<;>simp) (fun o s k=>by
         unfold World.cell?
         simp only[hrb7]
         rcases o with _ | _ | _ | o<;>simp),
        (HF6.out.more HKF.out.1 hb7).more HKF.out.1 ((Below.refl W0.heap.size w7).setCell (p:=⟨W0.heap.size,2,none⟩) (Nat.le_refl _) _)⟩⟩
      rw[show (acc++[(⟨p.name,y.kind,y.n,y.s⟩:CellM)]).length=acc.length+1 by simp,← HNX.out] at HRN
      clear hr7 hb7 hg7 hat7 hrb7 hc7 hown7 hk7 hne7 HRC6 HRB6 HFR6 HK6 HF6
      go_wp2
      go_roundw
      case rel=>exact ⟨j+1,by omega,by go_num,HRN⟩
      case measure=>simp[intOf];omega
    ·have hj2:j=ps.length:=by omega
     subst hj2
     rw[List.take_of_length_le (by simp)] at hcr hrb hrc hrf
     have HRT:=mk0 (And.intro HRA.out.K HRA.out.F)
     have HMN2:=HMN
     obtain ⟨acc,hacc⟩:∃ acc,acc=cellsB i (ps.map PartM.q):=⟨_,rfl⟩
     rw[← hacc] at hcr hrb hrc hrf HMN2
     have r0:=cell_of_heap (i:=0) hrb rfl
     have r1:=cell_of_heap (i:=1) hrb rfl
     have r2:=cell_of_heap (i:=2) hrb rfl
     have HR2:=mk0 (R_fr rfl HR.out (by decide) HKF.out.1 HRT.out.2)
     have HRR2:=mk0 (HRR.out.fr HKF.out.1 HRT.out.2)
     have HF2:=mk0 (HF.out.trans HRT.out.2)
     have HFR2:=mk0 (HKF.out.2.fr HRT.out.2 (fun x hx=>Kd.R_lt HR.out x hx))
     have HH:=mk0 (show H.length≤1099511627776 by have:=HHL.out;omega)
     have HRC:=mk0 (And.intro hcr (And.intro hrc hrf))
     clear HRA hacc hcr hrb hrc hrf HR HGV HGW HMN
     go_wp2_with (at_builtin;go_loud (refine kr_append (W:=wr) (.tmp 55) (.tmp 57) 23 35 (.slice A3 H.length c3) H ⟨t,s,Ar,acc.length,cr⟩ w.heap.size rfl rfl Tryz.underlying23 info_row rfl rfl HR2.out HF2.out.size HH.out ?_))
     intro v1 w7 hr7 hb7 hg7 hat7
     have HRR7:=mk0 ((HRR2.out.grown HR2.out (by decide) hg7).snoc ⟨t,s,Ar,acc.length,cr⟩ acc rfl HRC.out.1 (Kd.R_lower (R_grown_ne rfl HRC.out.2.1 HR2.out (by decide) hg7) HF.out.size))
     have HKF7:=mk0 (And.intro (HRT.out.1.grown hg7 HFR2.out) (Free.next HRT.out.1 HFR2.out hg7 hat7))
     have HF7:=mk0 (HF2.out.more HG.out.K hb7)
     have HM7:=mk0 (show rowsM (H++[(⟨t,s,Ar,acc.length,cr⟩:RowH)]) (L++[acc])=(builtM ts ss (ps.map PartM.q)).take (i+1) by
      rw[rowsM_snoc _ _ _ _ HRR.out.1,HMN2.out])
     have HH7:=mk0 (show (H++[(⟨t,s,Ar,acc.length,cr⟩:RowH)]).length=i+1 by rw[List.length_append,HHL.out];rfl)
     have HR7:=mk0 hr7
     generalize H++[(⟨t,s,Ar,acc.length,cr⟩:RowH)]=H2 at *
     clear hr7 hb7 hg7 hat7 HRR2 HRC HRT HFR2 HF2 HF HKF HM HR2 HMN2 HRR
     go_wp2
     go_roundw
     case rel=>exact ⟨i+1,H2,L++[acc],by omega,by go_num,HH7,HM7,HR7,HRR7,HKF7,HF7⟩
     case measure=>simp[intOf];omega
  ·have hi2:i=ts.length:=by omega
   subst hi2
   rw[List.take_of_length_le (by simp[builtM])] at HM
   obtain ⟨A9,c9,e9,hc9,_⟩:=Kd.R_reads HR.out
   cases e9
   clear HHL
   go_wp2
   go_ret
   exact ⟨H,L,A3,c3,rfl,hc9,HR.out,HRR.out,HM.out,HGW.out,HF.out⟩
end Go.Proofs.YtpiobnfakmmpdaaGreat.Lib0
namespace Go.Proofs.YtpiobnfakmmpdaaGreat.Lib0
open Go.RowKit Go.Proofs.YtpiobnfakmmpdaaGreatW.PrintWords Go.ChangeMaps
structure ZoneE where
 col:ByteArray
 z:ZoneM
def ZoneE.cells (e:ZoneE):List Value:=[.string e.col,.int .i64 e.z.kind,.int .i64 e.z.rows,.int .i64 e.z.nulls,.int .i64 e.z.minN,.int .i64 e.z.maxN,.string e.z.minS,.string e.z.maxS]
def kz:Kd ZoneE:=Kd.iso (Kd.pair Kd.string (Kd.pair (Kd.int .i64) (Kd.pair (Kd.int .i64) (Kd.pair (Kd.int .i64) (Kd.pair (Kd.int .i64) (Kd.pair (Kd.int .i64) (Kd.pair Kd.string Kd.string)))))))
 (fun e=>(e.col,e.z.kind,e.z.rows,e.z.nulls,e.z.minN,e.z.maxN,e.z.minS,e.z.maxS))
theorem kz_M {w:World} {base:Nat} {ok:Nat→Prop} (e:ZoneE):kz.M w base ok e e.cells:=
 ⟨[.string e.col],_,rfl,rfl,[.int .i64 e.z.kind],_,rfl,rfl,[.int .i64 e.z.rows],_,rfl,rfl,[.int .i64 e.z.nulls],_,rfl,rfl,[.int .i64 e.z.minN],_,rfl,rfl,[.int .i64 e.z.maxN],_,rfl,rfl,[.string e.z.minS],[.string e.z.maxS],rfl,rfl,rfl⟩
theorem kz_K {w:World} {e:ZoneE} {cs:List Value} (h:kz.K w e cs):cs=e.cells:=by
 obtain ⟨_,_,rfl,rfl,_,_,rfl,rfl,_,_,rfl,rfl,_,_,rfl,rfl,_,_,rfl,rfl,_,_,rfl,rfl,_,_,rfl,rfl,rfl⟩:=h
 rfl
theorem kz_flat:Flat kz ZoneE.cells 8:=⟨rfl,fun h=>kz_K h,fun x=>kz_M x,fun _=>rfl,fun x u hu=>by
 unfold ZoneE.cells at hu
 simp only[List.mem_cons,List.not_mem_nil,or_false] at hu
 rcases hu with rfl | rfl | rfl | rfl | rfl | rfl | rfl | rfl<;>rfl⟩
theorem info_zone:(Tryz.prog.info? 147).map (fun i=>(i.zero,i.size,i.bytes))=some (some (.agg #[.string ⟨#[]⟩,.int .i64 0,.int .i64 0,.int .i64 0,.int .i64 0,.int .i64 0,.string ⟨#[]⟩,.string ⟨#[]⟩]),8,88):=by kernel_rfl
structure BloomE where
 col:ByteArray
 bits:Int
 A:Option Addr
 n:Nat
 c:Nat
def BloomE.cells (e:BloomE):List Value:=[.string e.col,.int .i64 e.bits,.slice e.A e.n e.c]
def kb:Kd BloomE:=Kd.iso (Kd.pair Kd.string (Kd.pair (Kd.int .i64) (Kd.scalar (fun p:Option Addr × Nat × Nat=>Value.slice p.1 p.2.1 p.2.2) (fun _=>rfl)))) (fun e=>(e.col,e.bits,e.A,e.n,e.c))
theorem kb_M {w:World} {base:Nat} {ok:Nat→Prop} (e:BloomE):kb.M w base ok e e.cells:=
 ⟨[.string e.col],_,rfl,rfl,[.int .i64 e.bits],[.slice e.A e.n e.c],rfl,rfl,rfl⟩
theorem kb_K {w:World} {e:BloomE} {cs:List Value} (h:kb.K w e cs):cs=e.cells:=by
 obtain ⟨_,_,rfl,rfl,_,_,rfl,rfl,rfl⟩:=h
 rfl
theorem kb_flat:Flat kb BloomE.cells 3:=⟨rfl,fun h=>kb_K h,fun x=>kb_M x,fun _=>rfl,fun x u hu=>by
 unfold BloomE.cells at hu
 simp only[List.mem_cons,List.not_mem_nil,or_false] at hu
 rcases hu with rfl | rfl | rfl<;>rfl⟩
theorem info_bloom:(Tryz.prog.info? 152).map (fun i=>(i.zero,i.size,i.bytes))=some (some (.agg #[.string ⟨#[]⟩,.int .i64 0,.slice none 0 0]),3,48):=by kernel_rfl
def BlR (w:World) (lo:Nat) (E:List BloomE) (L:List (List UInt8)):Prop:=E.length=L.length∧∀ i (h1:i<E.length) (h2:i<L.length),E[i].n=L[i].length∧L[i].length≤E[i].c∧u8.R 5 w lo (fun _=>True) (.slice E[i].A E[i].n E[i].c) L[i]
theorem BlR.fr {w w1:World} {lo b:Nat} {E:List BloomE} {L:List (List UInt8)} {ps:List PartM} (h:BlR w lo E L) (hk:ChksAt w b ps) (hf:Fr ps w w1):BlR w1 lo E L:=
 ⟨h.1,fun i h1 h2=>⟨(h.2 i h1 h2).1,(h.2 i h1 h2).2.1,R_fr rfl (h.2 i h1 h2).2.2 (by decide) hk hf⟩⟩
theorem BlR.grown {α:Type} {d:Kd α} {e base lo:Nat} {ok:Nat→Prop} {w w1:World} {v:Value} {l:List α} {E:List BloomE} {L:List (List UInt8)} (h:BlR w lo E L) (h':d.R e w base ok v l) (hne:5≠e) (hg:w.grownBy w1 v.ownBlock):BlR w1 lo E L:=
 ⟨h.1,fun i h1 h2=>⟨(h.2 i h1 h2).1,(h.2 i h1 h2).2.1,R_grown_ne rfl (h.2 i h1 h2).2.2 h' hne hg⟩⟩
theorem BlR.off {lo g i' T:Nat} {w:World} {u:Value} {cs:Array Value} {E:List BloomE} {L:List (List UInt8)} (h:BlR w lo E L) (hg:w.heap[g]?=some (.cells cs T (0,0))) (hne:T≠5):BlR (w.setCell ⟨g,i',none⟩ u) lo E L:=
 ⟨h.1,fun i h1 h2=>⟨(h.2 i h1 h2).1,(h.2 i h1 h2).2.1,R_set_ne rfl (h.2 i h1 h2).2.2 hg hne i' u⟩⟩
theorem BlR.snoc {w:World} {lo:Nat} {E:List BloomE} {L:List (List UInt8)} (h:BlR w lo E L) (x:BloomE) (cs:List UInt8) (h1:x.n=cs.length) (h2:cs.length≤x.c) (hr:u8.R 5 w lo (fun _=>True) (.slice x.A x.n x.c) cs):BlR w lo (E++[x]) (L++[cs]):=by
 refine ⟨by simp[h.1],fun i k1 k2=>?_⟩
 rw[List.length_append,List.length_singleton] at k1 k2
 by_cases hi:i<E.length
 ·have hi2:i<L.length:=by rw[← h.1];exact hi
  rw[List.getElem_append_left hi,List.getElem_append_left hi2]
  exact h.2 i hi hi2
 ·have e1:i=E.length:=by omega
  have e2:i=L.length:=by rw[← h.1];exact e1
  have g1:(E++[x])[i]'(by simp;omega)=x:=by subst e1;simp
  have g2:(L++[cs])[i]'(by simp;omega)=cs:=by subst e2;simp
  rw[g1,g2]
  exact ⟨h1,h2,hr⟩
structure BloomM where
 col:ByteArray
 bits:Int
 b:List UInt8
def bloomsM:List BloomE→List (List UInt8)→List BloomM
 | e :: E,b :: L=>⟨e.col,e.bits,b⟩ :: bloomsM E L
 | _,_=>[]
theorem bloomsM_snoc:∀ (E:List BloomE) (L:List (List UInt8)) (x:BloomE) (b:List UInt8),E.length=L.length→bloomsM (E++[x]) (L++[b])=bloomsM E L++[⟨x.col,x.bits,b⟩]
 | [],[],x,b,_=>rfl
 | h :: E,c :: L,x,b,e=>by
  show _ :: bloomsM (E++[x]) (L++[b])=_ :: (bloomsM E L++[_])
  rw[bloomsM_snoc E L x b (by simpa using e)]
def textsK (l:List CellM):List ByteArray:=(l.filter fun c=>decide (c.kind=2)).map (·.s)
theorem textsK_next (l:List CellM) (k:Nat) (h:k<l.length):textsK (l.take (k+1))=textsK (l.take k)++(if l[k].kind=2 then [l[k].s] else []):=by
 unfold textsK
 rw[take_next l k h,List.filter_append,List.map_append]
 congr 1
 by_cases hk:l[k].kind=2<;>simp[hk]
def zoneQ (q:PartQ):ZoneE:=⟨q.name,zoneB (kindOf q.form) q.cs⟩
def bloomQ (q:PartQ):List BloomM:=if kindOf q.form=2 then [⟨q.name,bloomBits (dictL (textsK q.cs)).length,bloomB (textsK q.cs)⟩] else []
def bloomsQ (qs:List PartQ):List BloomM:=(qs.map bloomQ).flatten
theorem bloomsQ_next (qs:List PartQ) (j:Nat) (h:j<qs.length):bloomsQ (qs.take (j+1))=bloomsQ (qs.take j)++bloomQ qs[j]:=by
 unfold bloomsQ
 rw[take_next qs j h,List.map_append,List.flatten_append]
 simp
section
variable {α:Type} {d:Kd α} {f:α→List Value} {k:Nat}
variable {P:Program} {ops:Array Oper} {o:Oper} {a:Act} {Q:Exit→Act→World→Prop} {Kc:Act→World→Prop} {E:Prop}
theorem Flat.one_step (F:Flat d f k) {V:World} (base:Nat) (hgd:o.guard=none) (s x:Operand) (t e:TypeId) (z:Value) (bytes:Nat)
  (ho:o.op = .call { callee:=.builtin .append,args:=#[s,x],argTypes:=#[t,t] }) (ht:P.underlying t=some (.slice e))
  (hinfo:(P.info? e).map (fun i=>(i.zero,i.size,i.bytes))=some (some z,k,bytes)) (hzs:z.cells.size=k) (hk0:0<k) (hb0:0<bytes) (hb1:bytes≤128)
  (v:Value) (xs:List α) (y:α) (b T:Nat) (hs:a.eval s=v) (hx:a.eval x = .slice (some ⟨b,0,none⟩) 1 1) (hb:V.heap[b]?=some (.cells (f y).toArray T (0,0)))
  (HO:d.R e V base (fun _=>True) v xs) (hbase:base≤V.heap.size) (hl:xs.length≤1048576)
  (h:∀ v1 w1,d.R e w1 base (fun _=>True) v1 (xs++[y])→Below base V w1→V.grownBy w1 v.ownBlock→(v1.ownBlock=v.ownBlock∨v1.ownBlock=some V.heap.size)→Kc (a.put o.dst v1) w1) :
  if Region.wanted o (yielded ops a.tmps)=true then Oper.wp P o a V Kc Q else E:=
 F.append_step base (by simp[Region.wanted,hgd]) s x t e z bytes ho ht hinfo hzs hk0 hb0 v xs [y] ⟨b,0,none⟩ 1 1 (fun _=>True) hs hx rfl (fun j u hj=>by
  have hj2:(f y)[j]?=some u:=by simpa [flatF] using hj
  have hc:V.cell? ⟨b,j,none⟩=some u:=cell_of_heap hb (by rw[List.getElem?_toArray];exact hj2)
  rw[add_plain]
  exact hc) trivial HO hbase (by
   calc (xs.length+1)*bytes≤(1048576+1)*128:=Nat.mul_le_mul (by omega) hb1
    _≤140737488355328:=by decide) h
end
end Go.Proofs.YtpiobnfakmmpdaaGreat.Lib0

import Derived.Test.YtpiobnfakmmpdaaGreatP24
set_option linter.unusedVariables false
set_option linter.unusedSimpArgs false
namespace Go.Proofs.YtpiobnfakmmpdaaGreat.Lib0
open Go.RowKit Go.Proofs.YtpiobnfakmmpdaaGreatW.PrintWords Go.ChangeMaps
set_option maxRecDepth 100000 in
theorem clip_col (A:Option Addr) (c n:Nat) (w:World) (hc:n≤c) (hl:n≤1099511627776) :
  Calls Tryz.prog 91 #[.slice A n c] w fun e w'=>e = .returned (.slice A n n)∧w=w':=by
 have h1:(n:Int)≤c:=by omega
 go_enter Tryz.func91,Tryz.ntmps91
 go_wp2
 go_ret
 exact ⟨rfl,rfl⟩
def RowsOn (w:World) (H:List RowH) (L:List (List CellM)):Prop:=H.length=L.length∧∀ i (h1:i<H.length) (h2:i<L.length),H[i].n=L[i].length∧L[i].length≤H[i].c∧kc.C w H[i].A L[i].length L[i]
theorem RowsOn.below {w w':World} {H:List RowH} {L:List (List CellM)} (h:RowsOn w H L) (hb:Below w.heap.size w w'):RowsOn w' H L:=⟨h.1,fun i h1 h2=>⟨(h.2 i h1 h2).1,(h.2 i h1 h2).2.1,Kd.C_below (h.2 i h1 h2).2.2 hb⟩⟩
structure RowM where
 t:Int
 s:Int
 cs:List CellM
def rowsM:List RowH→List (List CellM)→List RowM
 | h :: H,c :: L=>⟨h.t,h.s,c⟩ :: rowsM H L
 | _,_=>[]
def growsF (l:List ColM) (k:Nat):List RowM→List ColM × Int × Int
 | []=>(l,0,0)
 | r :: t=>if rowB r.t r.s r.cs then (if (growR l r.cs).2=0 then growsF (growR l r.cs).1 (k+1) t else ([],(growR l r.cs).2,k)) else ([],1,k)
def growsR (l:List ColM) (L:List RowM):List ColM × Int × Int:=if colsB l then growsF l 0 L else ([],1,0)
theorem rowsM_len:∀ (H:List RowH) (L:List (List CellM)),H.length=L.length→(rowsM H L).length=H.length
 | [],[],_=>rfl
 | h :: H,c :: L,e=>by rw[rowsM,List.length_cons,rowsM_len H L (by simpa using e),List.length_cons]
theorem rowsM_get:∀ (H:List RowH) (L:List (List CellM)) (i:Nat) (h1:i<H.length) (h2:i<L.length) (h3:i<(rowsM H L).length),(rowsM H L)[i]=⟨H[i].t,H[i].s,L[i]⟩
 | h :: H,c :: L,0,_,_,_=>rfl
 | h :: H,c :: L,i+1,h1,h2,h3=>by
  simp only[rowsM,List.getElem_cons_succ]
  exact rowsM_get H L i (by simpa using h1) (by simpa using h2) _
theorem growR_len (l:List ColM) (cs:List CellM):(growR l cs).1.length≤12:=by
 unfold growR
 split
 ·simp
 ·split
  ·assumption
  ·simp
set_option maxHeartbeats 3200000 in
set_option maxRecDepth 100000 in
theorem row_Grow (A:Option Addr) (c:Nat) (l:List ColM) (B:Option Addr) (d:Nat) (H:List RowH) (L:List (List CellM)) (w:World) (h:kl.C w A l.length l) (hH:kr.C w B H.length H) (hL:RowsOn w H L) :
  Calls Tryz.prog 47 #[.slice A l.length c,.slice B H.length d] w fun e w'=>
   ∃ A' c',e = .returned (.tuple #[.slice A' (growsR l (rowsM H L)).1.length c',.int .i64 (growsR l (rowsM H L)).2.1,.int .i64 (growsR l (rowsM H L)).2.2])∧kl.C w' A' (growsR l (rowsM H L)).1.length (growsR l (rowsM H L)).1∧Below w.heap.size w w':=by
 obtain ⟨r,hr⟩:∃ r,r=growsR l (rowsM H L):=⟨_,rfl⟩
 rw[← hr]
 have HR:=mk0 hr
 clear hr
 have HH:=mk0 hH
 have HL:=mk0 hL
 have hH63:=hH.2.1
 have HCO:=mk0 (row_Cols A c l w h)
 have HC:=mk0 h
 clear h hH hL
 cases hcb:colsB l with
 | false=>
  rw[hcb] at HCO
  have HS:=mk0 (show r=([],1,0) by rw[HR.out,growsR,if_neg (by simp[hcb])])
  clear hcb
  go_enter Tryz.func47,Tryz.ntmps47
  go_wp2_with fail
  (with_reducible refine HCO.out.mono ?_)
  rintro e w1 ⟨rfl,hb1⟩
  have HB1:=mk0 hb1
  clear hb1
  go_wp2
  go_ret3
  exact ⟨_,_,by rw[HS.out];rfl,by rw[HS.out];exact ⟨rfl,by simp,fun h=>by simp at h⟩,HB1.out⟩
 | true=>
  rw[hcb] at HCO
  have h12:l.length≤12:=by unfold colsB at hcb;rw[Bool.and_eq_true] at hcb;exact of_decide_eq_true hcb.1
  have HS:=mk0 (show r=growsF l 0 ((rowsM H L).drop 0) by rw[HR.out,growsR,if_pos hcb];rfl)
  have HCL:=mk0 (fun W=>clone_col A c l W)
  clear hcb HR
  go_enter Tryz.func47,Tryz.ntmps47
  go_wp2_with fail
  (with_reducible refine HCO.out.mono ?_)
  rintro e w1 ⟨rfl,hb1⟩
  have HB1:=mk0 hb1
  clear hb1
  go_wp2_with fail
  (with_reducible refine (HCL.out _ (Kd.C_below HC.out HB1.out) (by omega)).mono ?_)
  rintro e w2 ⟨v2,rfl,hr2,hb2⟩
  have HR2:=mk0 (Kd.R_lower hr2 HB1.out.size)
  have HB2:=mk0 (HB1.out.trans (hb2.mono HB1.out.size))
  have H12:=mk0 h12
  clear hr2 hb2 HB1 HC HCO HCL h12
  go_wp2_with fail
  go_loopw[7,18] (fun v7 v18 wr=>∃ (k:Nat) (l1:List ColM),k≤H.length∧v18 = .int .i64 k∧Aside0 (r=growsF l1 k ((rowsM H L).drop k))∧Aside0 (l1.length≤12)∧Aside0 (kl.R 123 wr w.heap.size (fun _=>True) v7 l1)∧Aside0 (Below w.heap.size w wr)) (fun _ i _=>H.length-(intOf i).toNat)
  case atStart=>exact ⟨0,l,by omega,rfl,HS,H12,HR2,HB2⟩
  case round=>
   clear HR2 HB2 HS H12
   obtain ⟨k,l1,hk,rfl,HE,HLN,HRR,HB⟩:=hrel
   obtain ⟨A1,c1,hv0⟩:=Kd.R_slice HRR.out
   subst hv0
   by_cases hlt:k<H.length
   case neg=>
    have hlt2:¬ (k:Int)<H.length:=by omega
    have HS:=mk0 (show r=(l1,0,0) by rw[HE.out,List.drop_eq_nil_of_le (by rw[rowsM_len _ _ HL.out.1];omega)];rfl)
    have HCP:=mk0 (clip_col A1 c1 l1.length wr (Kd.R_reads' HRR.out).2.1 (by have:=HLN.out;omega))
    go_wp2_with fail
    (with_reducible refine HCP.out.mono ?_)
    rintro e w3 ⟨rfl,rfl⟩
    go_wp2
    go_ret3
    exact ⟨_,_,by rw[HS.out];rfl,by rw[HS.out];exact (Kd.R_reads' HRR.out).2.2,HB.out⟩
   have hlt2:(k:Int)<H.length:=by omega
   have hkL:k<L.length:=by have:=HL.out.1;omega
   have hkM:k<(rowsM H L).length:=by rw[rowsM_len _ _ HL.out.1];exact hlt
   have HE2:=mk0 HE.out
   rw[List.drop_eq_getElem_cons hkM,rowsM_get H L k hlt hkL hkM,growsF] at HE2
   obtain ⟨b,o,rfl,hx⟩:=kr_open (Kd.C_below HH.out HB.out) (by omega)
   obtain ⟨z0,z1,z2⟩:=hx k hlt
   obtain ⟨n1,n2,n3⟩:=HL.out.2 k hlt hkL
   obtain ⟨hd,hhd⟩:∃ hd,hd=H[k]:=⟨_,rfl⟩
   obtain ⟨cs,hcs⟩:∃ cs,cs=L[k]:=⟨_,rfl⟩
   rw[← hhd,← hcs] at HE2 n1 n2 n3
   rw[← hhd] at z0 z1 z2
   obtain ⟨ht,hs,hA,hn,hc⟩:=hd
   dsimp only at HE2 n1 n2 n3 z0 z1 z2
   subst n1
   clear hhd hcs hx hkM HE
   have BA:=below_alloc (Below.refl wr.heap.size wr) (.cells #[.int .i64 ht,.int .i64 hs,.slice hA cs.length hc] 35)
   have hnew:=heap_alloc_new wr (.cells #[.int .i64 ht,.int .i64 hs,.slice hA cs.length hc] 35)
   have HBA:=mk0 (HB.out.trans (BA.mono HB.out.size))
   have HN:=mk0 hnew
   have HRA:=mk0 (Kd.R_alloc HRR.out (.cells #[.int .i64 ht,.int .i64 hs,.slice hA cs.length hc] 35))
   have HCC:=mk0 (show ∀ w',Below w.heap.size w w'→kc.C w' hA cs.length cs from fun w' h=>Kd.C_below n3 h)
   have HRI:=mk0 (row_Right ht hs hA hc cs _ (HCC.out _ HBA.out))
   clear BA hnew n3 HRR HB
   go_wp2_with fail
   (with_reducible refine HRI.out.mono ?_)
   rintro e w2 ⟨rfl,hb⟩
   have hbx:w2.heap[wr.heap.size]?=some (.cells #[.int .i64 ht,.int .i64 hs,.slice hA cs.length hc] 35):=(hb.block _ (by simp)).trans HN.out
   have x0:=cell_of_heap (i:=0) hbx rfl
   have x1:=cell_of_heap (i:=1) hbx rfl
   have x2:=cell_of_heap (i:=2) hbx rfl
   have HB2:=mk0 (HBA.out.trans (hb.mono HBA.out.size))
   have HR2:=mk0 (Kd.R_below HRA.out hb)
   have hcl:=(HCC.out _ HB2.out).2.1
   clear hb hbx HRI HBA HRA HN z0 z1 z2
   cases hrb:rowB ht hs cs with
   | false=>
    have HS:=mk0 (show r=([],1,(k:Int)) by rw[HE2.out,if_neg (by simp[hrb])])
    clear hrb
    go_wp2
    go_ret3
    exact ⟨_,_,by rw[HS.out];rfl,by rw[HS.out];exact ⟨rfl,by simp,fun h=>by simp at h⟩,HB2.out⟩
   | true=>
    have HE3:=mk0 HE2.out
    rw[if_pos hrb] at HE3
    have hc8:cs.length≤8:=by
     unfold rowB headRB at hrb
     simp only[Bool.and_eq_true,decide_eq_true_eq] at hrb
     exact hrb.1.2
    have HGR:=mk0 (row_grow HR2.out HB2.out.size ht hs hA hc cs (fun w' h=>HCC.out _ (HB2.out.trans h)) (by have:=HLN.out;omega))
    have HGL:=mk0 (growR_len l1 cs)
    obtain ⟨gg,hgr⟩:∃ gg,gg=growR l1 cs:=⟨_,rfl⟩
    rw[← hgr] at HGR HGL HE3
    obtain ⟨g1,g2⟩:=gg
    dsimp only at HGR HGL HE3
    clear hrb hgr HE2 HR2 hc8
    go_wp2_with fail
    (with_reducible refine HGR.out.mono ?_)
    rintro e w3 ⟨v3,rfl,hr3,hb3⟩
    obtain ⟨A3,c3,rfl⟩:=Kd.R_slice hr3
    have HR3:=mk0 hr3
    have HB3:=mk0 (HB2.out.trans hb3)
    clear hr3 hb3 x0 x1 x2 HGR
    by_cases hg:g2=0
    ·subst hg
     have HE4:=mk0 HE3.out
     rw[if_pos rfl] at HE4
     go_wp2
     go_roundw
     case rel=>exact ⟨k+1,g1,by omega,by go_num,HE4,HGL,HR3,HB3⟩
     case measure=>simp[intOf];omega
    ·have HS:=mk0 (show r=([],g2,(k:Int)) by rw[HE3.out,if_neg hg])
     have hgb:(g2 != 0)=true:=by simp[hg]
     clear hg
     go_wp2
     go_ret3
     exact ⟨_,_,by rw[HS.out];rfl,by rw[HS.out];exact ⟨rfl,by simp,fun h=>by simp at h⟩,HB3.out⟩
end Go.Proofs.YtpiobnfakmmpdaaGreat.Lib0
namespace Go.Proofs.YtpiobnfakmmpdaaGreat.Lib0
open Go.RowKit Go.Proofs.YtpiobnfakmmpdaaGreatW.PrintWords Go.ChangeMaps
def cellOf:List CellM→ByteArray→CellM
 | [],_=>⟨⟨#[]⟩,0,0,⟨#[]⟩⟩
 | c :: t,s=>if c.col=s then c else cellOf t s
set_option maxHeartbeats 3200000 in
set_option maxRecDepth 100000 in
theorem row_Cell (t s:Int) (A:Option Addr) (cap:Nat) (l:List CellM) (col:ByteArray) (w:World) (h:kc.C w A l.length l) :
  Calls Tryz.prog 107 #[.agg #[.int .i64 t,.int .i64 s,.slice A l.length cap],.string col] w fun e w'=>e = .returned (.agg (cellOf l col).cells.toArray)∧Below w.heap.size w w':=by
 obtain ⟨r,hr⟩:∃ r,r=cellOf l col:=⟨_,rfl⟩
 rw[← hr]
 have HR:=mk0 (show r=cellOf (l.drop 0) col from hr)
 clear hr
 have HC:=mk0 h
 have hl63:=h.2.1
 clear h
 have B0:=below_alloc (Below.refl w.heap.size w) (.cells #[.int .i64 t,.int .i64 s,.slice A l.length cap] 35)
 have B1:=below_alloc (Below.refl (w.alloc (.cells #[.int .i64 t,.int .i64 s,.slice A l.length cap] 35)).heap.size (w.alloc (.cells #[.int .i64 t,.int .i64 s,.slice A l.length cap] 35))) (.cells #[.string ⟨#[]⟩,.int .i64 0,.int .i64 0,.string ⟨#[]⟩] 37)
 have HB:=mk0 (B0.trans (B1.mono (by simp)))
 have HN:=mk0 (show ((w.alloc (.cells #[.int .i64 t,.int .i64 s,.slice A l.length cap] 35)).alloc (.cells #[.string ⟨#[]⟩,.int .i64 0,.int .i64 0,.string ⟨#[]⟩] 37)).heap[w.heap.size+1]?=some (.cells #[.string ⟨#[]⟩,.int .i64 0,.int .i64 0,.string ⟨#[]⟩] 37) by
  have:=heap_alloc_new (w.alloc (.cells #[.int .i64 t,.int .i64 s,.slice A l.length cap] 35)) (.cells #[.string ⟨#[]⟩,.int .i64 0,.int .i64 0,.string ⟨#[]⟩] 37)
  rwa [show (w.alloc (.cells #[.int .i64 t,.int .i64 s,.slice A l.length cap] 35)).heap.size=w.heap.size+1 by simp] at this)
 clear B0 B1
 go_enter Tryz.func107,Tryz.ntmps107
 go_wp2_with fail
 go_loopw[10] (fun v3 wr=>∃ (k:Nat),k≤l.length∧v3 = .int .i64 k∧Aside0 (r=cellOf (l.drop k) col)∧Aside0 (Below w.heap.size w wr)∧Aside0 (wr.heap[w.heap.size+1]?=some (.cells #[.string ⟨#[]⟩,.int .i64 0,.int .i64 0,.string ⟨#[]⟩] 37))) (fun i _=>l.length-(intOf i).toNat)
 case atStart=>exact ⟨0,by omega,rfl,HR,HB,HN⟩
 case round=>
  clear HR HB HN
  obtain ⟨k,hk,rfl,HE,HB,HN⟩:=hrel
  by_cases hlt:k<l.length
  ·have hlt2:(k:Int)<l.length:=by omega
   obtain ⟨b,o,rfl,hx⟩:=kc_open (Kd.C_below HC.out HB.out) (by omega)
   obtain ⟨z0,z1,z2,z3⟩:=hx k hlt
   have HE2:=mk0 (show r=if l[k].col=col then l[k] else cellOf (l.drop (k+1)) col by rw[HE.out,List.drop_eq_getElem_cons hlt,cellOf])
   obtain ⟨c,hc⟩:∃ c,c=l[k]:=⟨_,rfl⟩
   rw[← hc] at z0 z1 z2 z3 HE2
   clear hc hx HE
   have hws:w.heap.size+1<wr.heap.size:=(Array.getElem?_eq_some_iff.1 HN.out).1
   have BA:=below_alloc (Below.refl wr.heap.size wr) (.cells #[.string c.col,.int .i64 c.kind,.int .i64 c.n,.string c.s] 37)
   have HB2:=mk0 (HB.out.trans (BA.mono HB.out.size))
   have hn2:=(BA.block _ hws).trans HN.out
   have HN2:=mk0 hn2
   by_cases hcc:c.col=col
   ·have hb:(c.col.toList==col.toList)=true:=by rw[hcc];simp
    have HS:=mk0 (show r=c by rw[HE2.out,if_pos hcc])
    have hn0:=HN.out
    have e0:=frozen_of_heap (i:=0) hn0
    have e1:=frozen_of_heap (i:=1) hn0
    have e2:=frozen_of_heap (i:=2) hn0
    have e3:=frozen_of_heap (i:=3) hn0
    have c0:wr.cell? ⟨w.heap.size+1,0,none⟩=some (.string ⟨#[]⟩):=cell_of_heap (i:=0) hn0 rfl
    have c1:wr.cell? ⟨w.heap.size+1,1,none⟩=some (.int .i64 0):=cell_of_heap (i:=1) hn0 rfl
    have c2:wr.cell? ⟨w.heap.size+1,2,none⟩=some (.int .i64 0):=cell_of_heap (i:=2) hn0 rfl
    have c3:wr.cell? ⟨w.heap.size+1,3,none⟩=some (.string ⟨#[]⟩):=cell_of_heap (i:=3) hn0 rfl
    have hne:¬ (w.heap.size+1=wr.heap.size):=by omega
    have s4:=set4 hn0 (.string c.col) (.int .i64 c.kind) (.int .i64 c.n) (.string c.s)
    have sA:=((below_alloc (Below.refl _ ((((wr.setCell ⟨w.heap.size+1,0,none⟩ (.string c.col)).setCell ⟨w.heap.size+1,1,none⟩ (.int .i64 c.kind)).setCell ⟨w.heap.size+1,2,none⟩ (.int .i64 c.n)).setCell ⟨w.heap.size+1,3,none⟩ (.string c.s))) (.cells #[.string c.col,.int .i64 c.kind,.int .i64 c.n,.string c.s] 37)).block (w.heap.size+1) (Array.getElem?_eq_some_iff.1 s4).1).trans s4
    have g0:=cell_of_heap (i:=0) sA rfl
    have g1:=cell_of_heap (i:=1) sA rfl
    have g2:=cell_of_heap (i:=2) sA rfl
    have g3:=cell_of_heap (i:=3) sA rfl
    have G:=mk0 (And.intro g0 (And.intro g1 (And.intro g2 g3)))
    have HF:=mk0 (below_alloc (HB.out.trans (((((Below.refl w.heap.size _).setCell (p:=⟨w.heap.size+1,0,none⟩) (by simp) (.string c.col)).setCell (p:=⟨w.heap.size+1,1,none⟩) (by simp) (.int .i64 c.kind)).setCell (p:=⟨w.heap.size+1,2,none⟩) (by simp) (.int .i64 c.n)).setCell (p:=⟨w.heap.size+1,3,none⟩) (by simp) (.string c.s))) (.cells #[.string c.col,.int .i64 c.kind,.int .i64 c.n,.string c.s] 37))
    clear hn0 hn2 hcc HE2 s4 sA g0 g1 g2 g3 BA
    go_wp2
    generalize ((((wr.setCell ⟨w.heap.size+1,0,none⟩ (.string c.col)).setCell ⟨w.heap.size+1,1,none⟩ (.int .i64 c.kind)).setCell ⟨w.heap.size+1,2,none⟩ (.int .i64 c.n)).setCell ⟨w.heap.size+1,3,none⟩ (.string c.s)).alloc (.cells #[.string c.col,.int .i64 c.kind,.int .i64 c.n,.string c.s] 37)=Wf at *
    obtain ⟨g0,g1,g2,g3⟩:=G.out
    refine bodyPost_ret (v:=.agg #[.string c.col,.int .i64 c.kind,.int .i64 c.n,.string c.s]) (by simp[results,Tryz.results107,go_sem,g0,g1,g2,g3]) rfl ?_
    exact ⟨by rw[HS.out];rfl,HF.out⟩
   ·have hb:(c.col.toList==col.toList)=false:=by rw[beq_eq_false_iff_ne];exact fun h=>hcc (toList_inj h)
    have HE3:=mk0 (show r=cellOf (l.drop (k+1)) col by rw[HE2.out,if_neg hcc])
    clear hcc HE2 hn2 BA
    go_wp2
    go_roundw
    case rel=>exact ⟨k+1,by omega,by go_num,HE3,HB2,HN2⟩
    case measure=>simp[intOf];omega
  ·have hlt2:¬ (k:Int)<l.length:=by omega
   have HS:=mk0 (show r=⟨⟨#[]⟩,0,0,⟨#[]⟩⟩ by rw[HE.out,List.drop_eq_nil_of_le (by omega)];rfl)
   have hn2:=HN.out
   have e0:=frozen_of_heap (i:=0) hn2
   have e1:=frozen_of_heap (i:=1) hn2
   have e2:=frozen_of_heap (i:=2) hn2
   have e3:=frozen_of_heap (i:=3) hn2
   have c0:=cell_of_heap (i:=0) hn2 rfl
   have c1:=cell_of_heap (i:=1) hn2 rfl
   have c2:=cell_of_heap (i:=2) hn2 rfl
   have c3:=cell_of_heap (i:=3) hn2 rfl
   have s4:=set4 hn2 (.string ⟨#[]⟩) (.int .i64 0) (.int .i64 0) (.string ⟨#[]⟩)
   have g0:=cell_of_heap (i:=0) s4 rfl
   have g1:=cell_of_heap (i:=1) s4 rfl
   have g2:=cell_of_heap (i:=2) s4 rfl
   have g3:=cell_of_heap (i:=3) s4 rfl
   have G:=mk0 (And.intro g0 (And.intro g1 (And.intro g2 g3)))
   have HF:=mk0 (HB.out.trans (((((Below.refl w.heap.size _).setCell (p:=⟨w.heap.size+1,0,none⟩) (by simp) (.string ⟨#[]⟩)).setCell (p:=⟨w.heap.size+1,1,none⟩) (by simp) (.int .i64 0)).setCell (p:=⟨w.heap.size+1,2,none⟩) (by simp) (.int .i64 0)).setCell (p:=⟨w.heap.size+1,3,none⟩) (by simp) (.string ⟨#[]⟩)))
   clear hn2 s4 g0 g1 g2 g3
   go_wp2
   generalize ((((wr.setCell ⟨w.heap.size+1,0,none⟩ (.string ⟨#[]⟩)).setCell ⟨w.heap.size+1,1,none⟩ (.int .i64 0)).setCell ⟨w.heap.size+1,2,none⟩ (.int .i64 0)).setCell ⟨w.heap.size+1,3,none⟩ (.string ⟨#[]⟩))=Wf at *
   obtain ⟨g0,g1,g2,g3⟩:=G.out
   refine bodyPost_ret (v:=.agg #[.string ⟨#[]⟩,.int .i64 0,.int .i64 0,.string ⟨#[]⟩]) (by simp[results,Tryz.results107,go_sem,g0,g1,g2,g3]) rfl ?_
   exact ⟨by rw[HS.out];rfl,HF.out⟩
end Go.Proofs.YtpiobnfakmmpdaaGreat.Lib0
namespace Go.Proofs.YtpiobnfakmmpdaaGreat.Lib0
open Go.RowKit Go.Proofs.YtpiobnfakmmpdaaGreatW.PrintWords Go.ChangeMaps
def bareC (c:CellM):CellM:=⟨⟨#[]⟩,c.kind,c.n,c.s⟩
def columnB (L:List RowM) (s:ByteArray):List CellM:=L.map fun r=>bareC (cellOf r.cs s)
set_option maxHeartbeats 3200000 in
set_option maxRecDepth 100000 in
theorem group_column (B:Option Addr) (d:Nat) (H:List RowH) (L:List (List CellM)) (name:ByteArray) (w:World) (hH:kr.C w B H.length H) (hL:RowsOn w H L) (hl:H.length≤1099511627776) :
  Calls Tryz.prog 56 #[.slice B H.length d,.string name] w fun e w'=>
   ∃ A c,e = .returned (.slice A H.length c)∧kc.C w' A H.length (columnB (rowsM H L) name)∧Below w.heap.size w w':=by
 have HH:=mk0 hH
 have HL:=mk0 hL
 have hH63:=hH.2.1
 have HLL:=mk0 hl
 have HLM:=mk0 (rowsM_len H L hL.1)
 clear hH hL
 go_enter Tryz.func56,Tryz.ntmps56
 go_wp2_with fail
 go_loopw[5,11] (fun v5 v11 wr=>∃ (k:Nat) (l1:List CellM),k≤H.length∧v11 = .int .i64 k∧Aside0 (l1=((rowsM H L).take k).map fun r=>bareC (cellOf r.cs name))∧Aside0 (kc.R 37 wr w.heap.size (fun _=>True) v5 l1)∧Aside0 (Below w.heap.size w wr)) (fun _ i _=>H.length-(intOf i).toNat)
 case atStart=>exact ⟨0,[],by omega,rfl,⟨rfl⟩,⟨Kd.R_nil _ _ _ _ _⟩,⟨Below.refl _ _⟩⟩
 case round=>
  obtain ⟨k,l1,hk,rfl,HE,HRR,HB⟩:=hrel
  have HL1:=mk0 (show l1.length=k by rw[HE.out,List.length_map,List.length_take,HLM.out];omega)
  obtain ⟨A1,c1,hv0⟩:=Kd.R_slice HRR.out
  subst hv0
  by_cases hlt:k<H.length
  case neg=>
   have hlt2:¬ (k:Int)<H.length:=by omega
   have hkh:k=H.length:=by omega
   have HS:=mk0 (show l1=columnB (rowsM H L) name by rw[HE.out,List.take_of_length_le (by rw[HLM.out];omega)];rfl)
   have HL2:=mk0 (show l1.length=H.length by have:=HL1.out;omega)
   clear hkh
   go_wp2
   go_ret
   exact ⟨A1,⟨c1,by rw[← HL2.out];rfl⟩,by rw[← HS.out,← HL2.out];exact (Kd.R_reads' HRR.out).2.2,HB.out⟩
  have hlt2:(k:Int)<H.length:=by omega
  have hkL:k<L.length:=by have:=HL.out.1;omega
  have hkM:k<(rowsM H L).length:=by rw[HLM.out];exact hlt
  have HE2:=mk0 (show l1++[bareC (cellOf L[k] name)]=((rowsM H L).take (k+1)).map fun r=>bareC (cellOf r.cs name) by
   rw[List.take_succ_eq_append_getElem hkM,List.map_append,← HE.out,rowsM_get H L k hlt hkL hkM];rfl)
  obtain ⟨b,o,rfl,hx⟩:=kr_open (Kd.C_below HH.out HB.out) (by omega)
  obtain ⟨z0,z1,z2⟩:=hx k hlt
  obtain ⟨n1,n2,n3⟩:=HL.out.2 k hlt hkL
  obtain ⟨hd,hhd⟩:∃ hd,hd=H[k]:=⟨_,rfl⟩
  obtain ⟨cs,hcs⟩:∃ cs,cs=L[k]:=⟨_,rfl⟩
  rw[← hhd,← hcs] at n1 n2 n3
  rw[← hhd] at z0 z1 z2
  rw[← hcs] at HE2
  obtain ⟨ht,hs,hA,hn,hc⟩:=hd
  dsimp only at n1 n2 n3 z0 z1 z2
  subst n1
  clear hhd hcs hx hkM HE
  have BA:=below_alloc (Below.refl wr.heap.size wr) (.cells #[.int .i64 ht,.int .i64 hs,.slice hA cs.length hc] 35)
  have HBA:=mk0 (HB.out.trans (BA.mono HB.out.size))
  have HRA:=mk0 (Kd.R_alloc HRR.out (.cells #[.int .i64 ht,.int .i64 hs,.slice hA cs.length hc] 35))
  have HRC:=mk0 (row_Cell ht hs hA hc cs name _ (Kd.C_below n3 HBA.out))
  obtain ⟨y,hy⟩:∃ y,y=cellOf cs name:=⟨_,rfl⟩
  rw[← hy] at HE2 HRC
  unfold CellM.cells at HRC
  clear BA n3 HRR HB hy
  go_wp2_with fail
  (with_reducible refine HRC.out.mono ?_)
  rintro e w2 ⟨rfl,hb⟩
  have HB2:=mk0 (HBA.out.trans (hb.mono HBA.out.size))
  have HR2:=mk0 (Kd.R_below HRA.out hb)
  clear hb HRC HBA HRA z0 z1 z2
  have HB3:=mk0 (below_alloc HB2.out (.cells #[.string ⟨#[]⟩,.int .i64 y.kind,.int .i64 y.n,.string y.s] 37))
  have HR3:=mk0 (Kd.R_alloc HR2.out (.cells #[.string ⟨#[]⟩,.int .i64 y.kind,.int .i64 y.n,.string y.s] 37))
  have H1:=mk0 (show l1.length≤1099511627776 by have:=HLL.out;have:=HL1.out;omega)
  go_wp2_with (at_builtin;go_loud (refine kc_append (W:=w2.alloc (.cells #[.string ⟨#[]⟩,.int .i64 y.kind,.int .i64 y.n,.string y.s] 37)) (.tmp 19) (.tmp 21) 33 37 (.slice A1 l1.length c1) l1 (bareC y) w.heap.size rfl rfl Tryz.underlying33 info_cell rfl (by show Value.slice (some ⟨_,0,none⟩) 1 1=_;simp) HR3.out HB3.out.size H1.out ?_))
  intro v1 w3 hr3 hb3 _ _
  obtain ⟨A3,c3,rfl⟩:=Kd.R_slice hr3
  have HR4:=mk0 hr3
  have HB4:=mk0 (HB3.out.trans hb3)
  clear hr3 hb3
  generalize l1++[bareC y]=l3 at *
  go_wp2
  go_roundw
  case rel=>exact ⟨k+1,l3,by omega,by go_num,HE2,HR4,HB4⟩
  case measure=>simp[intOf];omega
end Go.Proofs.YtpiobnfakmmpdaaGreat.Lib0

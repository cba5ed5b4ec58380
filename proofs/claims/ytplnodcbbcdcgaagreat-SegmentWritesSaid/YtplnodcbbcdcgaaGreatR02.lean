import Derived.Test.YtplnodcbbcdcgaaGreatR01
set_option linter.unusedVariables false
set_option linter.unusedSimpArgs false
namespace Go.Proofs.YtplnodcbbcdcgaaGreat.Lib0
open Go.RowKit Go.Proofs.YtplnodcbbcdcgaaGreatW.PrintWords Go.ChangeMaps
def cut20 (s:ByteArray):ByteArray:=if 20<s.size then s.extract 0 20 else s
def cut41 (s:ByteArray):ByteArray:=if 41<s.size then s.extract 0 41 else s
def shortC (c:CellM):CellM:=⟨cut20 c.col,c.kind,c.n,cut41 c.s⟩
def shortCs (l:List CellM):List CellM:=(l.take 10).map shortC
def shortM (M:List RowM) (n:Nat):List RowM:=(M.take n).map fun r=>⟨r.t,r.s,shortCs r.cs⟩
section
variable {α:Type} {d:Kd α} {f:α→List Value} {k:Nat}
variable {P:Program} {ops:Array Oper} {rest:List Oper} {o:Oper} {a:Act} {Q:Exit→Act→World→Prop}
theorem Flat.append_fresh (F:Flat d f k) {W:World} (base g:Nat) (s x:Operand) (t e:TypeId) (z:Value) (bytes c:Nat) (A:Option Addr) (ys:List α)
  (hgd:o.guard=none) (ho:o.op = .call { callee:=.builtin .append,args:=#[s,x],argTypes:=#[t,t] }) (ht:P.underlying t=some (.slice e))
  (hinfo:(P.info? e).map (fun i=>(i.zero,i.size,i.bytes))=some (some z,k,bytes)) (hzs:z.cells.size=k)
  (hs:a.eval s = .slice (some ⟨g,0,none⟩) 0 0) (hx:a.eval x = .slice A ys.length c)
  (hg:W.heap[g]?=some (.cells #[] e (0,0))) (hbg:base≤g) (HR:d.C W A ys.length ys) (hl:ys.length*bytes≤140737488355328)
  (h:∀ A1 c1 w1,d.R e w1 base (fun _=>True) (.slice A1 ys.length c1) ys→Below W.heap.size W w1→wpList P ops Q rest (a.put o.dst (.slice A1 ys.length c1)) w1):wpList P ops Q (o :: rest) a W:=by
 rcases A with _ | ad
 ·have h0:ys.length=0:=by
   rcases Nat.eq_zero_or_pos ys.length with h | h
   ·exact h
   ·obtain ⟨ad,e,_⟩:=HR.2.2 h
    cases e
  have hy:ys = []:=List.eq_nil_of_length_eq_zero h0
  subst hy
  obtain ⟨i,hi,_⟩:=Option.map_eq_some_iff.1 hinfo
  refine Lib.wpList_append_run W hgd s x t t ho _ _ hs hx _ _ (run_append_nothing W t t o.type e i ht hi (some ⟨g,0,none⟩) 0 0 (Nat.le_refl _) _ (Src.ofNil W ht c)) ?_
  exact h _ _ _ (F.R_new (xs:=[]) hbg hg (Nat.le_refl _) (by unfold maxLen;omega) (by simp) (by simp[flatF])) (Below.refl _ _)
 ·refine F.append_new base g s x t e z bytes c ad ys hgd ho ht hinfo hzs hs hx hg hbg HR hl ?_
  intro v1 w1 hr hb
  obtain ⟨A1,c1,rfl⟩:=Kd.R_slice hr
  exact h A1 c1 w1 hr hb
theorem Flat.R_take (F:Flat d f k) {w:World} {base e n c:Nat} {A:Option Addr} {xs:List α} (h:d.R e w base (fun _=>True) (.slice A n c) xs) (m:Nat) (hm:m≤n) (hp:0<n):d.R e w base (fun _=>True) (.slice A m c) (xs.take m):=by
 obtain ⟨hn,hc,_⟩:=Kd.R_reads' h
 subst hn
 obtain ⟨g,cap,cur,hv,hb,hh,hnc,hcm,hcs,ht⟩:=F.R_open h hp
 injection hv with h1 _ h3
 subst h1 h3
 have hl:(xs.take m).length=m:=by rw[List.length_take];omega
 have:=F.R_new (xs:=xs.take m) (cap:=c) hb hh (by rw[hl];omega) hcm hcs (by
  rw[hl]
  have e1:flatF f (xs.take m)=(flatF f xs).take (m*k):=by
   have e2:flatF f xs=flatF f (xs.take m)++flatF f (xs.drop m):=by rw[← flatF_append,List.take_append_drop]
   rw[e2,List.take_left' (by rw[F.flat_len,hl])]
  rw[e1,← ht,List.take_take,Nat.min_eq_left (Nat.mul_le_mul_right _ hm)])
 rwa [hl] at this
end
theorem short_next (M:List RowM) (n k:Nat) (h:k<n) (hk:k<M.length):(shortM M n).take (k+1)=(shortM M n).take k++[⟨M[k].t,M[k].s,shortCs M[k].cs⟩]:=by
 have hl:k<(shortM M n).length:=by simp[shortM];omega
 rw[take_next _ k hl]
 congr 2
 simp[shortM]
def shortK (l:List CellM) (k:Nat):List CellM:=(l.take k).map shortC++l.drop k
theorem shortK_len (l:List CellM) (k:Nat):(shortK l k).length=l.length:=by
 unfold shortK
 rw[List.length_append,List.length_map,List.length_take,List.length_drop]
 omega
theorem shortK_get (l:List CellM) (k:Nat) (h:k<l.length) (h2:k<(shortK l k).length):(shortK l k)[k]=l[k]:=by
 have h3:(shortK l k)[k]?=l[k]?:=by
  have e:((l.take k).map shortC).length=k:=by rw[List.length_map,List.length_take];omega
  unfold shortK
  rw[List.getElem?_append_right (by omega),e,List.getElem?_drop]
  congr 1
  omega
 rw[List.getElem?_eq_getElem h2,List.getElem?_eq_getElem h] at h3
 injection h3
theorem shortK_next (l:List CellM) (k:Nat) (h:k<l.length):shortK l (k+1)=(shortK l k).set k (shortC l[k]):=by
 unfold shortK
 have e:((l.take k).map shortC).length=k:=by rw[List.length_map,List.length_take];omega
 rw[List.set_append_right _ _ (by omega),e,Nat.sub_self,List.drop_eq_getElem_cons h,List.set_cons_zero,take_next l k h,List.map_append,List.append_assoc]
 rfl
set_option maxHeartbeats 6400000 in
set_option maxRecDepth 100000 in
theorem keep_Short (B:Option Addr) (d:Nat) (H:List RowH) (L:List (List CellM)) (most:Nat) (w:World) (hH:kr.C w B H.length H) (hL:RowsOn w H L) (hl:H.length≤9223372036854775807) (hm:most≤1000) (hc:∀ c ∈ L,c.length*48≤140737488355328) :
  Calls Tryz.prog 14 #[.slice B H.length d,.int .i64 most] w (RisS w (shortM (rowsM H L) (min H.length most))):=by
 have HH:=mk0 hH
 have HL:=mk0 hL
 have HC:=mk0 hc
 have hli:(H.length:Int)≤9223372036854775807:=by omega
 have hmi:(most:Int)≤1000:=by omega
 have HB0:=mk0 (Below.refl w.heap.size w)
 obtain ⟨n,hn⟩:∃ n,n=min H.length most:=⟨_,rfl⟩
 rw[← hn]
 have HN:=mk0 hn
 clear hH hL hc hn
 go_enter Tryz.func14,Tryz.ntmps14
 go_wp2_with fail
 go_loopw[5,6] (fun v5 v6 wr=>∃ (k:Nat) (H':List RowH) (L':List (List CellM)),k≤n∧v6 = .int .i64 k∧Aside0 (H'.length=k)∧Aside0 (rowsM H' L'=(shortM (rowsM H L) n).take k)∧Aside0 (kr.R 37 wr w.heap.size (fun _=>True) v5 H')∧Aside0 (RowsR wr w.heap.size H' L')∧Aside0 (Below w.heap.size w wr)) (fun _ i _=>n-(intOf i).toNat)
 case atStart=>exact ⟨0,[],[],by omega,rfl,⟨rfl⟩,⟨by simp[rowsM]⟩,⟨Kd.R_nil _ _ _ _ _⟩,⟨⟨rfl,fun i h1=>by simp at h1⟩⟩,HB0⟩
 case round=>
  clear HB0
  obtain ⟨k,H',L',hk,rfl,HHL,HM,HR,HRR,HB⟩:=hrel
  obtain ⟨A3,c3,hv3⟩:=Kd.R_slice HR.out
  subst hv3
  by_cases hkn:k<n
  case neg=>
   have hkn2:k=n:=by omega
   subst hkn2
   rw[List.take_of_length_le (by simp[shortM];omega)] at HM
   have HG:Aside0 (¬ k<H.length∨¬ k<most):=⟨by have:=HN.out;omega⟩
   by_cases h1:k<H.length
   ·have h2:¬ k<most:=by have:=HG.out;omega
    have d1:decide ((k:Int)<H.length)=true:=decide_eq_true (by omega)
    have d2:decide ((k:Int)<most)=false:=decide_eq_false (by omega)
    go_wp2
    go_ret
    exact ⟨H',L',A3,c3,rfl,HR.out,HRR.out,HM.out,HB.out⟩
   ·have d1:decide ((k:Int)<H.length)=false:=decide_eq_false (by omega)
    go_wp2
    go_ret
    exact ⟨H',L',A3,c3,rfl,HR.out,HRR.out,HM.out,HB.out⟩
  have hk1:k<H.length:=by have:=HN.out;omega
  have hk2:k<most:=by have:=HN.out;omega
  have hk1i:(k:Int)<H.length:=by omega
  have hk2i:(k:Int)<most:=by omega
  have hkl:k<L.length:=by rw[← HL.out.1];exact hk1
  have d1:decide ((k:Int)<H.length)=true:=decide_eq_true hk1i
  have d2:decide ((k:Int)<most)=true:=decide_eq_true hk2i
  obtain ⟨b,o,rfl,hx⟩:=kr_open (Kd.C_below HH.out HB.out) (by omega)
  obtain ⟨x0,x1,x2⟩:=hx k hk1
  obtain ⟨q1,q2,q3⟩:=(HL.out.below HB.out).2 k hk1 hkl
  have hcc:=HC.out _ (List.getElem_mem hkl)
  have HMN:=mk0 (short_next (rowsM H L) n k hkn (rowsM_lt H L k hk1 hkl))
  rw[rowsM_get H L k hk1 hkl] at HMN
  generalize H[k]=x at *
  generalize L[k]=cx at *
  obtain ⟨xt,xs,xA,xn,xc⟩:=x
  dsimp only at *
  subst q1
  clear hx
  have hxp:=World.block_lt_of_cell? wr _ x0
  obtain ⟨W1,hW1⟩:∃ W1,W1=wr.alloc (.cells #[.int .i64 xt,.int .i64 xs,.slice xA cx.length xc] 37):=⟨_,rfl⟩
  have BW1:Below wr.heap.size wr W1:=by rw[hW1];exact below_alloc (Below.refl _ _) _
  have hn1:=heap_alloc_new wr (.cells #[.int .i64 xt,.int .i64 xs,.slice xA cx.length xc] 37)
  rw[← hW1] at hn1
  have hs1:W1.heap.size=wr.heap.size+1:=by rw[hW1];simp
  obtain ⟨W2,hW2⟩:∃ W2,W2=W1.alloc (.cells #[] 39):=⟨_,rfl⟩
  have BW2:Below wr.heap.size wr W2:=by rw[hW2];exact BW1.trans ((below_alloc (Below.refl _ _) _).mono BW1.size)
  have hn2:=heap_alloc_new W1 (.cells #[] 39)
  rw[← hW2] at hn2
  have hp2:W2.heap[wr.heap.size]?=some (.cells #[.int .i64 xt,.int .i64 xs,.slice xA cx.length xc] 37):=by
   rw[hW2]
   exact (heap_alloc_old W1 _ (r:=wr.heap.size) (by omega)).trans hn1
  rw[hs1] at hn2
  have HC2:=mk0 (Kd.C_below q3 BW2)
  have HW2:=mk0 (And.intro BW2 (And.intro hn2 hp2))
  rw[hW2,hW1] at HW2 HC2
  have hc48:cx.length*48≤140737488355328:=by omega
  clear hW1 hW2 hn2 hp2 BW2 hn1 BW1 q3 hs1
  go_wp2_with (at_builtin;go_loud (refine kc_flat.append_fresh (W:=(wr.alloc (.cells #[.int .i64 xt,.int .i64 xs,.slice xA cx.length xc] 37)).alloc (.cells #[] 39)) wr.heap.size (wr.heap.size+1) (.tmp 25) (.tmp 27) 35 39 (.agg #[.string ⟨#[]⟩,.int .i64 0,.int .i64 0,.string ⟨#[]⟩]) 48 xc xA cx rfl rfl Tryz.underlying35 info_cell rfl rfl rfl HW2.out.2.1 (by omega) HC2.out ?c2 ?_))
  intro A1 c1 w1 hr1 hb1
  have HR1:=mk0 hr1
  have HP1:=mk0 ((hb1.block wr.heap.size (by omega)).trans HW2.out.2.2)
  have HB1:=mk0 (HW2.out.1.trans (hb1.mono (by omega)))
  have hn1:=(Kd.R_reads' hr1).2.1
  clear hr1 hb1 HW2 HC2
  generalize wr=W0 at *
  by_cases h10:10<cx.length
  ·have h10i:(10:Int)<cx.length:=by omega
   have h10d:decide ((10:Int)<cx.length)=true:=decide_eq_true h10i
   have h10c:(10:Int)≤c1:=by omega
   have HLM:=mk0 (show (cx.take 10).length=10 by rw[List.length_take];omega)
   have HFIN:=mk0 (show (cx.take 10).map shortC=shortCs cx from rfl)
   have HRS:=mk0 (kc_flat.R_take HR1.out 10 (by omega) (by omega))
   generalize cx.take 10=l at *
   clear HR1
   go_wp2_with fail
   go_loopw[9] (fun v9 wr=>∃ j:Nat,j≤10∧v9 = .int .i64 j∧Aside0 (kc.R 39 wr W0.heap.size (fun _=>True) (.slice A1 10 c1) (shortK l j))∧Aside0 (Below W0.heap.size W0 wr)∧Aside0 (wr.heap[W0.heap.size]?=some (.cells #[.int .i64 xt,.int .i64 xs,.slice xA cx.length xc] 37 (0,0)))) (fun i _=>10-(intOf i).toNat)
   case atStart=>exact ⟨0,by omega,rfl,⟨by simpa [shortK] using HRS.out⟩,HB1,HP1⟩
   case round=>
    clear HRS HB1 HP1
    obtain ⟨j,hj,rfl,HRJ,HBJ,HPJ⟩:=hrel
    have hne:=R_not_at HRJ.out HPJ.out (by decide)
    by_cases hjm:j<10
    case neg=>
     have hjm2:j=10:=by omega
     have hjmi:¬ (j:Int)<10:=by omega
     have HRF:=mk0 (show kc.R 39 wr W0.heap.size (fun _=>True) (.slice A1 10 c1) (shortCs cx) by
      have h:=HRJ.out
      rw[hjm2] at h
      unfold shortK at h
      rw[List.take_of_length_le (by rw[HLM.out];exact Nat.le_refl _),List.drop_eq_nil_of_le (by rw[HLM.out];exact Nat.le_refl _),List.append_nil,HFIN.out] at h
      exact h)
     have hp0:=cell_of_heap (i:=0) HPJ.out rfl
     have hp1:=cell_of_heap (i:=1) HPJ.out rfl
     have hp2:=cell_of_heap (i:=2) HPJ.out rfl
     have hf2:=frozen_of_heap (i:=2) HPJ.out
     clear hjm2 hne
     have HRF2:=mk0 (R_set_ne rfl HRF.out HPJ.out (by decide) 2 (.slice A1 10 c1))
     have HBF:=mk0 (HBJ.out.setCell (p:=⟨W0.heap.size,2,none⟩) (Nat.le_refl _) (.slice A1 10 c1))
     have HX0:=mk0 (show Value.slice (some ⟨wr.heap.size,0,none⟩) 1 1 = .slice (some ⟨(wr.setCell ⟨W0.heap.size,2,none⟩ (.slice A1 10 c1)).heap.size,0,none⟩) 1 1 by simp)
     have hsl:=(Kd.R_reads' HRF.out).1
     have HSL:=mk0 hsl
     have HRW:=mk0 (Kd.R_below HR.out HBF.out)
     have HRRW:=mk0 (RowsR.below HRR.out HBF.out)
     have HRC:=mk0 (Kd.R_lower HRF2.out HB.out.size)
     have HSW:=mk0 (Nat.le_trans HB.out.size HBF.out.size)
     have HLW:=mk0 (show H'.length≤1099511627776 by have:=HHL.out;omega)
     have HCL:=mk0 (show (shortCs cx).length≤c1 from HSL.out ▸ (Kd.R_reads' HRF.out).2.1)
     clear hsl HRF HRF2 HRJ HPJ
     go_wp2_with (at_builtin;go_loud (refine kr_append (W:=wr.setCell ⟨W0.heap.size,2,none⟩ (.slice A1 10 c1)) (.tmp 76) (.tmp 78) 22 37 (.slice A3 H'.length c3) H' ⟨xt,xs,A1,10,c1⟩ w.heap.size rfl rfl Tryz.underlying22 info_row rfl HX0.out HRW.out HSW.out HLW.out ?_))
     intro v1 w7 hr7 hb7 hg7 hat7
     have HRR7:=mk0 ((HRRW.out.grown HRW.out (by decide) hg7).snoc ⟨xt,xs,A1,10,c1⟩ (shortCs cx) HSL.out HCL.out (R_grown_ne rfl HRC.out HRW.out (by decide) hg7))
     have HB7:=mk0 (HB.out.trans ((HBF.out.mono HB.out.size).trans hb7))
     have HM7:=mk0 (show rowsM (H'++[(⟨xt,xs,A1,10,c1⟩:RowH)]) (L'++[shortCs cx])=(shortM (rowsM H L) n).take (k+1) by
      rw[rowsM_snoc _ _ _ _ HRR.out.1,HM.out,HMN.out])
     have HH7:=mk0 (show (H'++[(⟨xt,xs,A1,10,c1⟩:RowH)]).length=k+1 by rw[List.length_append,HHL.out];rfl)
     have HR7:=mk0 hr7
     generalize H'++[(⟨xt,xs,A1,10,c1⟩:RowH)]=H2 at *
     clear hr7 hb7 hg7 hat7 HRRW HRW HX0 HM HR HRR HMN HHL HRC
     go_wp2
     go_roundw
     case rel=>exact ⟨k+1,H2,L'++[shortCs cx],by omega,by go_num,HH7,HM7,HR7,HRR7,HB7⟩
     case measure=>simp[intOf];omega
    have hjmi:(j:Int)<10:=by omega
    have hsk:=shortK_len l j
    have hr:=HRJ.out
    have hrl:kc.R 39 wr W0.heap.size (fun _=>True) (.slice A1 (shortK l j).length c1) (shortK l j):=by rw[hsk,HLM.out];exact hr
    obtain ⟨g,cap,cur,hv,hbg,hh,hnc,hcm,hcs,htk⟩:=kc_flat.R_open hrl (by rw[hsk,HLM.out];omega)
    injection hv with hv1 _ hv3
    subst hv1 hv3
    obtain ⟨b4,o4,e4,hx4⟩:=kc_open (Kd.R_reads' hrl).2.2 (by rw[hsk,HLM.out];omega)
    cases e4
    have hjl:j<l.length:=by rw[HLM.out];exact hjm
    have hjs:j<(shortK l j).length:=by rw[hsk];exact hjl
    obtain ⟨y0,y1,y2,y3⟩:=hx4 j hjs
    have hgj:=shortK_get l j hjl hjs
    have HNX:=mk0 (shortK_next l j hjl)
    rw[hgj] at y0 y1 y2 y3
    rw[Nat.zero_add] at y0 y1 y2 y3
    have HNE:=mk0 (show W0.heap.size≠g from fun e=>hne (by rw[e];rfl))
    have f0:wr.frozen? ⟨g,j*4,none⟩=false:=frozen_of_heap hh
    have f3:wr.frozen? ⟨g,j*4+3,none⟩=false:=frozen_of_heap hh
    have HRl:=mk0 hrl
    have HSK:=mk0 (show (shortK l j).length=10 by rw[hsk,HLM.out])
    have HGJ:=mk0 (And.intro hjl hgj)
    have hy:=HGJ.out.2
    obtain ⟨y,hyy⟩:∃ y,y=l[j]:=⟨_,rfl⟩
    rw[← hyy] at y0 y1 y2 y3 HNX
    have HGY:=mk0 (show ∃ h2:j<(shortK l j).length,(shortK l j)[j]=y from ⟨hjs,by rw[hyy];exact hgj⟩)
    clear hy hyy HGJ hh hnc hcm hcs htk hx4 hgj hjs hsk hr hrl HRJ hne
    by_cases h41:41<y.s.size
    ·by_cases h20:20<y.col.size
     ·have hs:(41:Int)<y.s.size:=by omega
      have hsd:decide ((41:Int)<y.s.size)=true:=decide_eq_true hs
      have hc2:(20:Int)<y.col.size:=by omega
      have hcd:decide ((20:Int)<y.col.size)=true:=decide_eq_true hc2
      have hsh:shortC y=⟨(y.col.extract 0 20),y.kind,y.n,(y.s.extract 0 41)⟩:=by unfold shortC cut20 cut41;rw[if_pos h20,if_pos h41]
      have hq0:=kc_flat.R_put (xs:=(shortK l j)) HRl.out j (HGY.out.1) 3 (by decide) (.string (y.s.extract 0 41)) (⟨y.col,y.kind,y.n,(y.s.extract 0 41)⟩:CellM) (by obtain ⟨_,e⟩:=HGY.out;rw[e];rfl)
      have hq0:kc.R 39 ((wr).setCell ⟨g,j*4+3,none⟩ (.string (y.s.extract 0 41))) W0.heap.size (fun _=>True) (.slice (some ⟨g,0,none⟩) ((shortK l j).set j (⟨y.col,y.kind,y.n,(y.s.extract 0 41)⟩:CellM)).length c1) ((shortK l j).set j (⟨y.col,y.kind,y.n,(y.s.extract 0 41)⟩:CellM)):=by rw[List.length_set];exact hq0
      have hq1:=kc_flat.R_put (xs:=((shortK l j).set j (⟨y.col,y.kind,y.n,(y.s.extract 0 41)⟩:CellM))) hq0 j (by rw[List.length_set];exact HGY.out.1) 0 (by decide) (.string (y.col.extract 0 20)) (⟨(y.col.extract 0 20),y.kind,y.n,(y.s.extract 0 41)⟩:CellM) (by rw[List.getElem_set_self];rfl)
      have hq1:kc.R 39 (((wr.setCell ⟨g,j*4+3,none⟩ (.string (y.s.extract 0 41)))).setCell ⟨g,j*4,none⟩ (.string (y.col.extract 0 20))) W0.heap.size (fun _=>True) (.slice (some ⟨g,0,none⟩) (((shortK l j).set j (⟨y.col,y.kind,y.n,(y.s.extract 0 41)⟩:CellM)).set j (⟨(y.col.extract 0 20),y.kind,y.n,(y.s.extract 0 41)⟩:CellM)).length c1) (((shortK l j).set j (⟨y.col,y.kind,y.n,(y.s.extract 0 41)⟩:CellM)).set j (⟨(y.col.extract 0 20),y.kind,y.n,(y.s.extract 0 41)⟩:CellM)):=by rw[List.length_set];exact hq1
      have HE:=mk0 (show (((shortK l j).set j (⟨y.col,y.kind,y.n,(y.s.extract 0 41)⟩:CellM)).set j (⟨(y.col.extract 0 20),y.kind,y.n,(y.s.extract 0 41)⟩:CellM))=shortK l (j+1) by rw[HNX.out,hsh];rw[List.set_set])
      have HRN:=mk0 (show kc.R 39 ((wr.setCell ⟨g,j*4+3,none⟩ (.string (y.s.extract 0 41))).setCell ⟨g,j*4,none⟩ (.string (y.col.extract 0 20))) W0.heap.size (fun _=>True) (.slice (some ⟨g,0,none⟩) 10 c1) (shortK l (j+1)) by
       have h:=hq1
       rw[HE.out,shortK_len,HLM.out] at h
       exact h)
      have HBN:=mk0 ((HBJ.out.setCell (p:=⟨g,j*4+3,none⟩) hbg (.string (y.s.extract 0 41))).setCell (p:=⟨g,j*4,none⟩) hbg (.string (y.col.extract 0 20)))
      have HPN:=mk0 (show ((wr.setCell ⟨g,j*4+3,none⟩ (.string (y.s.extract 0 41))).setCell ⟨g,j*4,none⟩ (.string (y.col.extract 0 20))).heap[W0.heap.size]?=_ from ((Below.heap_setCell _ _ _ _ HNE.out).trans ((Below.heap_setCell _ _ _ _ HNE.out).trans HPJ.out)))
      have y0b:(wr.setCell ⟨g,j*4+3,none⟩ (.string (y.s.extract 0 41))).cell? ⟨g,j*4,none⟩=some (.string y.col):=(World.cell?_setCell_other _ _ _ _ (by simp)).trans y0
      have f0b:(wr.setCell ⟨g,j*4+3,none⟩ (.string (y.s.extract 0 41))).frozen? ⟨g,j*4,none⟩=false:=by simpa using f0
      clear hq0 hq1
      clear hsh h20 h41 HRl HBJ HPJ HGY HNX
      go_wp2
      generalize ((wr.setCell ⟨g,j*4+3,none⟩ (.string (y.s.extract 0 41))).setCell ⟨g,j*4,none⟩ (.string (y.col.extract 0 20)))=wN at *
      go_roundw
      case rel=>exact ⟨j+1,by omega,by go_num,HRN,HBN,HPN⟩
      case measure=>simp[intOf];omega
     ·have hs:(41:Int)<y.s.size:=by omega
      have hsd:decide ((41:Int)<y.s.size)=true:=decide_eq_true hs
      have hc2:¬ (20:Int)<y.col.size:=by omega
      have hcd:decide ((20:Int)<y.col.size)=false:=decide_eq_false hc2
      have hsh:shortC y=⟨y.col,y.kind,y.n,(y.s.extract 0 41)⟩:=by unfold shortC cut20 cut41;rw[if_neg h20,if_pos h41]
      have hq0:=kc_flat.R_put (xs:=(shortK l j)) HRl.out j (HGY.out.1) 3 (by decide) (.string (y.s.extract 0 41)) (⟨y.col,y.kind,y.n,(y.s.extract 0 41)⟩:CellM) (by obtain ⟨_,e⟩:=HGY.out;rw[e];rfl)
      have hq0:kc.R 39 ((wr).setCell ⟨g,j*4+3,none⟩ (.string (y.s.extract 0 41))) W0.heap.size (fun _=>True) (.slice (some ⟨g,0,none⟩) ((shortK l j).set j (⟨y.col,y.kind,y.n,(y.s.extract 0 41)⟩:CellM)).length c1) ((shortK l j).set j (⟨y.col,y.kind,y.n,(y.s.extract 0 41)⟩:CellM)):=by rw[List.length_set];exact hq0
      have HE:=mk0 (show ((shortK l j).set j (⟨y.col,y.kind,y.n,(y.s.extract 0 41)⟩:CellM))=shortK l (j+1) by rw[HNX.out,hsh])
      have HRN:=mk0 (show kc.R 39 (wr.setCell ⟨g,j*4+3,none⟩ (.string (y.s.extract 0 41))) W0.heap.size (fun _=>True) (.slice (some ⟨g,0,none⟩) 10 c1) (shortK l (j+1)) by
       have h:=hq0
       rw[HE.out,shortK_len,HLM.out] at h
       exact h)
      have HBN:=mk0 (HBJ.out.setCell (p:=⟨g,j*4+3,none⟩) hbg (.string (y.s.extract 0 41)))
      have HPN:=mk0 (show (wr.setCell ⟨g,j*4+3,none⟩ (.string (y.s.extract 0 41))).heap[W0.heap.size]?=_ from ((Below.heap_setCell _ _ _ _ HNE.out).trans HPJ.out))
      clear hq0
      clear hsh h20 h41 HRl HBJ HPJ HGY HNX
      go_wp2
      generalize (wr.setCell ⟨g,j*4+3,none⟩ (.string (y.s.extract 0 41)))=wN at *
      go_roundw
      case rel=>exact ⟨j+1,by omega,by go_num,HRN,HBN,HPN⟩
      case measure=>simp[intOf];omega
    ·by_cases h20:20<y.col.size
     ·have hs:¬ (41:Int)<y.s.size:=by omega
      have hsd:decide ((41:Int)<y.s.size)=false:=decide_eq_false hs
      have hc2:(20:Int)<y.col.size:=by omega
      have hcd:decide ((20:Int)<y.col.size)=true:=decide_eq_true hc2
      have hsh:shortC y=⟨(y.col.extract 0 20),y.kind,y.n,y.s⟩:=by unfold shortC cut20 cut41;rw[if_pos h20,if_neg h41]
      have hq0:=kc_flat.R_put (xs:=(shortK l j)) HRl.out j (HGY.out.1) 0 (by decide) (.string (y.col.extract 0 20)) (⟨(y.col.extract 0 20),y.kind,y.n,y.s⟩:CellM) (by obtain ⟨_,e⟩:=HGY.out;rw[e];rfl)
      have hq0:kc.R 39 ((wr).setCell ⟨g,j*4,none⟩ (.string (y.col.extract 0 20))) W0.heap.size (fun _=>True) (.slice (some ⟨g,0,none⟩) ((shortK l j).set j (⟨(y.col.extract 0 20),y.kind,y.n,y.s⟩:CellM)).length c1) ((shortK l j).set j (⟨(y.col.extract 0 20),y.kind,y.n,y.s⟩:CellM)):=by rw[List.length_set];exact hq0
      have HE:=mk0 (show ((shortK l j).set j (⟨(y.col.extract 0 20),y.kind,y.n,y.s⟩:CellM))=shortK l (j+1) by rw[HNX.out,hsh])
      have HRN:=mk0 (show kc.R 39 (wr.setCell ⟨g,j*4,none⟩ (.string (y.col.extract 0 20))) W0.heap.size (fun _=>True) (.slice (some ⟨g,0,none⟩) 10 c1) (shortK l (j+1)) by
       have h:=hq0
       rw[HE.out,shortK_len,HLM.out] at h
       exact h)
      have HBN:=mk0 (HBJ.out.setCell (p:=⟨g,j*4,none⟩) hbg (.string (y.col.extract 0 20)))
      have HPN:=mk0 (show (wr.setCell ⟨g,j*4,none⟩ (.string (y.col.extract 0 20))).heap[W0.heap.size]?=_ from ((Below.heap_setCell _ _ _ _ HNE.out).trans HPJ.out))
      clear hq0
      clear hsh h20 h41 HRl HBJ HPJ HGY HNX
      go_wp2
      generalize (wr.setCell ⟨g,j*4,none⟩ (.string (y.col.extract 0 20)))=wN at *
      go_roundw
      case rel=>exact ⟨j+1,by omega,by go_num,HRN,HBN,HPN⟩
      case measure=>simp[intOf];omega
     ·have hs:¬ (41:Int)<y.s.size:=by omega
      have hsd:decide ((41:Int)<y.s.size)=false:=decide_eq_false hs
      have hc2:¬ (20:Int)<y.col.size:=by omega
      have hcd:decide ((20:Int)<y.col.size)=false:=decide_eq_false hc2
      have hsh:shortC y=⟨y.col,y.kind,y.n,y.s⟩:=by unfold shortC cut20 cut41;rw[if_neg h20,if_neg h41]
      have HRN:=mk0 (show kc.R 39 wr W0.heap.size (fun _=>True) (.slice (some ⟨g,0,none⟩) 10 c1) (shortK l (j+1)) by
       obtain ⟨h2,e⟩:=HGY.out
       have e2:(shortK l j).set j (shortC y)=shortK l j:=by rw[hsh];show (shortK l j).set j y=_;rw[← e];exact List.set_getElem_self h2
       have h:=HRl.out
       rw[shortK_len,HLM.out] at h
       rw[HNX.out,e2]
       exact h)
      have HBN:=HBJ
      have HPN:=HPJ
      clear hsh h20 h41 HRl HBJ HPJ HGY HNX
      go_wp2
      go_roundw
      case rel=>exact ⟨j+1,by omega,by go_num,HRN,HBN,HPN⟩
      case measure=>simp[intOf];omega
  ·have h10i:¬ (10:Int)<cx.length:=by omega
   have h10d:decide ((10:Int)<cx.length)=false:=decide_eq_false h10i
   obtain ⟨l,hl2⟩:∃ l,l=cx:=⟨_,rfl⟩
   have HLM:=mk0 (show l.length=cx.length by rw[hl2])
   have HFIN:=mk0 (show l.map shortC=shortCs cx by rw[hl2];unfold shortCs;rw[List.take_of_length_le (by omega)])
   have HRS:=mk0 (show kc.R 39 w1 W0.heap.size (fun _=>True) (.slice A1 cx.length c1) l by rw[hl2];exact HR1.out)
   clear HR1 hl2
   go_wp2_with fail
   go_loopw[9] (fun v9 wr=>∃ j:Nat,j≤cx.length∧v9 = .int .i64 j∧Aside0 (kc.R 39 wr W0.heap.size (fun _=>True) (.slice A1 cx.length c1) (shortK l j))∧Aside0 (Below W0.heap.size W0 wr)∧Aside0 (wr.heap[W0.heap.size]?=some (.cells #[.int .i64 xt,.int .i64 xs,.slice xA cx.length xc] 37 (0,0)))) (fun i _=>cx.length-(intOf i).toNat)
   case atStart=>exact ⟨0,by omega,rfl,⟨by simpa [shortK] using HRS.out⟩,HB1,HP1⟩
   case round=>
    clear HRS HB1 HP1
    obtain ⟨j,hj,rfl,HRJ,HBJ,HPJ⟩:=hrel
    have hne:=R_not_at HRJ.out HPJ.out (by decide)
    by_cases hjm:j<cx.length
    case neg=>
     have hjm2:j=cx.length:=by omega
     have hjmi:¬ (j:Int)<cx.length:=by omega
     have HRF:=mk0 (show kc.R 39 wr W0.heap.size (fun _=>True) (.slice A1 cx.length c1) (shortCs cx) by
      have h:=HRJ.out
      rw[hjm2] at h
      unfold shortK at h
      rw[List.take_of_length_le (by rw[HLM.out];exact Nat.le_refl _),List.drop_eq_nil_of_le (by rw[HLM.out];exact Nat.le_refl _),List.append_nil,HFIN.out] at h
      exact h)
     have hp0:=cell_of_heap (i:=0) HPJ.out rfl
     have hp1:=cell_of_heap (i:=1) HPJ.out rfl
     have hp2:=cell_of_heap (i:=2) HPJ.out rfl
     have hf2:=frozen_of_heap (i:=2) HPJ.out
     clear hjm2 hne
     have HRF2:=mk0 (R_set_ne rfl HRF.out HPJ.out (by decide) 2 (.slice A1 cx.length c1))
     have HBF:=mk0 (HBJ.out.setCell (p:=⟨W0.heap.size,2,none⟩) (Nat.le_refl _) (.slice A1 cx.length c1))
     have HX0:=mk0 (show Value.slice (some ⟨wr.heap.size,0,none⟩) 1 1 = .slice (some ⟨(wr.setCell ⟨W0.heap.size,2,none⟩ (.slice A1 cx.length c1)).heap.size,0,none⟩) 1 1 by simp)
     have hsl:=(Kd.R_reads' HRF.out).1
     have HSL:=mk0 hsl
     have HRW:=mk0 (Kd.R_below HR.out HBF.out)
     have HRRW:=mk0 (RowsR.below HRR.out HBF.out)
     have HRC:=mk0 (Kd.R_lower HRF2.out HB.out.size)
     have HSW:=mk0 (Nat.le_trans HB.out.size HBF.out.size)
     have HLW:=mk0 (show H'.length≤1099511627776 by have:=HHL.out;omega)
     have HCL:=mk0 (show (shortCs cx).length≤c1 from HSL.out ▸ (Kd.R_reads' HRF.out).2.1)
     clear hsl HRF HRF2 HRJ HPJ
     go_wp2_with (at_builtin;go_loud (refine kr_append (W:=wr.setCell ⟨W0.heap.size,2,none⟩ (.slice A1 cx.length c1)) (.tmp 76) (.tmp 78) 22 37 (.slice A3 H'.length c3) H' ⟨xt,xs,A1,cx.length,c1⟩ w.heap.size rfl rfl Tryz.underlying22 info_row rfl HX0.out HRW.out HSW.out HLW.out ?_))
     intro v1 w7 hr7 hb7 hg7 hat7
     have HRR7:=mk0 ((HRRW.out.grown HRW.out (by decide) hg7).snoc ⟨xt,xs,A1,cx.length,c1⟩ (shortCs cx) HSL.out HCL.out (R_grown_ne rfl HRC.out HRW.out (by decide) hg7))
     have HB7:=mk0 (HB.out.trans ((HBF.out.mono HB.out.size).trans hb7))
     have HM7:=mk0 (show rowsM (H'++[(⟨xt,xs,A1,cx.length,c1⟩:RowH)]) (L'++[shortCs cx])=(shortM (rowsM H L) n).take (k+1) by
      rw[rowsM_snoc _ _ _ _ HRR.out.1,HM.out,HMN.out])
     have HH7:=mk0 (show (H'++[(⟨xt,xs,A1,cx.length,c1⟩:RowH)]).length=k+1 by rw[List.length_append,HHL.out];rfl)
     have HR7:=mk0 hr7
     generalize H'++[(⟨xt,xs,A1,cx.length,c1⟩:RowH)]=H2 at *
     clear hr7 hb7 hg7 hat7 HRRW HRW HX0 HM HR HRR HMN HHL HRC
     go_wp2
     go_roundw
     case rel=>exact ⟨k+1,H2,L'++[shortCs cx],by omega,by go_num,HH7,HM7,HR7,HRR7,HB7⟩
     case measure=>simp[intOf];omega
    have hjmi:(j:Int)<cx.length:=by omega
    have hsk:=shortK_len l j
    have hr:=HRJ.out
    have hrl:kc.R 39 wr W0.heap.size (fun _=>True) (.slice A1 (shortK l j).length c1) (shortK l j):=by rw[hsk,HLM.out];exact hr
    obtain ⟨g,cap,cur,hv,hbg,hh,hnc,hcm,hcs,htk⟩:=kc_flat.R_open hrl (by rw[hsk,HLM.out];omega)
    injection hv with hv1 _ hv3
    subst hv1 hv3
    obtain ⟨b4,o4,e4,hx4⟩:=kc_open (Kd.R_reads' hrl).2.2 (by rw[hsk,HLM.out];omega)
    cases e4
    have hjl:j<l.length:=by rw[HLM.out];exact hjm
    have hjs:j<(shortK l j).length:=by rw[hsk];exact hjl
    obtain ⟨y0,y1,y2,y3⟩:=hx4 j hjs
    have hgj:=shortK_get l j hjl hjs
    have HNX:=mk0 (shortK_next l j hjl)
    rw[hgj] at y0 y1 y2 y3
    rw[Nat.zero_add] at y0 y1 y2 y3
    have HNE:=mk0 (show W0.heap.size≠g from fun e=>hne (by rw[e];rfl))
    have f0:wr.frozen? ⟨g,j*4,none⟩=false:=frozen_of_heap hh
    have f3:wr.frozen? ⟨g,j*4+3,none⟩=false:=frozen_of_heap hh
    have HRl:=mk0 hrl
    have HSK:=mk0 (show (shortK l j).length=cx.length by rw[hsk,HLM.out])
    have HGJ:=mk0 (And.intro hjl hgj)
    have hy:=HGJ.out.2
    obtain ⟨y,hyy⟩:∃ y,y=l[j]:=⟨_,rfl⟩
    rw[← hyy] at y0 y1 y2 y3 HNX
    have HGY:=mk0 (show ∃ h2:j<(shortK l j).length,(shortK l j)[j]=y from ⟨hjs,by rw[hyy];exact hgj⟩)
    clear hy hyy HGJ hh hnc hcm hcs htk hx4 hgj hjs hsk hr hrl HRJ hne
    by_cases h41:41<y.s.size
    ·by_cases h20:20<y.col.size
     ·have hs:(41:Int)<y.s.size:=by omega
      have hsd:decide ((41:Int)<y.s.size)=true:=decide_eq_true hs
      have hc2:(20:Int)<y.col.size:=by omega
      have hcd:decide ((20:Int)<y.col.size)=true:=decide_eq_true hc2
      have hsh:shortC y=⟨(y.col.extract 0 20),y.kind,y.n,(y.s.extract 0 41)⟩:=by unfold shortC cut20 cut41;rw[if_pos h20,if_pos h41]
      have hq0:=kc_flat.R_put (xs:=(shortK l j)) HRl.out j (HGY.out.1) 3 (by decide) (.string (y.s.extract 0 41)) (⟨y.col,y.kind,y.n,(y.s.extract 0 41)⟩:CellM) (by obtain ⟨_,e⟩:=HGY.out;rw[e];rfl)
      have hq0:kc.R 39 ((wr).setCell ⟨g,j*4+3,none⟩ (.string (y.s.extract 0 41))) W0.heap.size (fun _=>True) (.slice (some ⟨g,0,none⟩) ((shortK l j).set j (⟨y.col,y.kind,y.n,(y.s.extract 0 41)⟩:CellM)).length c1) ((shortK l j).set j (⟨y.col,y.kind,y.n,(y.s.extract 0 41)⟩:CellM)):=by rw[List.length_set];exact hq0
      have hq1:=kc_flat.R_put (xs:=((shortK l j).set j (⟨y.col,y.kind,y.n,(y.s.extract 0 41)⟩:CellM))) hq0 j (by rw[List.length_set];exact HGY.out.1) 0 (by decide) (.string (y.col.extract 0 20)) (⟨(y.col.extract 0 20),y.kind,y.n,(y.s.extract 0 41)⟩:CellM) (by rw[List.getElem_set_self];rfl)
      have hq1:kc.R 39 (((wr.setCell ⟨g,j*4+3,none⟩ (.string (y.s.extract 0 41)))).setCell ⟨g,j*4,none⟩ (.string (y.col.extract 0 20))) W0.heap.size (fun _=>True) (.slice (some ⟨g,0,none⟩) (((shortK l j).set j (⟨y.col,y.kind,y.n,(y.s.extract 0 41)⟩:CellM)).set j (⟨(y.col.extract 0 20),y.kind,y.n,(y.s.extract 0 41)⟩:CellM)).length c1) (((shortK l j).set j (⟨y.col,y.kind,y.n,(y.s.extract 0 41)⟩:CellM)).set j (⟨(y.col.extract 0 20),y.kind,y.n,(y.s.extract 0 41)⟩:CellM)):=by rw[List.length_set];exact hq1
      have HE:=mk0 (show (((shortK l j).set j (⟨y.col,y.kind,y.n,(y.s.extract 0 41)⟩:CellM)).set j (⟨(y.col.extract 0 20),y.kind,y.n,(y.s.extract 0 41)⟩:CellM))=shortK l (j+1) by rw[HNX.out,hsh];rw[List.set_set])
      have HRN:=mk0 (show kc.R 39 ((wr.setCell ⟨g,j*4+3,none⟩ (.string (y.s.extract 0 41))).setCell ⟨g,j*4,none⟩ (.string (y.col.extract 0 20))) W0.heap.size (fun _=>True) (.slice (some ⟨g,0,none⟩) cx.length c1) (shortK l (j+1)) by
       have h:=hq1
       rw[HE.out,shortK_len,HLM.out] at h
       exact h)
      have HBN:=mk0 ((HBJ.out.setCell (p:=⟨g,j*4+3,none⟩) hbg (.string (y.s.extract 0 41))).setCell (p:=⟨g,j*4,none⟩) hbg (.string (y.col.extract 0 20)))
      have HPN:=mk0 (show ((wr.setCell ⟨g,j*4+3,none⟩ (.string (y.s.extract 0 41))).setCell ⟨g,j*4,none⟩ (.string (y.col.extract 0 20))).heap[W0.heap.size]?=_ from ((Below.heap_setCell _ _ _ _ HNE.out).trans ((Below.heap_setCell _ _ _ _ HNE.out).trans HPJ.out)))
      have y0b:(wr.setCell ⟨g,j*4+3,none⟩ (.string (y.s.extract 0 41))).cell? ⟨g,j*4,none⟩=some (.string y.col):=(World.cell?_setCell_other _ _ _ _ (by simp)).trans y0
      have f0b:(wr.setCell ⟨g,j*4+3,none⟩ (.string (y.s.extract 0 41))).frozen? ⟨g,j*4,none⟩=false:=by simpa using f0
      clear hq0 hq1
      clear hsh h20 h41 HRl HBJ HPJ HGY HNX
      go_wp2
      generalize ((wr.setCell ⟨g,j*4+3,none⟩ (.string (y.s.extract 0 41))).setCell ⟨g,j*4,none⟩ (.string (y.col.extract 0 20)))=wN at *
      go_roundw
      case rel=>exact ⟨j+1,by omega,by go_num,HRN,HBN,HPN⟩
      case measure=>simp[intOf];omega
     ·have hs:(41:Int)<y.s.size:=by omega
      have hsd:decide ((41:Int)<y.s.size)=true:=decide_eq_true hs
      have hc2:¬ (20:Int)<y.col.size:=by omega
      have hcd:decide ((20:Int)<y.col.size)=false:=decide_eq_false hc2
      have hsh:shortC y=⟨y.col,y.kind,y.n,(y.s.extract 0 41)⟩:=by unfold shortC cut20 cut41;rw[if_neg h20,if_pos h41]
      have hq0:=kc_flat.R_put (xs:=(shortK l j)) HRl.out j (HGY.out.1) 3 (by decide) (.string (y.s.extract 0 41)) (⟨y.col,y.kind,y.n,(y.s.extract 0 41)⟩:CellM) (by obtain ⟨_,e⟩:=HGY.out;rw[e];rfl)
      have hq0:kc.R 39 ((wr).setCell ⟨g,j*4+3,none⟩ (.string (y.s.extract 0 41))) W0.heap.size (fun _=>True) (.slice (some ⟨g,0,none⟩) ((shortK l j).set j (⟨y.col,y.kind,y.n,(y.s.extract 0 41)⟩:CellM)).length c1) ((shortK l j).set j (⟨y.col,y.kind,y.n,(y.s.extract 0 41)⟩:CellM)):=by rw[List.length_set];exact hq0
      have HE:=mk0 (show ((shortK l j).set j (⟨y.col,y.kind,y.n,(y.s.extract 0 41)⟩:CellM))=shortK l (j+1) by rw[HNX.out,hsh])
      have HRN:=mk0 (show kc.R 39 (wr.setCell ⟨g,j*4+3,none⟩ (.string (y.s.extract 0 41))) W0.heap.size (fun _=>True) (.slice (some ⟨g,0,none⟩) cx.length c1) (shortK l (j+1)) by
       have h:=hq0
       rw[HE.out,shortK_len,HLM.out] at h
       exact h)
      have HBN:=mk0 (HBJ.out.setCell (p:=⟨g,j*4+3,none⟩) hbg (.string (y.s.extract 0 41)))
      have HPN:=mk0 (show (wr.setCell ⟨g,j*4+3,none⟩ (.string (y.s.extract 0 41))).heap[W0.heap.size]?=_ from ((Below.heap_setCell _ _ _ _ HNE.out).trans HPJ.out))
      clear hq0
      clear hsh h20 h41 HRl HBJ HPJ HGY HNX
      go_wp2
      generalize (wr.setCell ⟨g,j*4+3,none⟩ (.string (y.s.extract 0 41)))=wN at *
      go_roundw
      case rel=>exact ⟨j+1,by omega,by go_num,HRN,HBN,HPN⟩
      case measure=>simp[intOf];omega
    ·by_cases h20:20<y.col.size
     ·have hs:¬ (41:Int)<y.s.size:=by omega
      have hsd:decide ((41:Int)<y.s.size)=false:=decide_eq_false hs
      have hc2:(20:Int)<y.col.size:=by omega
      have hcd:decide ((20:Int)<y.col.size)=true:=decide_eq_true hc2
      have hsh:shortC y=⟨(y.col.extract 0 20),y.kind,y.n,y.s⟩:=by unfold shortC cut20 cut41;rw[if_pos h20,if_neg h41]
      have hq0:=kc_flat.R_put (xs:=(shortK l j)) HRl.out j (HGY.out.1) 0 (by decide) (.string (y.col.extract 0 20)) (⟨(y.col.extract 0 20),y.kind,y.n,y.s⟩:CellM) (by obtain ⟨_,e⟩:=HGY.out;rw[e];rfl)
      have hq0:kc.R 39 ((wr).setCell ⟨g,j*4,none⟩ (.string (y.col.extract 0 20))) W0.heap.size (fun _=>True) (.slice (some ⟨g,0,none⟩) ((shortK l j).set j (⟨(y.col.extract 0 20),y.kind,y.n,y.s⟩:CellM)).length c1) ((shortK l j).set j (⟨(y.col.extract 0 20),y.kind,y.n,y.s⟩:CellM)):=by rw[List.length_set];exact hq0
      have HE:=mk0 (show ((shortK l j).set j (⟨(y.col.extract 0 20),y.kind,y.n,y.s⟩:CellM))=shortK l (j+1) by rw[HNX.out,hsh])
      have HRN:=mk0 (show kc.R 39 (wr.setCell ⟨g,j*4,none⟩ (.string (y.col.extract 0 20))) W0.heap.size (fun _=>True) (.slice (some ⟨g,0,none⟩) cx.length c1) (shortK l (j+1)) by
       have h:=hq0
       rw[HE.out,shortK_len,HLM.out] at h
       exact h)
      have HBN:=mk0 (HBJ.out.setCell (p:=⟨g,j*4,none⟩) hbg (.string (y.col.extract 0 20)))
      have HPN:=mk0 (show (wr.setCell ⟨g,j*4,none⟩ (.string (y.col.extract 0 20))).heap[W0.heap.size]?=_ from ((Below.heap_setCell _ _ _ _ HNE.out).trans HPJ.out))
      clear hq0
      clear hsh h20 h41 HRl HBJ HPJ HGY HNX
      go_wp2
      generalize (wr.setCell ⟨g,j*4,none⟩ (.string (y.col.extract 0 20)))=wN at *
      go_roundw
      case rel=>exact ⟨j+1,by omega,by go_num,HRN,HBN,HPN⟩
      case measure=>simp[intOf];omega
     ·have hs:¬ (41:Int)<y.s.size:=by omega
      have hsd:decide ((41:Int)<y.s.size)=false:=decide_eq_false hs
      have hc2:¬ (20:Int)<y.col.size:=by omega
      have hcd:decide ((20:Int)<y.col.size)=false:=decide_eq_false hc2
      have hsh:shortC y=⟨y.col,y.kind,y.n,y.s⟩:=by unfold shortC cut20 cut41;rw[if_neg h20,if_neg h41]
      have HRN:=mk0 (show kc.R 39 wr W0.heap.size (fun _=>True) (.slice (some ⟨g,0,none⟩) cx.length c1) (shortK l (j+1)) by
       obtain ⟨h2,e⟩:=HGY.out
       have e2:(shortK l j).set j (shortC y)=shortK l j:=by rw[hsh];show (shortK l j).set j y=_;rw[← e];exact List.set_getElem_self h2
       have h:=HRl.out
       rw[shortK_len,HLM.out] at h
       rw[HNX.out,e2]
       exact h)
      have HBN:=HBJ
      have HPN:=HPJ
      clear hsh h20 h41 HRl HBJ HPJ HGY HNX
      go_wp2
      go_roundw
      case rel=>exact ⟨j+1,by omega,by go_num,HRN,HBN,HPN⟩
      case measure=>simp[intOf];omega
end Go.Proofs.YtplnodcbbcdcgaaGreat.Lib0

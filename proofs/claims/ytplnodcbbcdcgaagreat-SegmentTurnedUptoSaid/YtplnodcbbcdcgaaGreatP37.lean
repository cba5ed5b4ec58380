import Derived.Test.YtplnodcbbcdcgaaGreatP36
set_option linter.unusedVariables false
set_option linter.unusedSimpArgs false
namespace Go.Proofs.YtplnodcbbcdcgaaGreat.Lib0
open Go.RowKit Go.Proofs.YtplnodcbbcdcgaaGreatW.PrintWords Go.ChangeMaps
def absI (x:Int):Int:=if x<0 then -x else x
def stepI (t:Int):Int:=(absI (t.tmod 100)).tmod 4
def riseT (M:List RowM):Nat→Int
 | 0=>0
 | i+1=>riseT M i+stepI ((M[i]?).elim 0 (·.t))
def riseRow (M:List RowM) (i:Nat):RowM:=⟨riseT M (i+1),i,tameCs ((M[i]?).elim [] (·.cs)) 4⟩
def risingM (M:List RowM) (n:Nat):List RowM:=(List.range n).map (riseRow M)
theorem tmod100 (t:Int):-99≤t.tmod 100∧t.tmod 100≤99:=by
 rcases Int.lt_or_le t 0 with h | h
 ·have e:t.tmod 100 = -((-t).tmod 100):=by rw[Int.neg_tmod,Int.neg_neg]
  have h1:=Int.tmod_nonneg (a:=-t) 100 (by omega)
  have h2:=Int.tmod_lt_of_pos (-t) (b:=100) (by omega)
  omega
 ·have h1:=Int.tmod_nonneg (a:=t) 100 h
  have h2:=Int.tmod_lt_of_pos t (b:=100) (by omega)
  omega
theorem absI_range (t:Int):0≤absI (t.tmod 100)∧absI (t.tmod 100)≤99:=by
 have:=tmod100 t
 unfold absI
 split<;>omega
theorem stepI_range (t:Int):0≤stepI t∧stepI t≤3:=by
 have h:=absI_range t
 have h1:=Int.tmod_nonneg (a:=absI (t.tmod 100)) 4 h.1
 have h2:=Int.tmod_lt_of_pos (absI (t.tmod 100)) (b:=4) (by omega)
 unfold stepI
 omega
theorem riseT_range (M:List RowM):∀ i,0≤riseT M i∧riseT M i≤3*i
 | 0=>by simp[riseT]
 | i+1=>by
  have h:=riseT_range M i
  have h2:=stepI_range ((M[i]?).elim 0 (·.t))
  rw[riseT]
  omega
theorem risingM_next (M:List RowM) (n k:Nat) (h:k<n):(risingM M n).take (k+1)=(risingM M n).take k++[riseRow M k]:=by
 have hl:k<(risingM M n).length:=by simp[risingM,h]
 rw[take_next _ k hl]
 congr 2
 simp[risingM]
set_option maxHeartbeats 3200000 in
set_option maxRecDepth 100000 in
theorem keep_Rising (B:Option Addr) (d:Nat) (H:List RowH) (L:List (List CellM)) (most:Nat) (w:World) (hH:kr.C w B H.length H) (hL:RowsOn w H L) (hl:H.length≤9223372036854775807) (hm:most≤1000) (hc:∀ c ∈ L,c.length≤9223372036854775807) :
  Calls Tryz.prog 7 #[.slice B H.length d,.int .i64 most] w (RisS w (risingM (rowsM H L) (min H.length most))):=by
 have HH:=mk0 hH
 have HL:=mk0 hL
 have HC:=mk0 hc
 have hli:(H.length:Int)≤9223372036854775807:=by omega
 have hmi:(most:Int)≤1000:=by omega
 have HB0:=mk0 (Below.refl w.heap.size w)
 obtain ⟨n,hn⟩:∃ n,n=min H.length most:=⟨_,rfl⟩
 rw[← hn]
 have HN:=mk0 hn
 clear hH hL hc hn
 go_enter Tryz.func7,Tryz.ntmps7
 go_wp2_with fail
 go_loopw[5,6,7] (fun v5 v6 v7 wr=>∃ (k:Nat) (H':List RowH) (L':List (List CellM)),k≤n∧v6 = .int .i64 (riseT (rowsM H L) k)∧v7 = .int .i64 k∧Aside0 (H'.length=k)∧Aside0 (rowsM H' L'=(risingM (rowsM H L) n).take k)∧Aside0 (kr.R 37 wr w.heap.size (fun _=>True) v5 H')∧Aside0 (RowsR wr w.heap.size H' L')∧Aside0 (Below w.heap.size w wr)) (fun _ _ i _=>n-(intOf i).toNat)
 case atStart=>exact ⟨0,[],[],by omega,rfl,rfl,⟨rfl⟩,⟨by simp[rowsM]⟩,⟨Kd.R_nil _ _ _ _ _⟩,⟨⟨rfl,fun i h1=>by simp at h1⟩⟩,HB0⟩
 case round=>
  clear HB0
  obtain ⟨k,H',L',hk,rfl,rfl,HHL,HM,HR,HRR,HB⟩:=hrel
  obtain ⟨A3,c3,hv3⟩:=Kd.R_slice HR.out
  subst hv3
  by_cases hkn:k<n
  ·have hk1:k<H.length:=by have:=HN.out;omega
   have hk2:k<most:=by have:=HN.out;omega
   have hk1i:(k:Int)<H.length:=by omega
   have hk2i:(k:Int)<most:=by omega
   have hkl:k<L.length:=by rw[← HL.out.1];exact hk1
   have d1:decide ((k:Int)<H.length)=true:=decide_eq_true hk1i
   have d2:decide ((k:Int)<most)=true:=decide_eq_true hk2i
   obtain ⟨b,o,rfl,hx⟩:=kr_open (Kd.C_below HH.out HB.out) (by omega)
   obtain ⟨x0,x1,x2⟩:=hx k hk1
   obtain ⟨q1,q2,q3⟩:=(HL.out.below HB.out).2 k hk1 hkl
   have hcc:=HC.out _ (List.getElem_mem hkl)
   have HMN:=mk0 (risingM_next (rowsM H L) n k hkn)
   have hmk:(rowsM H L)[k]?=some ⟨H[k].t,H[k].s,L[k]⟩:=by
    rw[List.getElem?_eq_getElem (rowsM_lt H L k hk1 hkl),rowsM_get H L k hk1 hkl]
   have hrow:riseRow (rowsM H L) k=⟨riseT (rowsM H L) k+stepI H[k].t,k,tameCs L[k] 4⟩:=by
    unfold riseRow
    rw[riseT,hmk];rfl
   have hT1:riseT (rowsM H L) (k+1)=riseT (rowsM H L) k+stepI H[k].t:=by rw[riseT,hmk];rfl
   have hTr:=riseT_range (rowsM H L) k
   rw[hrow] at HMN
   have HT1:=mk0 hT1
   generalize hT:riseT (rowsM H L) k=T at *
   generalize H[k]=x at *
   generalize L[k]=cx at *
   obtain ⟨xt,xs,xA,xn,xc⟩:=x
   dsimp only at *
   subst q1
   have HTM:=mk0 (keep_Tame xt xs k xA xc cx wr q3 hcc)
   have hab:=absI_range xt
   have hst:=stepI_range xt
   have htm:=tmod100 xt
   clear hx q2 q3 hcc hmk hrow hT1 hT
   go_wp2_with fail
   (with_reducible refine HTM.out.mono ?_)
   rintro e w5 ⟨A5,c5,rfl,hc5,hr5,hb5⟩
   unfold tameM at hc5 hr5 ⊢
   dsimp only at hc5 hr5 ⊢
   have HB5:=mk0 hb5
   have HB5b:=mk0 (hb5.mono HB.out.size)
   have HR5:=mk0 hr5
   have HC5:=mk0 hc5
   have HB5s:=mk0 (show w.heap.size≤w5.heap.size from Nat.le_trans HB.out.size hb5.size)
   clear hb5 hr5 hc5
   by_cases hneg:xt.tmod 100<0
   ·have e0:decide (xt.tmod 100<0)=true:=decide_eq_true hneg
    have e1:absI (xt.tmod 100) = -(xt.tmod 100):=by unfold absI;rw[if_pos hneg]
    have e3:(-(xt.tmod 100)).tmod 4=stepI xt:=by unfold stepI;rw[e1]
    have e4:wrap64 (T+stepI xt)=T+stepI xt:=by unfold wrap64;omega
    have hx0:Value.slice (some ⟨w5.heap.size+1,0,none⟩) 1 1 = .slice (some ⟨(w5.alloc (.cells #[.int .i64 (T+stepI xt),.int .i64 k,.slice A5 (tameCs cx 4).length c5] 37)).heap.size,0,none⟩) 1 1:=by simp
    have HX0:=mk0 hx0
    have HBW:=mk0 (below_alloc (Below.refl w5.heap.size w5) (.cells #[.int .i64 (T+stepI xt),.int .i64 k,.slice A5 (tameCs cx 4).length c5] 37))
    have HRW:=mk0 (Kd.R_below HR.out (HB5.out.trans (HBW.out.mono HB5.out.size)))
    have HRRW:=mk0 (RowsR.below HRR.out (HB5.out.trans (HBW.out.mono HB5.out.size)))
    have HR5W:=mk0 (Kd.R_lower (Kd.R_below HR5.out HBW.out) HB.out.size)
    have HSW:=mk0 (Nat.le_trans HB5s.out HBW.out.size)
    have HLW:=mk0 (show H'.length≤1099511627776 by have:=HHL.out;omega)
    clear hx0
    go_wp2_with (at_builtin;go_loud (refine kr_append (W:=w5.alloc (.cells #[.int .i64 (T+stepI xt),.int .i64 k,.slice A5 (tameCs cx 4).length c5] 37)) (.tmp 39) (.tmp 41) 22 37 (.slice A3 H'.length c3) H' ⟨T+stepI xt,k,A5,(tameCs cx 4).length,c5⟩ w.heap.size rfl rfl Tryz.underlying22 info_row rfl HX0.out HRW.out HSW.out HLW.out ?_))
    intro v1 w7 hr7 hb7 hg7 hat7
    have HRR7:=mk0 ((HRRW.out.grown HRW.out (by decide) hg7).snoc ⟨T+stepI xt,k,A5,(tameCs cx 4).length,c5⟩ (tameCs cx 4) rfl HC5.out (R_grown_ne rfl HR5W.out HRW.out (by decide) hg7))
    have HB7:=mk0 ((HB5b.out.trans (HBW.out.mono HB5s.out)).trans hb7)
    have HM7:=mk0 (show rowsM (H'++[(⟨T+stepI xt,k,A5,(tameCs cx 4).length,c5⟩:RowH)]) (L'++[tameCs cx 4])=(risingM (rowsM H L) n).take (k+1) by
     rw[rowsM_snoc _ _ _ _ HRR.out.1,HM.out,HMN.out])
    have HH7:=mk0 (show (H'++[(⟨T+stepI xt,k,A5,(tameCs cx 4).length,c5⟩:RowH)]).length=k+1 by rw[List.length_append,HHL.out];rfl)
    have HR7:=mk0 hr7
    have HT7:=mk0 HT1.out.symm
    generalize H'++[(⟨T+stepI xt,k,A5,(tameCs cx 4).length,c5⟩:RowH)]=H2 at *
    clear hr7 hb7 hg7 hat7 HRRW HRW HR5W HR5 HX0 HM HR HRR HMN HHL
    go_wp2
    go_roundw
    case rel=>exact ⟨k+1,H2,L'++[tameCs cx 4],by omega,by rw[← HT7.out],by go_num,HH7,HM7,HR7,HRR7,⟨HB.out.trans HB7.out⟩⟩
    case measure=>simp[intOf];omega
   ·have e0:decide (xt.tmod 100<0)=false:=decide_eq_false hneg
    have e1:absI (xt.tmod 100)=xt.tmod 100:=by unfold absI;rw[if_neg hneg]
    have e3:(xt.tmod 100).tmod 4=stepI xt:=by unfold stepI;rw[e1]
    have e4:wrap64 (T+stepI xt)=T+stepI xt:=by unfold wrap64;omega
    have hx0:Value.slice (some ⟨w5.heap.size+1,0,none⟩) 1 1 = .slice (some ⟨(w5.alloc (.cells #[.int .i64 (T+stepI xt),.int .i64 k,.slice A5 (tameCs cx 4).length c5] 37)).heap.size,0,none⟩) 1 1:=by simp
    have HX0:=mk0 hx0
    have HBW:=mk0 (below_alloc (Below.refl w5.heap.size w5) (.cells #[.int .i64 (T+stepI xt),.int .i64 k,.slice A5 (tameCs cx 4).length c5] 37))
    have HRW:=mk0 (Kd.R_below HR.out (HB5.out.trans (HBW.out.mono HB5.out.size)))
    have HRRW:=mk0 (RowsR.below HRR.out (HB5.out.trans (HBW.out.mono HB5.out.size)))
    have HR5W:=mk0 (Kd.R_lower (Kd.R_below HR5.out HBW.out) HB.out.size)
    have HSW:=mk0 (Nat.le_trans HB5s.out HBW.out.size)
    have HLW:=mk0 (show H'.length≤1099511627776 by have:=HHL.out;omega)
    clear hx0
    go_wp2_with (at_builtin;go_loud (refine kr_append (W:=w5.alloc (.cells #[.int .i64 (T+stepI xt),.int .i64 k,.slice A5 (tameCs cx 4).length c5] 37)) (.tmp 39) (.tmp 41) 22 37 (.slice A3 H'.length c3) H' ⟨T+stepI xt,k,A5,(tameCs cx 4).length,c5⟩ w.heap.size rfl rfl Tryz.underlying22 info_row rfl HX0.out HRW.out HSW.out HLW.out ?_))
    intro v1 w7 hr7 hb7 hg7 hat7
    have HRR7:=mk0 ((HRRW.out.grown HRW.out (by decide) hg7).snoc ⟨T+stepI xt,k,A5,(tameCs cx 4).length,c5⟩ (tameCs cx 4) rfl HC5.out (R_grown_ne rfl HR5W.out HRW.out (by decide) hg7))
    have HB7:=mk0 ((HB5b.out.trans (HBW.out.mono HB5s.out)).trans hb7)
    have HM7:=mk0 (show rowsM (H'++[(⟨T+stepI xt,k,A5,(tameCs cx 4).length,c5⟩:RowH)]) (L'++[tameCs cx 4])=(risingM (rowsM H L) n).take (k+1) by
     rw[rowsM_snoc _ _ _ _ HRR.out.1,HM.out,HMN.out])
    have HH7:=mk0 (show (H'++[(⟨T+stepI xt,k,A5,(tameCs cx 4).length,c5⟩:RowH)]).length=k+1 by rw[List.length_append,HHL.out];rfl)
    have HR7:=mk0 hr7
    have HT7:=mk0 HT1.out.symm
    generalize H'++[(⟨T+stepI xt,k,A5,(tameCs cx 4).length,c5⟩:RowH)]=H2 at *
    clear hr7 hb7 hg7 hat7 HRRW HRW HR5W HR5 HX0 HM HR HRR HMN HHL
    go_wp2
    go_roundw
    case rel=>exact ⟨k+1,H2,L'++[tameCs cx 4],by omega,by rw[← HT7.out],by go_num,HH7,HM7,HR7,HRR7,⟨HB.out.trans HB7.out⟩⟩
    case measure=>simp[intOf];omega
  ·have hkn2:k=n:=by omega
   subst hkn2
   rw[List.take_of_length_le (by simp[risingM])] at HM
   have HG:Aside0 (¬ k<H.length∨¬ k<most):=⟨by have:=HN.out;omega⟩
   by_cases h1:k<H.length
   ·have h2:¬ k<most:=by have:=HG.out;omega
    have d1:decide ((k:Int)<H.length)=true:=decide_eq_true (by omega)
    have d2:decide ((k:Int)<most)=false:=decide_eq_false (by omega)
    go_wp2
    go_ret
    exact ⟨H',L',A3,c3,rfl,HR.out,HRR.out,HM.out,HB.out⟩
   ·have d1:decide ((k:Int)<H.length)=false:=decide_eq_false (by omega)
    go_wp2
    go_ret
    exact ⟨H',L',A3,c3,rfl,HR.out,HRR.out,HM.out,HB.out⟩
end Go.Proofs.YtplnodcbbcdcgaaGreat.Lib0
namespace Go.Proofs.YtplnodcbbcdcgaaGreat.Lib0
open Go.RowKit Go.Proofs.YtplnodcbbcdcgaaGreatW.PrintWords Go.ChangeMaps
def lessM (a b:RowM):Bool:=decide (cmpR a.t a.s b.t b.s<0)
def risesM:List RowM→Bool
 | a :: b :: t=>lessM a b && risesM (b :: t)
 | _=>true
def checkM (M:List RowM):Int:=if M.any (fun r=>!r.ok) then 1 else if risesM M then (if (growsR [] M).2.1=0 then 0 else 22) else 12
def bytesM (M:List RowM):List UInt8:=deltaB (M.map (·.t))++deltaB (M.map (·.s))++putV (growsR [] M).1.length++partsB M (growsR [] M).1
def writeM (M:List RowM):List UInt8 × Int:=if M.length=0∨16<M.length then ([],4) else if checkM M=0 then (bytesM M,0) else ([],checkM M)
theorem rowsM_t:∀ (H:List RowH) (L:List (List CellM)),H.length=L.length→(rowsM H L).map (·.t)=H.map (·.t)
 | [],[],_=>rfl
 | h :: H,c :: L,e=>by
  show _ :: (rowsM H L).map (·.t)=_ :: H.map (·.t)
  rw[rowsM_t H L (by simpa using e)]
theorem rowsM_s:∀ (H:List RowH) (L:List (List CellM)),H.length=L.length→(rowsM H L).map (·.s)=H.map (·.s)
 | [],[],_=>rfl
 | h :: H,c :: L,e=>by
  show _ :: (rowsM H L).map (·.s)=_ :: H.map (·.s)
  rw[rowsM_s H L (by simpa using e)]
theorem rowsM_rises:∀ (H:List RowH) (L:List (List CellM)),H.length=L.length→risesM (rowsM H L)=risesH H
 | [],[],_=>rfl
 | [h],[c],_=>rfl
 | h :: h2 :: H,c :: c2 :: L,e=>by
  show (lessM ⟨h.t,h.s,c⟩ ⟨h2.t,h2.s,c2⟩ && risesM (rowsM (h2 :: H) (c2 :: L)))=(lessH h h2 && risesH (h2 :: H))
  rw[rowsM_rises (h2 :: H) (c2 :: L) (by simpa using e)]
  rfl
theorem writeR_M {H:List RowH} {L:List (List CellM)} (h:H.length=L.length):writeR H L=writeM (rowsM H L):=by
 have e1:checkR H L=checkM (rowsM H L):=by unfold checkR checkM;rw[rowsM_rises H L h]
 have e2:bytesG H L=bytesM (rowsM H L):=by unfold bytesG bytesM;rw[rowsM_t H L h,rowsM_s H L h]
 unfold writeR writeM
 rw[e1,e2,rowsM_len H L h]
end Go.Proofs.YtplnodcbbcdcgaaGreat.Lib0
namespace Go.Proofs.YtplnodcbbcdcgaaGreat.Lib0
open Go.RowKit Go.Proofs.YtplnodcbbcdcgaaGreatW.PrintWords Go.ChangeMaps
def readG (l:List UInt8):Option (List Int × List Int × List PartQ):=
 if (deltaR l 0 16).2.2≠0 then none else
 if (deltaR l (deltaR l 0 16).2.1 16).2.2≠0∨(deltaR l 0 16).1.length≠(deltaR l (deltaR l 0 16).2.1 16).1.length then none else
 match partsR l (deltaR l (deltaR l 0 16).2.1 16).2.1 with
 | none=>none
 | some (qs,q)=>
  if q≠(l.length:Int) then none else
  if qs.any (fun x=>decide (x.cs.length≠(deltaR l 0 16).1.length)) then none else
  if (writeM (builtM (deltaR l 0 16).1 (deltaR l (deltaR l 0 16).2.1 16).1 qs)).2≠0∨(writeM (builtM (deltaR l 0 16).1 (deltaR l (deltaR l 0 16).2.1 16).1 qs)).1≠l then none
  else some ((deltaR l 0 16).1,(deltaR l (deltaR l 0 16).2.1 16).1,qs)
theorem partsG_all (P:PartQ→Prop) (l:List UInt8) (hP:∀ a nm form cs,openR (getT l a 65536).1=some (form,cs)→P ⟨nm,(getT l a 65536).1,form,cs⟩):∀ (m:Nat) (a:Int) (acc qs:List PartQ) (q:Int),partsG l m a acc=some (qs,q)→(∀ x ∈ acc,P x)→∀ x ∈ qs,P x
 | 0,a,acc,qs,q,h,ha=>by
  rw[partsG_zero] at h
  injection h with h
  injection h with h1 h2
  subst h1
  exact ha
 | m+1,a,acc,qs,q,h,ha=>by
  rw[partsG_succ] at h
  split at h
  ·cases h
  ·split at h
   ·cases h
   ·split at h
    ·cases h
    ·rename_i form cs ho
     refine partsG_all P l hP m _ _ qs q h (fun x hx=>?_)
     rcases List.mem_append.1 hx with hx | hx
     ·exact ha x hx
     ·rw[List.mem_singleton] at hx
      subst hx
      exact hP _ _ _ _ ho
theorem partsR_open {l:List UInt8} {a:Int} {qs:List PartQ} {q:Int} (h:partsR l a=some (qs,q)):∀ x ∈ qs,openR x.l=some (x.form,x.cs):=by
 unfold partsR at h
 split at h
 ·cases h
 ·exact partsG_all (fun x=>openR x.l=some (x.form,x.cs)) l (fun a nm form cs ho=>ho) _ _ [] qs q h (by simp)
theorem partsG_len (l:List UInt8):∀ (m:Nat) (a:Int) (acc qs:List PartQ) (q:Int),partsG l m a acc=some (qs,q)→qs.length=acc.length+m
 | 0,a,acc,qs,q,h=>by
  rw[partsG_zero] at h
  injection h with h
  injection h with h1 h2
  rw[← h1];rfl
 | m+1,a,acc,qs,q,h=>by
  rw[partsG_succ] at h
  split at h
  ·cases h
  ·split at h
   ·cases h
   ·split at h
    ·cases h
    ·rename_i form cs ho
     have:=partsG_len l m _ _ qs q h
     rw[this,List.length_append,List.length_singleton]
     omega
theorem partsR_len {l:List UInt8} {a:Int} {qs:List PartQ} {q:Int} (h:partsR l a=some (qs,q)):qs.length≤12:=by
 unfold partsR at h
 split at h
 ·cases h
 ·rename_i hn
  have:=partsG_len l _ _ [] qs q h
  rw[List.length_nil] at this
  omega
theorem openR_cells {l:List UInt8} {form:Nat} {cs:List CellM} (h:openR l=some (form,cs)):(∀ c ∈ cs,c.kind=2→c.s.size≤40)∧(∀ c ∈ cs,I64 c.n)∧cs.length≤65536:=by
 have hf:=openR_fit h
 refine ⟨?_,by rw[hf];exact readR_I64 l,by rw[hf];exact readR_len l⟩
 unfold openR at h
 split at h
 ·split at h
  ·cases h
  ·rename_i h2
   injection h with h
   have h3:small (getA l 0).1=form:=congrArg Prod.fst h
   rw[h3,← hf] at h2
   have h4:(chunkB (kindOf form) cs).2=0:=Classical.byContradiction fun hn=>h2 (.inl hn)
   unfold chunkB at h4
   split at h4
   ·cases h4
   ·split at h4
    ·cases h4
    ·split at h4
     ·cases h4
     ·rename_i hr
      intro c hc hk
      have hrc:rightB (kindOf form) c=true:=by
       have:cs.any (fun c=>!rightB (kindOf form) c)=false:=by simpa using hr
       rw[List.any_eq_false] at this
       simpa using this c hc
      rcases right_kinds hrc with h5 | ⟨h5,h6 | h6⟩
      ·rw[hk] at h5;cases h5
      ·rw[← h5,hk] at h6;cases h6
      ·exact h6
 ·cases h
theorem cellsB_I64 (i:Nat) (qs:List PartQ) (h:∀ q ∈ qs,∀ c ∈ q.cs,I64 c.n):∀ c ∈ cellsB i qs,I64 c.n:=by
 intro c hc
 unfold cellsB at hc
 rw[List.mem_flatten] at hc
 obtain ⟨l,hl,hc⟩:=hc
 obtain ⟨q,hq,rfl⟩:=List.mem_map.1 hl
 unfold cellQ at hc
 split at hc
 ·simp at hc
 ·rw[List.mem_singleton] at hc
  subst hc
  show I64 (q.cs.getD i noCell).n
  rw[List.getD_eq_getElem?_getD]
  by_cases hi:i<q.cs.length
  ·rw[List.getElem?_eq_getElem hi]
   exact h q hq _ (List.getElem_mem hi)
  ·rw[List.getElem?_eq_none (by omega)]
   exact ⟨by decide,by decide⟩
theorem builtM_I64 (ts ss:List Int) (qs:List PartQ) (h:∀ q ∈ qs,∀ c ∈ q.cs,I64 c.n):∀ r ∈ builtM ts ss qs,∀ c ∈ r.cs,I64 c.n:=by
 intro r hr
 unfold builtM at hr
 obtain ⟨i,_,rfl⟩:=List.mem_map.1 hr
 exact cellsB_I64 i qs h
theorem decL_len (l:List UInt8):∀ (m i:Nat) (a b e:Int) (out:List Int),(decL l m i a b e out).1.length≤out.length+m
 | 0,i,a,b,e,out=>by rw[decL];simp
 | m+1,i,a,b,e,out=>by
  rw[decL]
  split
  ·simp
  ·exact Nat.le_trans (decL_len l m _ _ _ _ _) (by simp;omega)
theorem deltaR_len (l:List UInt8) (a:Int) (m:Nat):(deltaR l a m).1.length≤m:=by
 unfold deltaR
 split
 ·simp
 ·split
  ·simp
  ·have:=decL_len l (getA l a).1 0 0 0 (endA a (getA l a)) []
   simp at this
   omega
theorem builtM_len (ts ss:List Int) (qs:List PartQ):(builtM ts ss qs).length=ts.length:=by simp[builtM]
def grpCells (vt vs vp:Value) (on:Int) (vr:Value) (n lo hi:Int) (vz vb:Value):Array Value:=#[vt,vs,vp,.int .u32 on,.int .i32 0,.int .u32 0,vr,.int .i64 n,.int .i64 lo,.int .i64 hi,vz,vb]
structure GrpS (w:World) (g base:Nat) (ts ss:List Int) (ps:List PartM) (on:Int) (vr:Value) (lo hi:Int):Prop where
 ex:∃ (vt vs vp:Value) (Az:Option Addr) (cz:Nat) (Ab:Option Addr) (cb:Nat) (E:List BloomE) (L:List (List UInt8)),
  w.heap[g]?=some (.cells (grpCells vt vs vp on vr ts.length lo hi (.slice Az ps.length cz) (.slice Ab E.length cb)) 134)∧GrpAt w g base vt vs vp ts ss ps∧
  kz.R 176 w base (fun _=>True) (.slice Az ps.length cz) ((ps.map PartM.q).map zoneQ)∧kb.R 181 w base (fun _=>True) (.slice Ab E.length cb) E∧
  BlR w base E L∧bloomsM E L=bloomsQ (ps.map PartM.q)∧ps.length≤cz∧E.length≤cb
end Go.Proofs.YtplnodcbbcdcgaaGreat.Lib0

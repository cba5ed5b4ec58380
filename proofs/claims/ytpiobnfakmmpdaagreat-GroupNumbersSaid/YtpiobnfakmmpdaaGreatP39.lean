import Derived.Test.YtpiobnfakmmpdaaGreatP37
set_option linter.unusedVariables false
set_option linter.unusedSimpArgs false
namespace Go.Proofs.YtpiobnfakmmpdaaGreat.Lib0
open Go.RowKit Go.Proofs.YtpiobnfakmmpdaaGreatW.PrintWords Go.ChangeMaps
structure TamS (w V:World) (rb:Nat) (t s:Int) (cs:List CellM):Prop where
 ex:∃ A c,V.heap[rb]?=some (.cells #[.int .i64 t,.int .i64 s,.slice A cs.length c] 35)∧kc.R 37 V w.heap.size (fun _=>True) (.slice A cs.length c) cs∧cs.length≤c
 K:Keep1 rb w V
theorem TamS.below {w V V':World} {rb:Nat} {t s:Int} {cs:List CellM} (h:TamS w V rb t s cs) (hb:Below V.heap.size V V'):TamS w V' rb t s cs:=by
 obtain ⟨A,c,h1,h2,h3⟩:=h.ex
 exact ⟨⟨A,c,(hb.block rb (Array.getElem?_eq_some_iff.1 h1).1).trans h1,Kd.R_below h2 hb,h3⟩,h.K.trans (Keep1.of_below hb)⟩
end Go.Proofs.YtpiobnfakmmpdaaGreat.Lib0
namespace Go.Proofs.YtpiobnfakmmpdaaGreat.Lib0
open Go.RowKit Go.Proofs.YtpiobnfakmmpdaaGreatW.PrintWords Go.ChangeMaps
end Go.Proofs.YtpiobnfakmmpdaaGreat.Lib0
namespace Go.Proofs.YtpiobnfakmmpdaaGreat.Lib0
open Go.RowKit Go.Proofs.YtpiobnfakmmpdaaGreatW.PrintWords Go.ChangeMaps
def lessM (a b:RowM):Bool:=decide (cmpR a.t a.s b.t b.s<0)
def risesM:List RowM→Bool
 | a :: b :: t=>lessM a b && risesM (b :: t)
 | _=>true
def checkM (M:List RowM):Int:=if M.any (fun r=>!r.ok) then 1 else if risesM M then (if (growsR [] M).2.1=0 then 0 else 22) else 12
def bytesM (M:List RowM):List UInt8:=deltaB (M.map (·.t))++deltaB (M.map (·.s))++putV (growsR [] M).1.length++partsB M (growsR [] M).1
def writeM (M:List RowM):List UInt8 × Int:=if M.length=0∨16<M.length then ([],4) else if checkM M=0 then (bytesM M,0) else ([],checkM M)
theorem rowsM_t:∀ (H:List RowH) (L:List (List CellM)),H.length=L.length→(rowsM H L).map (·.t)=H.map (·.t)
 | [],[],_=>rfl
 | h :: H,c :: L,e=>by
  show _ :: (rowsM H L).map (·.t)=_ :: H.map (·.t)
  rw[rowsM_t H L (by simpa using e)]
theorem rowsM_s:∀ (H:List RowH) (L:List (List CellM)),H.length=L.length→(rowsM H L).map (·.s)=H.map (·.s)
 | [],[],_=>rfl
 | h :: H,c :: L,e=>by
  show _ :: (rowsM H L).map (·.s)=_ :: H.map (·.s)
  rw[rowsM_s H L (by simpa using e)]
theorem rowsM_rises:∀ (H:List RowH) (L:List (List CellM)),H.length=L.length→risesM (rowsM H L)=risesH H
 | [],[],_=>rfl
 | [h],[c],_=>rfl
 | h :: h2 :: H,c :: c2 :: L,e=>by
  show (lessM ⟨h.t,h.s,c⟩ ⟨h2.t,h2.s,c2⟩ && risesM (rowsM (h2 :: H) (c2 :: L)))=(lessH h h2 && risesH (h2 :: H))
  rw[rowsM_rises (h2 :: H) (c2 :: L) (by simpa using e)]
  rfl
theorem writeR_M {H:List RowH} {L:List (List CellM)} (h:H.length=L.length):writeR H L=writeM (rowsM H L):=by
 have e1:checkR H L=checkM (rowsM H L):=by unfold checkR checkM;rw[rowsM_rises H L h]
 have e2:bytesG H L=bytesM (rowsM H L):=by unfold bytesG bytesM;rw[rowsM_t H L h,rowsM_s H L h]
 unfold writeR writeM
 rw[e1,e2,rowsM_len H L h]
end Go.Proofs.YtpiobnfakmmpdaaGreat.Lib0
namespace Go.Proofs.YtpiobnfakmmpdaaGreat.Lib0
open Go.RowKit Go.Proofs.YtpiobnfakmmpdaaGreatW.PrintWords Go.ChangeMaps
def readG (l:List UInt8):Option (List Int × List Int × List PartQ):=
 if (deltaR l 0 16).2.2≠0 then none else
 if (deltaR l (deltaR l 0 16).2.1 16).2.2≠0∨(deltaR l 0 16).1.length≠(deltaR l (deltaR l 0 16).2.1 16).1.length then none else
 match partsR l (deltaR l (deltaR l 0 16).2.1 16).2.1 with
 | none=>none
 | some (qs,q)=>
  if q≠(l.length:Int) then none else
  if qs.any (fun x=>decide (x.cs.length≠(deltaR l 0 16).1.length)) then none else
  if (writeM (builtM (deltaR l 0 16).1 (deltaR l (deltaR l 0 16).2.1 16).1 qs)).2≠0∨(writeM (builtM (deltaR l 0 16).1 (deltaR l (deltaR l 0 16).2.1 16).1 qs)).1≠l then none
  else some ((deltaR l 0 16).1,(deltaR l (deltaR l 0 16).2.1 16).1,qs)
theorem partsG_all (P:PartQ→Prop) (l:List UInt8) (hP:∀ a nm form cs,openR (getT l a 65536).1=some (form,cs)→P ⟨nm,(getT l a 65536).1,form,cs⟩):∀ (m:Nat) (a:Int) (acc qs:List PartQ) (q:Int),partsG l m a acc=some (qs,q)→(∀ x ∈ acc,P x)→∀ x ∈ qs,P x
 | 0,a,acc,qs,q,h,ha=>by
  rw[partsG_zero] at h
  injection h with h
  injection h with h1 h2
  subst h1
  exact ha
 | m+1,a,acc,qs,q,h,ha=>by
  rw[partsG_succ] at h
  split at h
  ·cases h
  ·split at h
   ·cases h
   ·split at h
    ·cases h
    ·rename_i form cs ho
     refine partsG_all P l hP m _ _ qs q h (fun x hx=>?_)
     rcases List.mem_append.1 hx with hx | hx
     ·exact ha x hx
     ·rw[List.mem_singleton] at hx
      subst hx
      exact hP _ _ _ _ ho
theorem partsR_open {l:List UInt8} {a:Int} {qs:List PartQ} {q:Int} (h:partsR l a=some (qs,q)):∀ x ∈ qs,openR x.l=some (x.form,x.cs):=by
 unfold partsR at h
 split at h
 ·cases h
 ·exact partsG_all (fun x=>openR x.l=some (x.form,x.cs)) l (fun a nm form cs ho=>ho) _ _ [] qs q h (by simp)
theorem partsG_len (l:List UInt8):∀ (m:Nat) (a:Int) (acc qs:List PartQ) (q:Int),partsG l m a acc=some (qs,q)→qs.length=acc.length+m
 | 0,a,acc,qs,q,h=>by
  rw[partsG_zero] at h
  injection h with h
  injection h with h1 h2
  rw[← h1];rfl
 | m+1,a,acc,qs,q,h=>by
  rw[partsG_succ] at h
  split at h
  ·cases h
  ·split at h
   ·cases h
   ·split at h
    ·cases h
    ·rename_i form cs ho
     have:=partsG_len l m _ _ qs q h
     rw[this,List.length_append,List.length_singleton]
     omega
theorem partsR_len {l:List UInt8} {a:Int} {qs:List PartQ} {q:Int} (h:partsR l a=some (qs,q)):qs.length≤12:=by
 unfold partsR at h
 split at h
 ·cases h
 ·rename_i hn
  have:=partsG_len l _ _ [] qs q h
  rw[List.length_nil] at this
  omega
theorem openR_cells {l:List UInt8} {form:Nat} {cs:List CellM} (h:openR l=some (form,cs)):(∀ c ∈ cs,c.kind=2→c.s.size≤40)∧(∀ c ∈ cs,I64 c.n)∧cs.length≤65536:=by
 have hf:=openR_fit h
 refine ⟨?_,by rw[hf];exact readR_I64 l,by rw[hf];exact readR_len l⟩
 unfold openR at h
 split at h
 ·split at h
  ·cases h
  ·rename_i h2
   injection h with h
   have h3:small (getA l 0).1=form:=congrArg Prod.fst h
   rw[h3,← hf] at h2
   have h4:(chunkB (kindOf form) cs).2=0:=Classical.byContradiction fun hn=>h2 (.inl hn)
   unfold chunkB at h4
   split at h4
   ·cases h4
   ·split at h4
    ·cases h4
    ·split at h4
     ·cases h4
     ·rename_i hr
      intro c hc hk
      have hrc:rightB (kindOf form) c=true:=by
       have:cs.any (fun c=>!rightB (kindOf form) c)=false:=by simpa using hr
       rw[List.any_eq_false] at this
       simpa using this c hc
      rcases right_kinds hrc with h5 | ⟨h5,h6 | h6⟩
      ·rw[hk] at h5;cases h5
      ·rw[← h5,hk] at h6;cases h6
      ·exact h6
 ·cases h
theorem cellsB_I64 (i:Nat) (qs:List PartQ) (h:∀ q ∈ qs,∀ c ∈ q.cs,I64 c.n):∀ c ∈ cellsB i qs,I64 c.n:=by
 intro c hc
 unfold cellsB at hc
 rw[List.mem_flatten] at hc
 obtain ⟨l,hl,hc⟩:=hc
 obtain ⟨q,hq,rfl⟩:=List.mem_map.1 hl
 unfold cellQ at hc
 split at hc
 ·simp at hc
 ·rw[List.mem_singleton] at hc
  subst hc
  show I64 (q.cs.getD i noCell).n
  rw[List.getD_eq_getElem?_getD]
  by_cases hi:i<q.cs.length
  ·rw[List.getElem?_eq_getElem hi]
   exact h q hq _ (List.getElem_mem hi)
  ·rw[List.getElem?_eq_none (by omega)]
   exact ⟨by decide,by decide⟩
theorem builtM_I64 (ts ss:List Int) (qs:List PartQ) (h:∀ q ∈ qs,∀ c ∈ q.cs,I64 c.n):∀ r ∈ builtM ts ss qs,∀ c ∈ r.cs,I64 c.n:=by
 intro r hr
 unfold builtM at hr
 obtain ⟨i,_,rfl⟩:=List.mem_map.1 hr
 exact cellsB_I64 i qs h
theorem decL_len (l:List UInt8):∀ (m i:Nat) (a b e:Int) (out:List Int),(decL l m i a b e out).1.length≤out.length+m
 | 0,i,a,b,e,out=>by rw[decL];simp
 | m+1,i,a,b,e,out=>by
  rw[decL]
  split
  ·simp
  ·exact Nat.le_trans (decL_len l m _ _ _ _ _) (by simp;omega)
theorem deltaR_len (l:List UInt8) (a:Int) (m:Nat):(deltaR l a m).1.length≤m:=by
 unfold deltaR
 split
 ·simp
 ·split
  ·simp
  ·have:=decL_len l (getA l a).1 0 0 0 (endA a (getA l a)) []
   simp at this
   omega
theorem builtM_len (ts ss:List Int) (qs:List PartQ):(builtM ts ss qs).length=ts.length:=by simp[builtM]
def grpCells (vt vs vp:Value) (on:Int) (vr:Value) (n lo hi:Int) (vz vb:Value):Array Value:=#[vt,vs,vp,.int .u32 on,.int .i32 0,.int .u32 0,vr,.int .i64 n,.int .i64 lo,.int .i64 hi,vz,vb]
structure GrpS (w:World) (g base:Nat) (ts ss:List Int) (ps:List PartM) (on:Int) (vr:Value) (lo hi:Int):Prop where
 ex:∃ (vt vs vp:Value) (Az:Option Addr) (cz:Nat) (Ab:Option Addr) (cb:Nat) (E:List BloomE) (L:List (List UInt8)),
  w.heap[g]?=some (.cells (grpCells vt vs vp on vr ts.length lo hi (.slice Az ps.length cz) (.slice Ab E.length cb)) 129)∧GrpAt w g base vt vs vp ts ss ps∧
  kz.R 147 w base (fun _=>True) (.slice Az ps.length cz) ((ps.map PartM.q).map zoneQ)∧kb.R 152 w base (fun _=>True) (.slice Ab E.length cb) E∧
  BlR w base E L∧bloomsM E L=bloomsQ (ps.map PartM.q)∧ps.length≤cz∧E.length≤cb
end Go.Proofs.YtpiobnfakmmpdaaGreat.Lib0

import Derived.Test.YtcmffaejcnbheaaGreatP34
import Derived.Test.YtcmffaejcnbheaaGreatP35
import Derived.Test.YtcmffaejcnbheaaGreatP40
set_option linter.unusedVariables false
set_option linter.unusedSimpArgs false
namespace Go.Proofs.YtcmffaejcnbheaaGreat.Lib0
open Go.RowKit Go.Proofs.YtcmffaejcnbheaaGreatW.PrintWords Go.ChangeMaps
theorem writeM_ok {M:List RowM} (h:(writeM M).2=0):0<M.length∧M.length≤16∧checkM M=0∧writeM M=(bytesM M,0):=by
 unfold writeM at h ⊢
 split at h
 ·simp at h
 ·rename_i h1
  split at h
  ·rename_i h2
   rw[if_neg h1,if_pos h2]
   exact ⟨by omega,by omega,h2,rfl⟩
  ·rename_i h2
   exact absurd h h2
structure ReadF (l:List UInt8) (ts ss:List Int) (qs:List PartQ):Prop where
 ss_:ss.length=ts.length
 n0:0<ts.length
 n16:ts.length≤16
 ps12:qs.length≤12
 cs:∀ q ∈ qs,q.cs.length=ts.length
 op:∀ q ∈ qs,openR q.l=some (q.form,q.cs)
 wr:writeM (builtM ts ss qs)=(l,0)
theorem readG_some {l:List UInt8} {ts ss:List Int} {qs:List PartQ} (h:readG l=some (ts,ss,qs)):ReadF l ts ss qs:=by
 unfold readG at h
 split at h
 ·cases h
 ·split at h
  ·cases h
  ·rename_i h0 h1
   split at h
   ·cases h
   ·rename_i qs' q hp
    split at h
    ·cases h
    ·split at h
     ·cases h
     ·rename_i h2 h3
      split at h
      ·cases h
      ·rename_i h4
       injection h with h
       injection h with e1 h
       injection h with e2 e3
       subst e1 e2 e3
       have h5:=writeM_ok (M:=builtM (deltaR l 0 16).1 (deltaR l (deltaR l 0 16).2.1 16).1 qs') (by omega)
       rw[builtM_len] at h5
       refine ⟨by omega,h5.1,h5.2.1,partsR_len hp,fun q hq=>?_,partsR_open hp,?_⟩
       ·have h6:¬ ∃ x,x ∈ qs'∧decide (x.cs.length≠(deltaR l 0 16).1.length)=true:=by
         intro hx
         exact h3 (List.any_eq_true.2 hx)
        exact Decidable.byContradiction fun hn=>h6 ⟨q,hq,by simp[hn]⟩
       ·exact Prod.ext (Decidable.byContradiction fun hn=>h4 (.inr hn)) (Decidable.byContradiction fun hn=>h4 (.inl hn))
theorem ReadF.fit {l:List UInt8} {ts ss:List Int} {ps:List PartM} (h:ReadF l ts ss (ps.map PartM.q)):Fit ts ss ps:=
 ⟨h.ss_,h.n0,h.n16,by have:=h.ps12;simpa using this,fun p hp=>h.cs p.q (List.mem_map_of_mem hp)⟩
def stL (a b s t:Bool):List ColM:=(if a then [⟨colT 0,1⟩] else [])++(if b then [⟨colT 1,1⟩] else [])++(if s then [⟨colT 2,2⟩] else [])++(if t then [⟨colT 3,2⟩] else [])
theorem stL_len (a b s t:Bool):(stL a b s t).length≤12:=by cases a<;>cases b<;>cases s<;>cases t<;>simp[stL]
theorem st_step (S T:List ColM) (nm:ByteArray) (kd:Int) (c:CellM) (cs:List CellM) (h1:c.col=nm) (h2:c.kind=kd) (h:(if hasL S nm then (if kindAt S (atL S nm)=kd then some S else none) else some (insL S (atL S nm) ⟨nm,kd⟩))=some T):growC S (c :: cs)=growC T cs:=by
 rw[growC,h1,h2]
 split at h
 ·rename_i a
  rw[if_pos a]
  split at h
  ·rename_i b
   rw[if_pos b]
   injection h with h
   rw[h]
  ·cases h
 ·rename_i a
  rw[if_neg a]
  injection h with h
  rw[h]
set_option maxRecDepth 100000 in
theorem st_a (a b s t:Bool) (c:CellM) (cs:List CellM) (h1:c.col=colT 0) (h2:c.kind=1):growC (stL a b s t) (c :: cs)=growC (stL true b s t) cs:=
 st_step _ _ _ _ c cs h1 h2 (by cases a<;>cases b<;>cases s<;>cases t<;>kernel_rfl)
set_option maxRecDepth 100000 in
theorem st_b (a b s t:Bool) (c:CellM) (cs:List CellM) (h1:c.col=colT 1) (h2:c.kind=1):growC (stL a b s t) (c :: cs)=growC (stL a true s t) cs:=
 st_step _ _ _ _ c cs h1 h2 (by cases a<;>cases b<;>cases s<;>cases t<;>kernel_rfl)
set_option maxRecDepth 100000 in
theorem st_s (a b s t:Bool) (c:CellM) (cs:List CellM) (h1:c.col=colT 2) (h2:c.kind=2):growC (stL a b s t) (c :: cs)=growC (stL a b true t) cs:=
 st_step _ _ _ _ c cs h1 h2 (by cases a<;>cases b<;>cases s<;>cases t<;>kernel_rfl)
set_option maxRecDepth 100000 in
theorem st_t (a b s t:Bool) (c:CellM) (cs:List CellM) (h1:c.col=colT 3) (h2:c.kind=2):growC (stL a b s t) (c :: cs)=growC (stL a b s true) cs:=
 st_step _ _ _ _ c cs h1 h2 (by cases a<;>cases b<;>cases s<;>cases t<;>kernel_rfl)
def OneT (i:Nat) (l:List CellM):Prop:=l = []∨∃ c:CellM,l = [c]∧c.col=colT i∧c.kind=(if i<2 then 1 else 2)∧fineB c=true∧I64 c.n
set_option maxRecDepth 100000 in
theorem colT_name (i:Nat) (h:i<4):nameB (colT i)=true:=by
 have h0:nameB (colT 0)=true:=by kernel_rfl
 have h1:nameB (colT 1)=true:=by kernel_rfl
 have h2:nameB (colT 2)=true:=by kernel_rfl
 have h3:nameB (colT 3)=true:=by kernel_rfl
 rcases i with _ | _ | _ | _ | i
 ·exact h0
 ·exact h1
 ·exact h2
 ·exact h3
 ·omega
set_option maxRecDepth 100000 in
theorem colT_less (i j:Nat) (h:i<j) (hj:j<4):lessS (colT i) (colT j)=true:=by
 have h01:lessS (colT 0) (colT 1)=true:=by kernel_rfl
 have h02:lessS (colT 0) (colT 2)=true:=by kernel_rfl
 have h03:lessS (colT 0) (colT 3)=true:=by kernel_rfl
 have h12:lessS (colT 1) (colT 2)=true:=by kernel_rfl
 have h13:lessS (colT 1) (colT 3)=true:=by kernel_rfl
 have h23:lessS (colT 2) (colT 3)=true:=by kernel_rfl
 rcases i with _ | _ | _ | i<;>rcases j with _ | _ | _ | _ | j<;>first | omega | assumption
theorem cut3_size (s:ByteArray):(cut3 s).size≤3:=by
 unfold cut3
 split
 ·rw[ByteArray.size_extract];omega
 ·omega
theorem tameC_one (i:Nat) (c:CellM) (hi:i<4):OneT i (tameC i c):=by
 unfold tameC
 split
 ·exact .inl rfl
 ·have hn:=colT_name i hi
  split
  ·rename_i h2
   have hm:=Int.tmod_eq_emod (a:=c.n) (b:=10)
   have hb1:-10<c.n.tmod 10:=by have:=Int.lt_tmod_of_pos c.n (b:=10) (by omega);omega
   have hb2:c.n.tmod 10<10:=Int.tmod_lt_of_pos c.n (b:=10) (by omega)
   refine .inr ⟨_,rfl,rfl,by rw[if_pos h2],?_,?_⟩
   ·unfold fineB;simp only[if_true,hn,Bool.true_and];rfl
   ·show -9223372036854775808≤c.n.tmod 10∧c.n.tmod 10≤9223372036854775807
    omega
  ·rename_i h2
   refine .inr ⟨_,rfl,rfl,by rw[if_neg h2],?_,?_⟩
   ·have:=cut3_size c.s
    unfold fineB
    simp only[hn,Bool.true_and]
    rw[if_neg (by decide)]
    simp
    omega
   ·show -9223372036854775808≤(0:Int)∧(0:Int)≤9223372036854775807
    omega
theorem tameCs_four (l:List CellM):∃ x0 x1 x2 x3,OneT 0 x0∧OneT 1 x1∧OneT 2 x2∧OneT 3 x3∧tameCs l 4=x0++x1++x2++x3:=by
 have h:∀ i,i<4→OneT i (if h:i<l.length then tameC i l[i] else []):=fun i hi=>by
  split
  ·exact tameC_one i _ hi
  ·exact .inl rfl
 exact ⟨_,_,_,_,h 0 (by omega),h 1 (by omega),h 2 (by omega),h 3 (by omega),by simp only[tameCs,List.nil_append]⟩
theorem grow_four (a b s t:Bool) {x0 x1 x2 x3:List CellM} (h0:OneT 0 x0) (h1:OneT 1 x1) (h2:OneT 2 x2) (h3:OneT 3 x3):∃ a' b' s' t',growC (stL a b s t) (x0++x1++x2++x3)=some (stL a' b' s' t'):=by
 have e3:∀ a b s t,∃ a' b' s' t',growC (stL a b s t) x3=some (stL a' b' s' t'):=fun a b s t=>by
  rcases h3 with rfl | ⟨c,rfl,k1,k2,_⟩
  ·exact ⟨a,b,s,t,by rw[growC]⟩
  ·exact ⟨a,b,s,true,by rw[st_t a b s t c [] k1 k2,growC]⟩
 have e2:∀ a b s t,∃ a' b' s' t',growC (stL a b s t) (x2++x3)=some (stL a' b' s' t'):=fun a b s t=>by
  rcases h2 with rfl | ⟨c,rfl,k1,k2,_⟩
  ·exact e3 a b s t
  ·rw[List.singleton_append,st_s a b s t c _ k1 k2];exact e3 _ _ _ _
 have e1:∀ a b s t,∃ a' b' s' t',growC (stL a b s t) (x1++(x2++x3))=some (stL a' b' s' t'):=fun a b s t=>by
  rcases h1 with rfl | ⟨c,rfl,k1,k2,_⟩
  ·exact e2 a b s t
  ·rw[List.singleton_append,st_b a b s t c _ k1 k2];exact e2 _ _ _ _
 rw[List.append_assoc,List.append_assoc]
 rcases h0 with rfl | ⟨c,rfl,k1,k2,_⟩
 ·exact e1 a b s t
 ·rw[List.singleton_append,st_a a b s t c _ k1 k2];exact e1 _ _ _ _
theorem cellsRB_c (p:Option ByteArray) (c:CellM) (t:List CellM):cellsRB p (c :: t)=(fineB c && (match p with | none=>true | some q=>lessS q c.col) && cellsRB (some c.col) t):=rfl
theorem cells_four {x0 x1 x2 x3:List CellM} (h0:OneT 0 x0) (h1:OneT 1 x1) (h2:OneT 2 x2) (h3:OneT 3 x3):cellsRB none (x0++x1++x2++x3)=true∧(x0++x1++x2++x3).length≤8∧∀ c ∈ x0++x1++x2++x3,I64 c.n:=by
 have g:∀ j,j<4→∀ p:Option ByteArray,(p=none∨∃ i,i<j∧p=some (colT i))→(match p with | none=>true | some q=>lessS q (colT j))=true:=fun j hj p hp=>by
  rcases hp with rfl | ⟨i,hi,rfl⟩
  ·rfl
  ·exact colT_less i j hi hj
 rw[List.append_assoc,List.append_assoc]
 have e3:∀ p,(p=none∨∃ i,i<3∧p=some (colT i))→cellsRB p x3=true∧x3.length≤1∧∀ c ∈ x3,I64 c.n:=fun p hp=>by
  rcases h3 with rfl | ⟨c,rfl,k1,k2,k3,k4⟩
  ·exact ⟨rfl,by simp,by simp⟩
  ·refine ⟨?_,by simp,by simpa using k4⟩
   rw[cellsRB_c,k3,k1,g 3 (by omega) p hp];rfl
 have up:∀ {i j:Nat} {p:Option ByteArray},i≤j→(p=none∨∃ q,q<i∧p=some (colT q))→(p=none∨∃ q,q<j∧p=some (colT q)):=fun h hp=>by
  rcases hp with rfl | ⟨q,hq,rfl⟩
  ·exact .inl rfl
  ·exact .inr ⟨q,by omega,rfl⟩
 have st:∀ (j:Nat) (hj:j<4) (x y:List CellM) (m:Nat),OneT j x→(∀ p,(p=none∨∃ q,q<j+1∧p=some (colT q))→cellsRB p y=true∧y.length≤m∧∀ c ∈ y,I64 c.n)→
   ∀ p,(p=none∨∃ q,q<j∧p=some (colT q))→cellsRB p (x++y)=true∧(x++y).length≤m+1∧∀ c ∈ x++y,I64 c.n:=fun j hj x y m hx hy p hp=>by
  rcases hx with rfl | ⟨c,rfl,k1,k2,k3,k4⟩
  ·have:=hy p (up (by omega) hp)
   exact ⟨this.1,by have:=this.2.1;simp;omega,this.2.2⟩
  ·have:=hy (some (colT j)) (.inr ⟨j,by omega,rfl⟩)
   refine ⟨?_,by have:=this.2.1;simp;omega,fun d hd=>?_⟩
   ·rw[List.singleton_append,cellsRB_c,k3,k1,g j hj p hp,this.1];rfl
   ·rcases List.mem_append.1 hd with h | h
    ·rw[List.mem_singleton.1 h];exact k4
    ·exact this.2.2 d h
 have e:=st 0 (by omega) x0 _ 3 h0 (st 1 (by omega) x1 _ 2 h1 (st 2 (by omega) x2 _ 1 h2 e3)) none (.inl rfl)
 exact ⟨e.1,by omega,e.2.2⟩
theorem growsF_tame (M:List RowM) (h:∀ r ∈ M,rowB r.t r.s r.cs=true∧∃ l,r.cs=tameCs l 4):∀ (a b s t:Bool) (k:Nat),∃ a' b' s' t',growsF (stL a b s t) k M=(stL a' b' s' t',0,0):=by
 induction M with
 | nil=>exact fun a b s t k=>⟨a,b,s,t,rfl⟩
 | cons r M ih=>
  intro a b s t k
  obtain ⟨h1,l,h2⟩:=h r (by simp)
  obtain ⟨x0,x1,x2,x3,g0,g1,g2,g3,e⟩:=tameCs_four l
  obtain ⟨a',b',s',t',hg⟩:=grow_four a b s t g0 g1 g2 g3
  have hr:growR (stL a b s t) r.cs=(stL a' b' s' t',0):=by
   unfold growR
   rw[h2,e,hg]
   dsimp only
   rw[if_pos (stL_len _ _ _ _)]
  rw[growsF,if_pos h1,hr,if_pos rfl]
  exact ih (fun q hq=>h q (by simp[hq])) a' b' s' t' (k+1)
theorem risesM_true:∀ (d:List RowM),(∀ i (h:i+1<d.length),lessM d[i] d[i+1]=true)→risesM d=true
 | [],_=>rfl
 | [_],_=>rfl
 | a :: b :: t,h=>by
  have h0:=h 0 (by simp)
  simp only[List.getElem_cons_zero,List.getElem_cons_succ] at h0
  rw[risesM,h0,Bool.true_and]
  exact risesM_true (b :: t) (fun i hi=>by have:=h (i+1) (by simp at hi ⊢;omega);simpa using this)
theorem rising17_row (M:List RowM) (n:Nat) (hn:n≤1000):∀ r ∈ risingM M n,rowB r.t r.s r.cs=true∧(∃ l,r.cs=tameCs l 4)∧∀ c ∈ r.cs,I64 c.n:=by
 intro r hr
 obtain ⟨i,hi,rfl⟩:=List.mem_map.1 hr
 rw[List.mem_range] at hi
 obtain ⟨x0,x1,x2,x3,g0,g1,g2,g3,e⟩:=tameCs_four ((M[i]?).elim [] (·.cs))
 obtain ⟨e1,e2,e3⟩:=cells_four g0 g1 g2 g3
 rw[← e] at e1 e2 e3
 have ht:=riseT_range M (i+1)
 refine ⟨?_,⟨_,rfl⟩,e3⟩
 show (headRB (riseT M (i+1)) i (tameCs _ 4).length && cellsRB none (tameCs _ 4))=true
 rw[e1,Bool.and_true]
 unfold headRB
 simp only[Bool.and_eq_true,decide_eq_true_eq]
 omega
theorem risingM_row (M:List RowM) (n:Nat) (hn:n≤16):∀ r ∈ risingM M n,rowB r.t r.s r.cs=true∧(∃ l,r.cs=tameCs l 4)∧∀ c ∈ r.cs,I64 c.n:=rising17_row M n (by omega)
theorem risingM_len (M:List RowM) (n:Nat):(risingM M n).length=n:=by simp[risingM]
theorem risingM_get (M:List RowM) (n i:Nat) (h:i<(risingM M n).length):(risingM M n)[i]=riseRow M i:=by simp[risingM]
theorem risingM_check (M:List RowM) (n:Nat) (hn:n≤16):checkM (risingM M n)=0:=by
 have hr:=risingM_row M n hn
 have h1:¬ (risingM M n).any (fun r=>!r.ok)=true:=by
  intro h
  obtain ⟨r,h1,h2⟩:=List.any_eq_true.1 h
  have:r.ok=true:=(hr r h1).1
  rw[this] at h2
  cases h2
 have h2:risesM (risingM M n)=true:=risesM_true _ (fun i h=>by
  rw[risingM_get,risingM_get]
  have hs:=stepI_range ((M[i+1]?).elim 0 (·.t))
  have ht:riseT M (i+1+1)=riseT M (i+1)+stepI ((M[i+1]?).elim 0 (·.t)):=rfl
  unfold lessM riseRow
  dsimp only
  rw[ht]
  unfold cmpR orZ cmpZ
  simp only[decide_eq_true_eq]
  split<;>(try split)<;>(try split)<;>(try split)<;>(try split)<;>omega)
 obtain ⟨a,b,s,t,h3⟩:=growsF_tame (risingM M n) (fun r h=>⟨(hr r h).1,(hr r h).2.1⟩) false false false false 0
 unfold checkM
 rw[if_neg h1,if_pos h2,if_pos]
 unfold growsR
 rw[if_pos (by rfl)]
 show (growsF (stL false false false false) 0 (risingM M n)).2.1=0
 rw[h3]
theorem risingM_write (M:List RowM) (n:Nat) (h0:0<n) (hn:n≤16):writeM (risingM M n)=(bytesM (risingM M n),0):=by
 unfold writeM
 rw[risingM_len,if_neg (by omega),if_pos (risingM_check M n hn)]
theorem built_lens {H:List RowH} {L:List (List CellM)} {ts ss:List Int} {qs:List PartQ} (hl:H.length=L.length) (h:rowsM H L=builtM ts ss qs) (hq:qs.length≤12):H.length=ts.length∧∀ x ∈ L,x.length≤12:=by
 refine ⟨?_,fun x hx=>?_⟩
 ·have:=congrArg List.length h
  rw[rowsM_len H L hl,builtM_len] at this
  exact this
 ·rw[← rowsM_cs H L hl,h] at hx
  obtain ⟨r,hr,rfl⟩:=List.mem_map.1 hx
  unfold builtM at hr
  obtain ⟨i,_,rfl⟩:=List.mem_map.1 hr
  exact Nat.le_trans (cellsB_len i qs) hq
def oneA:ByteArray:=⟨#[97]⟩
def knownM:List RowM:=[⟨1,0,[⟨oneA,1,5,⟨#[]⟩⟩]⟩,⟨1,1,[]⟩]
theorem known_I64:∀ r ∈ knownM,∀ c ∈ r.cs,I64 c.n:=by
 intro r hr c hc
 rcases List.mem_cons.1 hr with rfl | hr
 ·rcases List.mem_cons.1 hc with rfl | hc
  ·exact ⟨by decide,by decide⟩
  ·cases hc
 ·rcases List.mem_cons.1 hr with rfl | hr
  ·cases hc
  ·cases hr
set_option maxRecDepth 100000 in
theorem known_write:(writeM knownM).2=0:=by kernel_rfl
set_option maxRecDepth 100000 in
theorem known_read0:(readG (writeM knownM).1).map (fun x=>(x.1.length==2) && eqMs (builtM x.1 x.2.1 x.2.2) knownM)=some true:=by kernel_rfl
set_option maxRecDepth 100000 in
theorem known_len:(writeM knownM).1.length≤100:=by
 have h:decide ((writeM knownM).1.length≤100)=true:=by kernel_rfl
 exact of_decide_eq_true h
theorem known_read {x:List Int × List Int × List PartQ} (h:readG (writeM knownM).1=some x):x.1.length=2∧eqMs (builtM x.1 x.2.1 x.2.2) knownM=true:=by
 have h0:=known_read0
 rw[h] at h0
 simpa using h0
theorem known_some:readG (writeM knownM).1≠none:=by
 intro h
 have h0:=known_read0
 rw[h] at h0
 cases h0
end Go.Proofs.YtcmffaejcnbheaaGreat.Lib0
namespace Go.Proofs.YtcmffaejcnbheaaGreat.Lib0
open Go.RowKit Go.Proofs.YtcmffaejcnbheaaGreatW.PrintWords Go.ChangeMaps
set_option maxHeartbeats 3200000 in
set_option maxRecDepth 100000 in
theorem law16_known (w:World):Calls Tryz.prog 10 #[] w fun e w'=>e = .returned (.bool true)∧Below w.heap.size w w':=by
 have HW0:=mk0 (group_Write none 0 [] [] w ⟨rfl,by simp,fun h=>by simp at h⟩ ⟨rfl,fun i h1=>by simp at h1⟩ (fun r hr=>by simp[rowsM] at hr))
 simp only[List.length_nil] at HW0
 rw[show writeR [] []=([],4) from rfl] at HW0
 go_enter Tryz.func10,Tryz.ntmps10
 go_wp2_with fail
 (with_reducible refine HW0.out.mono ?_)
 rintro e w1 ⟨v1,rfl,hr1,hb1⟩
 obtain ⟨A1,c1,rfl⟩:=Kd.R_slice hr1
 have B1:=mk0 hb1
 clear hr1 hb1 HW0
 have HN:=mk0 (keep_Num oneA 5 w1)
 unfold oneA at HN
 go_wp2_with fail
 (with_reducible refine HN.out.mono ?_)
 rintro e w2 ⟨rfl,hb2⟩
 have B2:=mk0 hb2
 clear hb2 HN
 have hn3:=heap_alloc_new w2 (.cells #[.string ⟨#[97]⟩,.int .i64 1,.int .i64 5,.string ⟨#[]⟩] 78)
 have B3:=mk0 (below_alloc (Below.refl w2.heap.size w2) (.cells #[.string ⟨#[97]⟩,.int .i64 1,.int .i64 5,.string ⟨#[]⟩] 78))
 have hc3:=C_of (kc_flat.R_new (base:=0) (xs:=[⟨⟨#[97]⟩,1,5,⟨#[]⟩⟩]) (cap:=1) (Nat.zero_le _) hn3 (by decide) (by decide) rfl rfl)
 have HA1:=mk0 (show Calls Tryz.prog 34 #[.int .i64 1,.int .i64 0,.slice (some ⟨w2.heap.size,0,none⟩) 1 1] (w2.alloc (.cells #[.string ⟨#[97]⟩,.int .i64 1,.int .i64 5,.string ⟨#[]⟩] 78)) (AtS (w2.alloc (.cells #[.string ⟨#[97]⟩,.int .i64 1,.int .i64 5,.string ⟨#[]⟩] 78)) 1 0 [⟨⟨#[97]⟩,1,5,⟨#[]⟩⟩]) from keep_At1 1 0 ⟨w2.heap.size,0,none⟩ 1 [⟨⟨#[97]⟩,1,5,⟨#[]⟩⟩] _ hc3 (by decide))
 clear hn3 hc3
 go_wp2_with fail
 (with_reducible refine HA1.out.mono ?_)
 rintro e w4 ⟨A4,c4,rfl,hc4,hr4,hb4⟩
 have B4:=mk0 hb4
 have R4:=mk0 hr4
 have C4:=mk0 hc4
 clear hb4 hr4 hc4 HA1
 have HA2:=mk0 (keep_At0 1 1 w4)
 go_wp2_with fail
 (with_reducible refine HA2.out.mono ?_)
 rintro e w5 ⟨A5,c5,rfl,hc5,hr5,hb5⟩
 have B5:=mk0 hb5
 have R5:=mk0 hr5
 have C5:=mk0 hc5
 clear hb5 hr5 hc5 HA2
 go_wp2_with fail
 obtain ⟨W,hW⟩:∃ W,W=w5.alloc (.cells #[.int .i64 1,.int .i64 0,.slice A4 1 c4,.int .i64 1,.int .i64 1,.slice A5 0 c5] 76):=⟨_,rfl⟩
 have hn6:=heap_alloc_new w5 (.cells #[.int .i64 1,.int .i64 0,.slice A4 1 c4,.int .i64 1,.int .i64 1,.slice A5 0 c5] 76)
 have hb6:=below_alloc (Below.refl w5.heap.size w5) (.cells #[.int .i64 1,.int .i64 0,.slice A4 1 c4,.int .i64 1,.int .i64 1,.slice A5 0 c5] 76)
 rw[← hW] at hn6 hb6 ⊢
 have hr6:=C_of (kr_flat.R_new (base:=0) (xs:=[⟨1,0,A4,1,c4⟩,⟨1,1,A5,0,c5⟩]) (cap:=2) (Nat.zero_le _) hn6 (Nat.le_refl 2) (by decide) rfl rfl)
 have ho6:RowsOn W [⟨1,0,A4,1,c4⟩,⟨1,1,A5,0,c5⟩] [[⟨⟨#[97]⟩,1,5,⟨#[]⟩⟩],[]]:=by
  refine ⟨rfl,fun i h1 h2=>?_⟩
  rcases i with _ | _ | i
  ·exact ⟨rfl,C4.out,C_of (Kd.R_below (Kd.R_below R4.out B5.out) hb6)⟩
  ·exact ⟨rfl,C5.out,C_of (Kd.R_below R5.out hb6)⟩
  ·simp at h1;omega
 have hk6:rowsM [⟨1,0,A4,1,c4⟩,⟨1,1,A5,0,c5⟩] [[⟨⟨#[97]⟩,1,5,⟨#[]⟩⟩],[]]=knownM:=rfl
 have BW:=mk0 (show Below w.heap.size w W from B1.out.trans ((B2.out.trans ((B3.out.trans ((B4.out.trans ((B5.out.trans (hb6.mono B5.out.size)).mono B4.out.size)).mono B3.out.size)).mono B2.out.size)).mono B1.out.size))
 clear hW hn6 hb6 B1 B2 B3 B4 B5 R4 R5 C4 C5
 obtain ⟨ad,had⟩:∃ ad:Addr,ad=⟨w5.heap.size,0,none⟩:=⟨_,rfl⟩
 obtain ⟨H,hH⟩:∃ H:List RowH,H = [⟨1,0,A4,1,c4⟩,⟨1,1,A5,0,c5⟩]:=⟨_,rfl⟩
 obtain ⟨L,hL⟩:∃ L:List (List CellM),L = [[⟨⟨#[97]⟩,1,5,⟨#[]⟩⟩],[]]:=⟨_,rfl⟩
 rw[← hH,← hL] at ho6 hk6
 rw[← hH] at hr6
 rw[← had] at hr6 ⊢
 have HL2:=mk0 (show H.length=2 by rw[hH];rfl)
 rw[HL2.out] at hr6
 have hcl:∀ c ∈ L,c.length≤1099511627776:=by rw[hL];intro c hc;simp at hc;rcases hc with rfl | rfl<;>decide
 have HWR:=mk0 (group_Write (some ad) 2 H L W (by rw[HL2.out];exact hr6) ho6 (by rw[hk6];exact known_I64))
 rw[HL2.out,writeR_M ho6.1,hk6,known_write] at HWR
 have HR6:=mk0 hr6
 have HO6:=mk0 ho6
 have HK6:=mk0 hk6
 have HCL:=mk0 hcl
 clear hr6 ho6 hk6 hcl had hH hL
 go_wp2_with fail
 (with_reducible refine HWR.out.mono ?_)
 rintro e w7 ⟨v7,rfl,hr7,hb7⟩
 obtain ⟨A7,c7,rfl⟩:=Kd.R_slice hr7
 have R7:=mk0 hr7
 have B7:=mk0 (BW.out.trans (hb7.mono BW.out.size))
 have O7:=mk0 (HO6.out.below hb7)
 have K7:=mk0 (Kd.C_below HR6.out hb7)
 obtain ⟨A',c',e9,hc7,_⟩:=Kd.R_reads hr7
 cases e9
 have HRD:=mk0 (group_Read A7 c7 (writeM knownM).1 w7 (C_of hr7) hc7 (by have:=known_len;omega))
 clear hr7 hb7 hc7 HWR BW HR6 HO6
 have hkl:=known_len
 have HKR:=mk0 (fun x (h:readG (writeM knownM).1=some x)=>known_read h)
 have HKS:=mk0 known_some
 generalize (writeM knownM).1=lb at *
 go_wp2_with fail
 (with_reducible refine HRD.out.mono ?_)
 intro e w8 hrd
 rcases hrd with ⟨hnone,_⟩ | ⟨ts,ss,ps,lo,hi,hs,rfl,hg,hlo,hhi,hb8⟩
 ·exact absurd hnone HKS.out
 have HF:=mk0 (readG_some hs)
 have HE:=mk0 (HKR.out _ hs)
 have HG:=mk0 hg.g
 have B8:=mk0 hb8
 clear hs hg hlo hhi hb8 HRD HKR HKS
 have HCT:=mk0 (group_Count HG.out)
 rw[HE.out.1] at HCT
 go_wp2_with fail
 (with_reducible refine HCT.out.mono ?_)
 rintro e w9 ⟨rfl,rfl⟩
 go_wp2_with fail
 have HRW:=mk0 (group_Rows (.inl HG.out) HF.out.fit B8.out.size)
 (with_reducible refine HRW.out.mono ?_)
 rintro e w10 ⟨H',L',A9,c9,rfl,hr9,ho9,hk9,hg9,hf9⟩
 have B10:=mk0 (FrG.below HG.out.K hf9 (Nat.le_refl _) B8.out.size)
 have hl9:=built_lens ho9.1 hk9 HF.out.ps12
 have BB:=mk0 (B8.out.trans B10.out)
 have hcl:=HCL.out
 have HKR:=mk0 (keep_Rows A9 (some ad) c9 2 H' H L' L w10 (C_of hr9) (by rw[HL2.out];exact Kd.C_below K7.out BB.out) ho9 (O7.out.below BB.out) (by have:=hl9.1;have:=HF.out.n16;omega) (by rw[HL2.out];decide) (fun c hc=>by have:=hl9.2 c hc;omega) hcl)
 rw[HL2.out,hk9,HK6.out,HE.out.2] at HKR
 have BF:=mk0 (B7.out.trans (BB.out.mono B7.out.size))
 clear hr9 ho9 hk9 hg9 hf9 B10 hl9 hcl HRW
 go_wp2_with fail
 (with_reducible refine HKR.out.mono ?_)
 rintro e w11 ⟨rfl,hb11⟩
 have BZ:=mk0 (BF.out.trans (hb11.mono BF.out.size))
 clear hb11
 go_wp2
 go_ret
 exact ⟨rfl,BZ.out⟩
end Go.Proofs.YtcmffaejcnbheaaGreat.Lib0
namespace Go.Proofs.YtcmffaejcnbheaaGreat.Lib0
open Go.RowKit Go.Proofs.YtcmffaejcnbheaaGreatW.PrintWords Go.ChangeMaps
theorem cellsRB_rise:∀ (l:List CellM) (p:Option ByteArray),cellsRB p l=true→l.Pairwise (fun a b=>lessS a.col b.col=true)∧∀ q,p=some q→∀ c ∈ l,lessS q c.col=true
 | [],p,h=>⟨List.Pairwise.nil,fun q _ c hc=>by cases hc⟩
 | c :: t,p,h=>by
  rw[cellsRB.eq_def] at h
  dsimp only at h
  rw[Bool.and_eq_true,Bool.and_eq_true] at h
  obtain ⟨⟨h1,h2⟩,h3⟩:=h
  obtain ⟨i1,i2⟩:=cellsRB_rise t _ h3
  refine ⟨List.pairwise_cons.2 ⟨i2 _ rfl,i1⟩,fun q hq d hd=>?_⟩
  subst hq
  dsimp only at h2
  rcases List.mem_cons.1 hd with rfl | hd
  ·exact h2
  ·exact lessS_trans h2 (i2 _ rfl d hd)
theorem cellOf_none:∀ (l:List CellM) (s:ByteArray),(∀ c ∈ l,c.col≠s)→cellOf l s=noCell
 | [],_,_=>rfl
 | c :: t,s,h=>by
  rw[cellOf,if_neg (h c (by simp))]
  exact cellOf_none t s (fun d hd=>h d (by simp[hd]))
theorem cellOf_mem:∀ (l:List CellM) (s:ByteArray),cellOf l s=noCell∨(cellOf l s ∈ l∧(cellOf l s).col=s)
 | [],_=>.inl rfl
 | c :: t,s=>by
  rw[cellOf]
  split
  ·rename_i h;exact .inr ⟨by simp,h⟩
  ·rcases cellOf_mem t s with h | ⟨h1,h2⟩
   ·exact .inl h
   ·exact .inr ⟨List.mem_cons_of_mem _ h1,h2⟩
theorem cells_flat:∀ (l:List ColM) (cs:List CellM),RiseL l→cs.Pairwise (fun a b=>lessS a.col b.col=true)→(∀ c ∈ cs,c.kind≠0)→(∀ c ∈ cs,∃ x ∈ l,x.name=c.col)→
  (l.map fun x=>cellQ (bareC (cellOf cs x.name)) x.name).flatten=cs
 | [],[],_,_,_,_=>rfl
 | [],c :: cs,_,_,_,h=>by
  obtain ⟨x,hx,_⟩:=h c (by simp)
  cases hx
 | x :: l,[],hl,_,_,_=>by
  rw[List.flatten_eq_nil_iff]
  intro y hy
  obtain ⟨z,_,rfl⟩:=List.mem_map.1 hy
  rfl
 | x :: l,c :: cs,hl,hc,h0,h=>by
  have hl2:=List.pairwise_cons.1 hl
  have hc2:=List.pairwise_cons.1 hc
  rw[List.map_cons,List.flatten_cons]
  by_cases e:c.col=x.name
  ·have h1:cellOf (c :: cs) x.name=c:=by rw[cellOf,if_pos e]
   have h2:∀ y ∈ l,cellQ (bareC (cellOf (c :: cs) y.name)) y.name=cellQ (bareC (cellOf cs y.name)) y.name:=fun y hy=>by
    rw[cellOf,if_neg]
    intro e2
    have:=hl2.1 y hy
    rw[← e,e2,lessS_irrefl] at this
    cases this
   rw[h1,List.map_congr_left h2,cells_flat l cs hl2.2 hc2.2 (fun d hd=>h0 d (by simp[hd])) (fun d hd=>?_)]
   ·unfold cellQ bareC
    dsimp only
    rw[if_neg (h0 c (by simp)),← e]
    rfl
   ·obtain ⟨y,hy,hyn⟩:=h d (by simp[hd])
    rcases List.mem_cons.1 hy with rfl | hy
    ·have:=hc2.1 d hd
     rw[e,hyn,lessS_irrefl] at this
     cases this
    ·exact ⟨y,hy,hyn⟩
  ·obtain ⟨y,hy,hyn⟩:=h c (by simp)
   have hy2:y ∈ l:=by
    rcases List.mem_cons.1 hy with rfl | hy
    ·exact absurd hyn.symm e
    ·exact hy
   have hxc:lessS x.name c.col=true:=by rw[← hyn];exact hl2.1 y hy2
   have h1:cellOf (c :: cs) x.name=noCell:=cellOf_none _ _ (fun d hd e2=>by
    rcases List.mem_cons.1 hd with rfl | hd
    ·exact e e2
    ·have:=lessS_trans hxc (hc2.1 d hd)
     rw[e2,lessS_irrefl] at this
     cases this)
   rw[h1,cells_flat l (c :: cs) hl2.2 hc h0 (fun d hd=>?_)]
   ·rfl
   ·obtain ⟨z,hz,hzn⟩:=h d hd
    rcases List.mem_cons.1 hz with rfl | hz
    ·exfalso
     rcases List.mem_cons.1 hd with rfl | hd
     ·exact e hzn.symm
     ·have:=lessS_trans hxc (hc2.1 d hd)
      rw[hzn,lessS_irrefl] at this
      cases this
    ·exact ⟨z,hz,hzn⟩
theorem size0 {s:ByteArray} (h:s.size=0):s=ByteArray.empty:=by
 obtain ⟨d⟩:=s
 have:d=#[]:=Array.eq_empty_of_size_eq_zero h
 subst this
 rfl
theorem fine_norm {c:CellM} (h:fineB c=true) (hi:I64 c.n):NormC c.kind (bareC c)∧(c.kind=1∨c.kind=2):=by
 unfold fineB at h
 split at h
 ·rename_i h1
  simp only[Bool.and_eq_true,decide_eq_true_eq] at h
  exact ⟨.inr ⟨rfl,rfl,.inl ⟨h1,size0 h.2,hi⟩⟩,.inl h1⟩
 ·split at h
  ·rename_i h1 h2
   simp only[Bool.and_eq_true,decide_eq_true_eq] at h
   exact ⟨.inr ⟨rfl,rfl,.inr ⟨h2,h.2.1,h.2.2⟩⟩,.inr h2⟩
  ·cases h
theorem row_cells {r:RowM} (h:r.ok=true):(∀ c ∈ r.cs,fineB c=true)∧r.cs.Pairwise (fun a b=>lessS a.col b.col=true):=by
 unfold RowM.ok rowB at h
 rw[Bool.and_eq_true] at h
 exact ⟨cellsRB_fine _ _ h.2,(cellsRB_rise _ _ h.2).1⟩
structure ColsOf (M:List RowM) (l:List ColM):Prop where
 rise:RiseL l
 has:∀ r ∈ M,∀ c ∈ r.cs,(⟨c.col,c.kind⟩:ColM) ∈ l
 from_:∀ x ∈ l,∃ r ∈ M,∃ c ∈ r.cs,x=⟨c.col,c.kind⟩
theorem growsR_cols {M:List RowM} (h:(growsR [] M).2.1=0):ColsOf M (growsR [] M).1:=by
 have he:growsR [] M=growsF [] 0 M:=by unfold growsR;rw[if_pos (by rfl)]
 rw[he] at h ⊢
 obtain ⟨h1,h2,h3,h4⟩:=growsF_spec M [] 0 h List.Pairwise.nil
 refine ⟨h1,h3,fun x hx=>?_⟩
 rcases h4 x hx with h5 | h5
 ·cases h5
 ·exact h5
theorem ColsOf.norm {M:List RowM} {l:List ColM} (h:ColsOf M l) (hr:∀ r ∈ M,r.ok=true) (hi:∀ r ∈ M,∀ c ∈ r.cs,I64 c.n) {x:ColM} (hx:x ∈ l):(x.kind=1∨x.kind=2)∧∀ c ∈ columnB M x.name,NormC x.kind c:=by
 constructor
 ·obtain ⟨r,h1,c,h2,rfl⟩:=h.from_ x hx
  exact (fine_norm ((row_cells (hr r h1)).1 c h2) (hi r h1 c h2)).2
 ·intro c hc
  unfold columnB at hc
  obtain ⟨r,h1,rfl⟩:=List.mem_map.1 hc
  rcases cellOf_mem r.cs x.name with h2 | ⟨h2,h3⟩
  ·rw[h2];exact .inl rfl
  ·have h4:=h.rise.one (h.has r h1 _ h2) hx h3
   have h5:(cellOf r.cs x.name).kind=x.kind:=congrArg ColM.kind h4
   have:=(fine_norm ((row_cells (hr r h1)).1 _ h2) (hi r h1 _ h2)).1
   rw[h5] at this
   exact this
theorem chunk_small {kind:Int} {x:List CellM} (hk:kind=1∨kind=2) (hl:x.length≤16) (hx:∀ c ∈ x,NormC kind c):(chunkB kind x).1.length≤65536:=by
 unfold chunkB
 split
 ·simp
 ·split
  ·simp
  ·split
   ·simp
   ·have h1:=putV_len10 (n:=x.length) (by omega)
    have h2:=runsB_len (nullsL x) 1 (by rw[nulls_len];omega)
    rw[nulls_len] at h2
    have h0:(bodyF kind x).1≤3:=by
     unfold bodyF
     split
     ·split<;>simp
     ·simp
    have h3:=putV_len10 (n:=(bodyF kind x).1) (by omega)
    have h4:(bodyF kind x).2.length≤10000:=by
     unfold bodyF
     split
     ·rename_i hk2
      subst hk2
      have ht:=textsOf_len x
      have hs:=texts_norm x hx
      split
      ·unfold codedB
       have h5:=dictB_len (dictL (textsOf x))
       have h7:(natsL (placesL (dictL (textsOf x)) (textsOf x))).length=(textsOf x).length:=by simp[natsL,placesL]
       have h6:=runsB_len (natsL (placesL (dictL (textsOf x)) (textsOf x))) (widthL (natsL (placesL (dictL (textsOf x)) (textsOf x)))) (by omega)
       rw[List.length_append]
       omega
      ·have:=textsB_len (textsOf x) hs
       show (textsB (textsOf x)).length≤_
       omega
     ·rename_i hk2
      have h1k:kind=1:=hk.resolve_right hk2
      subst h1k
      have:=numsB_len x (fun c hc=>by
       rcases hx c hc with rfl | ⟨_,_,⟨_,_,h⟩ | ⟨h,_⟩⟩
       ·exact ⟨by decide,by decide⟩
       ·exact h
       ·cases h)
      show (numsB x).length≤_
      omega
    rw[List.length_append,List.length_append,List.length_append]
    omega
theorem partsG_at {l:List UInt8} {M:List RowM} (hM:M.length≤16):∀ (cols:List ColM) (p:Nat) (acc:List PartQ),Stand l p (partsB M cols)→(∀ x ∈ cols,x.name.size≤12∧(x.kind=1∨x.kind=2)∧∀ c ∈ columnB M x.name,NormC x.kind c)→
  ∃ qs:List PartQ,partsG l cols.length p acc=some (acc++qs,((p+(partsB M cols).length:Nat):Int))∧qs.map (fun q=>(q.name,kindOf q.form,q.cs))=cols.map (fun x=>(x.name,x.kind,columnB M x.name))
 | [],p,acc,h,hx=>⟨[],by rw[List.length_nil,partsG_zero,List.append_nil];rfl,rfl⟩
 | x :: cols,p,acc,h,hx=>by
  obtain ⟨hn,hk,hc⟩:=hx x (by simp)
  rw[partsB] at h
  unfold partB at h
  have hcl:(columnB M x.name).length≤16:=by rw[columnB_len];exact hM
  obtain ⟨o1,form,o2,o3⟩:=openR_at hk (by omega) hc
  have hsm:=chunk_small hk hcl hc
  have e1:textB x.name=putV (byt x.name).length++byt x.name:=by rw[byt_length];rfl
  have e2:textB (str (chunkB x.kind (columnB M x.name)).1)=putV (chunkB x.kind (columnB M x.name)).1.length++(chunkB x.kind (columnB M x.name)).1:=by
   unfold textB
   rw[str_size,byt_str]
  have s1:=h.left.left
  have s2:=h.left.right
  have s3:=h.right
  have hn2:(byt x.name).length≤12:=by rw[byt_length];exact hn
  rw[e1] at s1
  have g1:=getT_at s1 (most:=12) hn2 (by omega)
  rw[← e1] at g1
  rw[e2] at s2
  have g2:=getT_at s2 (most:=65536) hsm (by omega)
  rw[← e2] at g2
  rw[List.length_append] at s3
  obtain ⟨qs,q1,q2⟩:=partsG_at hM cols _ (acc++[⟨x.name,(chunkB x.kind (columnB M x.name)).1,form,columnB M x.name⟩]) s3 (fun y hy=>hx y (by simp[hy]))
  refine ⟨⟨x.name,(chunkB x.kind (columnB M x.name)).1,form,columnB M x.name⟩ :: qs,?_,?_⟩
  ·rw[List.length_cons,partsG_succ,g1]
   dsimp only
   rw[if_neg (by simp),g2]
   dsimp only
   rw[if_neg (by simp),o2]
   dsimp only
   rw[str_byt]
   have e3:p+(textB x.name).length+(textB (str (chunkB x.kind (columnB M x.name)).1)).length=p+((textB x.name).length+(textB (str (chunkB x.kind (columnB M x.name)).1)).length):=by omega
   rw[e3,q1,List.append_assoc,List.singleton_append,partsB]
   unfold partB
   rw[List.length_append,List.length_append,Nat.add_assoc]
  ·rw[List.map_cons,List.map_cons,q2,o3]
theorem flat_built {M:List RowM} {l:List ColM} (h:ColsOf M l) (hr:∀ r ∈ M,r.ok=true) (hi:∀ r ∈ M,∀ c ∈ r.cs,I64 c.n) {qs:List PartQ} (hq:qs.map (fun q=>(q.name,kindOf q.form,q.cs))=l.map (fun x=>(x.name,x.kind,columnB M x.name))) :
  builtM (M.map (·.t)) (M.map (·.s)) qs=M:=by
 apply List.ext_getElem
 ·rw[builtM_len,List.length_map]
 ·intro i h1 h2
  have hm:M[i] ∈ M:=List.getElem_mem h2
  obtain ⟨c1,c2⟩:=row_cells (hr _ hm)
  have e1:(builtM (M.map (·.t)) (M.map (·.s)) qs)[i]=⟨(M.map (·.t)).getD i 0,(M.map (·.s)).getD i 0,cellsB i qs⟩:=by simp[builtM]
  have e2:cellsB i qs=M[i].cs:=by
   have e3:cellsB i qs=((qs.map (fun q=>(q.name,kindOf q.form,q.cs))).map fun y=>cellQ (y.2.2.getD i noCell) y.1).flatten:=by
    unfold cellsB
    rw[List.map_map]
    rfl
   rw[e3,hq,List.map_map]
   have e4:∀ x ∈ l,((fun y:ByteArray × Int × List CellM=>cellQ (y.2.2.getD i noCell) y.1) ∘ fun x:ColM=>(x.name,x.kind,columnB M x.name)) x=cellQ (bareC (cellOf M[i].cs x.name)) x.name:=fun x _=>by
    show cellQ ((columnB M x.name).getD i noCell) x.name=_
    unfold columnB
    rw[List.getD,List.getElem?_map,List.getElem?_eq_getElem h2]
    rfl
   rw[List.map_congr_left e4]
   exact cells_flat l M[i].cs h.rise c2 (fun c hc=>by
    rcases (fine_norm (c1 c hc) (hi _ hm c hc)).2 with h5 | h5<;>omega) (fun c hc=>⟨_,h.has _ hm c hc,rfl⟩)
  rw[e1,e2]
  have e5:(M.map (·.t)).getD i 0=M[i].t:=by rw[List.getD,List.getElem?_map,List.getElem?_eq_getElem h2];rfl
  have e6:(M.map (·.s)).getD i 0=M[i].s:=by rw[List.getD,List.getElem?_map,List.getElem?_eq_getElem h2];rfl
  rw[e5,e6]
theorem checkM_ok {M:List RowM} (h:checkM M=0):(∀ r ∈ M,r.ok=true)∧(growsR [] M).2.1=0∧risesM M=true:=by
 unfold checkM at h
 split at h
 ·cases h
 ·rename_i h0
  split at h
  ·rename_i h2
   split at h
   ·rename_i h1
    refine ⟨fun r hr=>?_,h1,h2⟩
    have h3:M.any (fun r=>!r.ok)=false:=by simpa using h0
    rw[List.any_eq_false] at h3
    simpa using h3 r hr
   ·cases h
  ·cases h
theorem readG_write {M:List RowM} (h:(writeM M).2=0) (hi:∀ r ∈ M,∀ c ∈ r.cs,I64 c.n) :
  ∃ qs,readG (writeM M).1=some (M.map (·.t),M.map (·.s),qs)∧builtM (M.map (·.t)) (M.map (·.s)) qs=M∧qs.map (fun q=>(q.name,kindOf q.form,q.cs))=(growsR [] M).1.map (fun x=>(x.name,x.kind,columnB M x.name)):=by
 obtain ⟨h0,h16,hck,hw⟩:=writeM_ok h
 obtain ⟨hok,hg,_⟩:=checkM_ok hck
 have hcols:=growsR_cols hg
 have h12:=growsR_len M
 have hnm:=growsR_names M
 have hrow:∀ r ∈ M,I64 r.t∧I64 r.s:=fun r hr=>by
  have:=rowB_head (show rowB r.t r.s r.cs=true from hok r hr)
  unfold I64
  omega
 have ht:∀ n ∈ M.map (·.t),I64 n:=fun n hn=>by
  obtain ⟨r,hr,rfl⟩:=List.mem_map.1 hn
  exact (hrow r hr).1
 have hs:∀ n ∈ M.map (·.s),I64 n:=fun n hn=>by
  obtain ⟨r,hr,rfl⟩:=List.mem_map.1 hn
  exact (hrow r hr).2
 have hB:(writeM M).1=bytesM M:=by rw[hw]
 obtain ⟨B,hBd⟩:∃ B,B=(writeM M).1:=⟨_,rfl⟩
 rw[← hBd] at hB ⊢
 have hS:=Stand.all B
 have hS0:Stand B 0 (deltaB (M.map (·.t))++deltaB (M.map (·.s))++putV (growsR [] M).1.length++partsB M (growsR [] M).1):=by
  have:Stand B 0 (bytesM M):=by rw[← hB];exact hS
  exact this
 clear hS
 have s1:=hS0.left.left.left
 have s2:=hS0.left.left.right
 have s3:=hS0.left.right
 have s4:=hS0.right
 have d1:=deltaR_at s1 (most:=16) (by rw[List.length_map];exact h16) ht (by rw[List.length_map];omega)
 have d2:=deltaR_at s2 (most:=16) (by rw[List.length_map];exact h16) hs (by rw[List.length_map];omega)
 have g3:=getA_at s3 (by omega)
 have e3:=endA_at s3 (by omega)
 obtain ⟨qs,q1,q2⟩:=partsG_at (l:=B) h16 (growsR [] M).1 _ [] s4 (fun x hx=>⟨hnm x hx,hcols.norm hok hi hx⟩)
 have hlen:(0+(deltaB (M.map (·.t))++deltaB (M.map (·.s))++putV (growsR [] M).1.length).length+(partsB M (growsR [] M).1).length)=B.length:=by
  rw[hB]
  unfold bytesM
  rw[List.length_append (bs:=partsB M (growsR [] M).1)]
  omega
 have hb:=flat_built hcols hok hi q2
 refine ⟨qs,?_,hb,q2⟩
 have e2:0+(deltaB (M.map (·.t))).length+(deltaB (M.map (·.s))).length=0+(deltaB (M.map (·.t))++deltaB (M.map (·.s))).length:=by rw[List.length_append];omega
 rw[e2] at d2
 have d1':deltaR B 0 16=_:=d1
 have hp:partsR B ((0+(deltaB (M.map (·.t))++deltaB (M.map (·.s))).length:Nat):Int)=some (qs,(B.length:Int)):=by
  unfold partsR
  rw[e3,g3]
  dsimp only
  rw[small_le (by omega),if_neg (by simp;omega)]
  have e4:0+(deltaB (M.map (·.t))++deltaB (M.map (·.s))).length+(putV (growsR [] M).1.length).length=0+(deltaB (M.map (·.t))++deltaB (M.map (·.s))++putV (growsR [] M).1.length).length:=by rw[List.length_append (bs:=putV _)];omega
  rw[e4,q1,hlen,List.nil_append]
 unfold readG
 rw[d1']
 dsimp only
 rw[if_neg (by simp),d2]
 dsimp only
 rw[if_neg (by simp),hp]
 dsimp only
 rw[if_neg (by simp),if_neg,hb,if_neg]
 ·rw[hBd]
  simp[h]
 ·intro hx
  obtain ⟨q,hq,hq2⟩:=List.any_eq_true.1 hx
  have hm:(q.name,kindOf q.form,q.cs) ∈ (growsR [] M).1.map (fun x=>(x.name,x.kind,columnB M x.name)):=by rw[← q2];exact List.mem_map_of_mem hq
  obtain ⟨x,_,hx2⟩:=List.mem_map.1 hm
  have:q.cs=columnB M x.name:=(congrArg (fun y=>y.2.2) hx2).symm
  rw[this,columnB_len,List.length_map] at hq2
  simp at hq2
end Go.Proofs.YtcmffaejcnbheaaGreat.Lib0
namespace Go.Proofs.YtcmffaejcnbheaaGreat.Lib0
open Go.RowKit Go.Proofs.YtcmffaejcnbheaaGreatW.PrintWords Go.ChangeMaps
def TrueEnd (w:World) (e:Ending) (w':World):Prop:=e = .returned (.bool true)∧Below w.heap.size w w'
theorem cell_block {w:World} {g o:Nat} {v:Value} (h:w.cell? ⟨g,o,none⟩=some v):g<w.heap.size:=by
 rcases Nat.lt_or_ge g w.heap.size with h1 | h1
 ·exact h1
 ·simp[World.cell?,Array.getElem?_eq_none h1] at h
def TwoY (w:World) (g:Nat):Prop:=∀ j,j<2→∃ (Y:Option Addr) (cy:Nat) (yl:List UInt8),w.cell? ⟨g,j,none⟩=some (.slice Y yl.length cy)∧u8.C w Y yl.length yl∧yl.length≤cy
theorem TwoY.below {w w':World} {g:Nat} (h:TwoY w g) (hb:Below w.heap.size w w'):TwoY w' g:=fun j hj=>by
 obtain ⟨Y,cy,yl,h1,h2,h3⟩:=h j hj
 exact ⟨Y,cy,yl,(World.cell?_of_block (hb.block g (cell_block h1))).trans h1,Kd.C_below h2 hb,h3⟩
end Go.Proofs.YtcmffaejcnbheaaGreat.Lib0

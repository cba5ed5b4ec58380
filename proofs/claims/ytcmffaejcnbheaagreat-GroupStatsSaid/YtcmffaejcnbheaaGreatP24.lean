import Derived.Laws.StructEq
import Derived.Test.YtcmffaejcnbheaaGreatP23
set_option linter.unusedVariables false
set_option linter.unusedSimpArgs false
namespace Go.Proofs.YtcmffaejcnbheaaGreat.Lib0
open Go.RowKit Go.Proofs.YtcmffaejcnbheaaGreatW.PrintWords Go.ChangeMaps
section
variable {α:Type} {d:Kd α} {f:α→List Value} {k:Nat}
variable {P:Program} {ops:Array Oper} {o:Oper} {a:Act} {Q:Exit→Act→World→Prop} {Kc:Act→World→Prop} {E:Prop}
theorem Flat.append_step (F:Flat d f k) {W:World} (base:Nat) (hw:Region.wanted o (yielded ops a.tmps)=true) (s x:Operand) (t e:TypeId) (z:Value) (bytes:Nat)
  (ho:o.op = .call { callee:=.builtin .append,args:=#[s,x],argTypes:=#[t,t] }) (ht:P.underlying t=some (.slice e))
  (hinfo:(P.info? e).map (fun i=>(i.zero,i.size,i.bytes))=some (some z,k,bytes)) (hzs:z.cells.size=k) (hk0:0<k) (hb0:0<bytes)
  (v:Value) (xs ys:List α) (ad:Addr) (m c:Nat) (ok:Nat→Prop) (hs:a.eval s=v) (hx:a.eval x = .slice (some ad) m c) (hm:ys.length=m)
  (hcell:∀ j u,(flatF f ys)[j]?=some u→W.cell? (ad.add j)=some u) (hfresh:ok W.heap.size)
  (HO:d.R e W base ok v xs) (hbase:base≤W.heap.size) (hl:(xs.length+m)*bytes≤140737488355328)
  (h:∀ v1 w1,d.R e w1 base ok v1 (xs++ys)→Below base W w1→W.grownBy w1 v.ownBlock→(v1.ownBlock=v.ownBlock∨v1.ownBlock=some W.heap.size)→Kc (a.put o.dst v1) w1) :
  if Region.wanted o (yielded ops a.tmps)=true then Oper.wp P o a W Kc Q else E:=by
 obtain ⟨i,hi,hz0⟩:=Option.map_eq_some_iff.1 hinfo
 simp only[Prod.mk.injEq] at hz0
 obtain ⟨hzz,hsz,hby⟩:=hz0
 obtain ⟨h0,inner,hown,hr⟩:=HO
 rw[F.sz] at hown hr
 have hin:inner=flatF f xs:=by
  have hgen:∀ (xs:List α) (inner:List Value),Reps (d.M W base (fun q=>ok q∧some q≠v.ownBlock)) k xs inner→inner=flatF f xs:=F.inner
  exact hgen xs inner hr
 have hlen:xs.length+m≤140737488355328:=Nat.le_trans (Nat.le_mul_of_pos_right _ hb0) hl
 obtain ⟨v1,w1,hrun,h2,h3,_,h5⟩:=run_append_own_at (P:=P) W base t o.type e i z k bytes ht hi hzz hsz hby hzs hk0 v xs.length inner hown ad m c (flatF f ys) (by rw[F.flat_len,hm]) hcell
  (F.flat_one ys) (by simp only[maxLen];omega) hl hbase
 rw[if_pos hw]
 unfold Oper.wp execOp
 simp only[ho,resolve,invoke,builtin,Sem.run_bind,Sem.run_pure,Result.andThen_ok,List.map_toArray,List.map_cons,List.map_nil,hs,hx,hrun]
 refine h v1 w1 ⟨fun q hq=>?_,inner++flatF f ys,?_,?_⟩ ((Below.refl base W).grown h3 hbase (own_base hown)) h3 h5
 ·rcases h5 with e1 | e1
  ·exact h0 q (by rw[← e1];exact hq)
  ·rw[e1] at hq
   injection hq with hq
   subst hq
   exact hfresh
 ·rw[F.sz,List.length_append,hm]
  exact h2
 ·rw[hin,← flatF_append]
  exact F.reps w1 base _ (xs++ys)
end
end Go.Proofs.YtcmffaejcnbheaaGreat.Lib0
namespace Go.Proofs.YtcmffaejcnbheaaGreat.Lib0
open Go.RowKit Go.Proofs.YtcmffaejcnbheaaGreatW.PrintWords Go.ChangeMaps
theorem ki_flat:Flat (Kd.int .i64) (fun n:Int=>[Value.int .i64 n]) 1:=⟨rfl,fun h=>h,fun _=>rfl,fun _=>rfl,fun x u hu=>by
 simp only[List.mem_singleton] at hu
 subst hu
 rfl⟩
theorem Flat.R_ok {α:Type} {d:Kd α} {f:α→List Value} {k:Nat} (F:Flat d f k) {e base:Nat} {W:World} {ok ok':Nat→Prop} {v:Value} {xs:List α} (h:d.R e W base ok v xs) (ho:∀ q,v.ownBlock=some q→ok' q):d.R e W base ok' v xs:=by
 obtain ⟨h0,inner,hown,hr⟩:=h
 have hr2:=hr
 rw[F.sz] at hr2
 have hin:inner=flatF f xs:=F.inner (ok:=fun q=>ok q∧some q≠v.ownBlock) xs inner hr2
 exact ⟨ho,inner,hown,by rw[hin];exact F.reps W base _ xs⟩
structure Two (w V:World) (v1:Value) (l1:List Int) (v2:Value) (l2:List Int):Prop where
 R1:(Kd.int .i64).R 2 V w.heap.size (fun q=>some q≠v2.ownBlock) v1 l1
 R2:(Kd.int .i64).R 2 V w.heap.size (fun q=>some q≠v1.ownBlock) v2 l2
 B:Below w.heap.size w V
def Pend (V:World) (v1 v2 z:Value) (n:Int):Prop:=∃ b,z = .slice (some ⟨b,0,none⟩) 1 1∧V.cell? ⟨b,0,none⟩=some (.int .i64 n)∧some b≠v1.ownBlock∧some b≠v2.ownBlock
theorem Two.alloc {w V:World} {v1 v2:Value} {l1 l2:List Int} (h:Two w V v1 l1 v2 l2) (o:Obj):Two w (V.alloc o) v1 l1 v2 l2:=
 ⟨Kd.R_alloc h.R1 o,Kd.R_alloc h.R2 o,h.B.trans ((below_alloc (Below.refl _ _) o).mono h.B.size)⟩
theorem Two.drew {w V:World} {v1 v2:Value} {l1 l2:List Int} (h:Two w V v1 l1 v2 l2):Two w V.drew v1 l1 v2 l2:=
 ⟨Kd.R_drew h.R1,Kd.R_drew h.R2,h.B.trans (below_drew _ _)⟩
theorem Two.lt1 {w V:World} {v1 v2:Value} {l1 l2:List Int} (h:Two w V v1 l1 v2 l2):∀ k,v1.ownBlock=some k→k<V.heap.size:=Kd.R_lt h.R1
theorem Two.lt2 {w V:World} {v1 v2:Value} {l1 l2:List Int} (h:Two w V v1 l1 v2 l2):∀ k,v2.ownBlock=some k→k<V.heap.size:=Kd.R_lt h.R2
theorem Pend.new {w V:World} {v1 v2:Value} {l1 l2:List Int} (h:Two w V v1 l1 v2 l2) {b t:Nat} {n:Int} (hb:b=V.heap.size):Pend (V.alloc (.cells #[.int .i64 n] t)) v1 v2 (.slice (some ⟨b,0,none⟩) 1 1) n:=by
 subst hb
 refine ⟨_,rfl,cell_of_heap (i:=0) (heap_alloc_new V _) rfl,fun e=>?_,fun e=>?_⟩
 ·exact absurd (h.lt1 _ e.symm) (Nat.lt_irrefl _)
 ·exact absurd (h.lt2 _ e.symm) (Nat.lt_irrefl _)
theorem Pend.alloc {V:World} {v1 v2 z:Value} {n:Int} (h:Pend V v1 v2 z n) (o:Obj):Pend (V.alloc o) v1 v2 z n:=by
 obtain ⟨b,rfl,hc,h1,h2⟩:=h
 exact ⟨b,rfl,(World.cell?_alloc_lt _ _ _ (World.block_lt_of_cell? V _ hc)).trans hc,h1,h2⟩
theorem Pend.drew {V:World} {v1 v2 z:Value} {n:Int} (h:Pend V v1 v2 z n):Pend V.drew v1 v2 z n:=h
def Cel (V:World) (v1 v2:Value) (ad:Addr) (u:Value):Prop:=V.cell? ad=some u∧some ad.block≠v1.ownBlock∧some ad.block≠v2.ownBlock
theorem Cel.alloc {V:World} {v1 v2 u:Value} {ad:Addr} (h:Cel V v1 v2 ad u) (o:Obj):Cel (V.alloc o) v1 v2 ad u:=⟨(World.cell?_alloc_lt _ _ _ (World.block_lt_of_cell? V _ h.1)).trans h.1,h.2⟩
theorem Cel.drew {V:World} {v1 v2 u:Value} {ad:Addr} (h:Cel V v1 v2 ad u):Cel V.drew v1 v2 ad u:=h
theorem Cel.swap {V:World} {v1 v2 u:Value} {ad:Addr} (h:Cel V v1 v2 ad u):Cel V v2 v1 ad u:=⟨h.1,h.2.2,h.2.1⟩
section
variable {P:Program} {ops:Array Oper} {o:Oper} {a:Act} {Q:Exit→Act→World→Prop} {Kc:Act→World→Prop} {E:Prop}
theorem push1 {w V:World} (hgd:o.guard=none) (s x:Operand) (t:TypeId) (ho:o.op = .call { callee:=.builtin .append,args:=#[s,x],argTypes:=#[t,t] }) (ht:P.underlying t=some (.slice 2))
  (hinfo:(P.info? 2).map (fun i=>(i.zero,i.size,i.bytes))=some (some (.int .i64 0),1,8)) (v1:Value) (l1:List Int) (v2:Value) (l2:List Int) (n:Int)
  (hs:a.eval s=v1) (hz:Pend V v1 v2 (a.eval x) n) (H:Two w V v1 l1 v2 l2) (hl:l1.length≤1099511627776)
  (h:∀ A c w1,Two w w1 (.slice A (l1.length+1) c) (l1++[n]) v2 l2→(∀ z m,Pend V v1 v2 z m→Pend w1 (.slice A (l1.length+1) c) v2 z m)→(∀ ad u,Cel V v1 v2 ad u→Cel w1 (.slice A (l1.length+1) c) v2 ad u)→Kc (a.put o.dst (.slice A (l1.length+1) c)) w1) :
  if Region.wanted o (yielded ops a.tmps)=true then Oper.wp P o a V Kc Q else E:=by
 obtain ⟨b,hz1,hz2,hz3,hz4⟩:=hz
 refine ki_flat.append_step w.heap.size (by simp[Region.wanted,hgd]) s x t 2 _ 8 ho ht hinfo rfl (by decide) (by decide) v1 l1 [n] ⟨b,0,none⟩ 1 1 _ hs hz1 rfl ?_ ?_ H.R1 H.B.size (by omega) ?_
 ·intro j u hj
  rcases j with _ | j
  ·simp only[flatF,List.map_cons,List.map_nil,List.flatten_cons,List.flatten_nil,List.append_nil,List.getElem?_cons_zero,Option.some.injEq] at hj
   subst hj
   exact hz2
  ·simp[flatF] at hj
 ·intro e
  exact absurd (H.lt2 _ e.symm) (Nat.lt_irrefl _)
 ·intro u1 w1 r1 b1 g1 own
  obtain ⟨A,c,e1⟩:=Kd.R_slice r1
  rw[List.length_append] at e1
  change u1 = .slice A (l1.length+1) c at e1
  subst e1
  have hown:∀ k,some k=v2.ownBlock→some k≠(Value.slice A (l1.length+1) c).ownBlock:=by
   intro k hk e
   rcases own with e1 | e1
   ·exact H.R2.1 k hk.symm (e.trans e1)
   ·rw[e1] at e
    injection e with e
    subst e
    exact absurd (H.lt2 _ hk.symm) (Nat.lt_irrefl _)
  have hcel:∀ ad u,Cel V v1 v2 ad u→Cel w1 (.slice A (l1.length+1) c) v2 ad u:=by
   rintro ad u ⟨p1,p2,p3⟩
   refine ⟨by have:=g1.block ad.block (World.block_lt_of_cell? V _ p1) p2;simpa [World.cell?,this] using p1,fun e=>?_,p3⟩
   rcases own with e1 | e1
   ·exact p2 (e.trans e1)
   ·rw[e1] at e
    injection e with e
    exact absurd (World.block_lt_of_cell? V _ p1) (by rw[e];exact Nat.lt_irrefl _)
  refine h A c w1 ⟨r1,ki_flat.R_ok (R_moved rfl H.R2 (fun k hk=>g1.block k (Kd.R_lt H.R2 k hk) (fun e=>H.R2.1 k hk e))) (fun k hk=>hown k hk.symm),H.B.trans b1⟩ (fun z m hp=>?_) hcel
  obtain ⟨b',e0,p1,p2,p3⟩:=hp
  obtain ⟨q1,q2,q3⟩:=hcel ⟨b',0,none⟩ _ ⟨p1,p2,p3⟩
  exact ⟨b',e0,q1,q2,q3⟩
theorem Two.swap {w V:World} {v1 v2:Value} {l1 l2:List Int} (h:Two w V v1 l1 v2 l2):Two w V v2 l2 v1 l1:=⟨h.R2,h.R1,h.B⟩
theorem Pend.swap {V:World} {v1 v2 z:Value} {n:Int} (h:Pend V v1 v2 z n):Pend V v2 v1 z n:=by
 obtain ⟨b,h1,h2,h3,h4⟩:=h
 exact ⟨b,h1,h2,h4,h3⟩
theorem push2 {w V:World} (hgd:o.guard=none) (s x:Operand) (t:TypeId) (ho:o.op = .call { callee:=.builtin .append,args:=#[s,x],argTypes:=#[t,t] }) (ht:P.underlying t=some (.slice 2))
  (hinfo:(P.info? 2).map (fun i=>(i.zero,i.size,i.bytes))=some (some (.int .i64 0),1,8)) (v1:Value) (l1:List Int) (v2:Value) (l2:List Int) (n:Int)
  (hs:a.eval s=v2) (hz:Pend V v1 v2 (a.eval x) n) (H:Two w V v1 l1 v2 l2) (hl:l2.length≤1099511627776)
  (h:∀ A c w1,Two w w1 v1 l1 (.slice A (l2.length+1) c) (l2++[n])→(∀ z m,Pend V v1 v2 z m→Pend w1 v1 (.slice A (l2.length+1) c) z m)→(∀ ad u,Cel V v1 v2 ad u→Cel w1 v1 (.slice A (l2.length+1) c) ad u)→Kc (a.put o.dst (.slice A (l2.length+1) c)) w1) :
  if Region.wanted o (yielded ops a.tmps)=true then Oper.wp P o a V Kc Q else E:=
 push1 hgd s x t ho ht hinfo v2 l2 v1 l1 n hs hz.swap H.swap hl (fun A c w1 h1 h2 h3=>h A c w1 h1.swap (fun z m hp=>(h2 z m hp.swap).swap) (fun ad u hp=>(h3 ad u hp.swap).swap))
end
end Go.Proofs.YtcmffaejcnbheaaGreat.Lib0
namespace Go.Proofs.YtcmffaejcnbheaaGreat.Lib0
open Go.RowKit Go.Proofs.YtcmffaejcnbheaaGreatW.PrintWords Go.ChangeMaps
def partB (L:List RowM) (c:ColM):List UInt8:=textB c.name++textB (str (chunkB c.kind (columnB L c.name)).1)
def partsB (L:List RowM):List ColM→List UInt8
 | []=>[]
 | c :: l=>partB L c++partsB L l
theorem partsB_app (L:List RowM) (a b:List ColM):partsB L (a++b)=partsB L a++partsB L b:=by
 induction a with
 | nil=>rfl
 | cons c a ih=>rw[List.cons_append,partsB,partsB,ih,List.append_assoc]
def bytesG (H:List RowH) (L:List (List CellM)):List UInt8:=
 deltaB (H.map (·.t))++deltaB (H.map (·.s))++putV (growsR [] (rowsM H L)).1.length++partsB (rowsM H L) (growsR [] (rowsM H L)).1
def writeR (H:List RowH) (L:List (List CellM)):List UInt8 × Int:=
 if H.length=0∨16<H.length then ([],4) else if checkR H L=0 then (bytesG H L,0) else ([],checkR H L)
theorem nameB_len {s:ByteArray} (h:nameB s=true):s.size≤12:=by
 unfold nameB at h
 simp only[Bool.and_eq_true,decide_eq_true_eq] at h
 exact h.1.2
theorem fineB_name {c:CellM} (h:fineB c=true):nameB c.col=true:=by
 unfold fineB at h
 split at h
 ·exact (Bool.and_eq_true _ _ ▸ h).1
 ·split at h
  ·exact (Bool.and_eq_true _ _ ▸ h).1
  ·cases h
theorem cellsRB_fine:∀ (l:List CellM) (p:Option ByteArray),cellsRB p l=true→∀ c ∈ l,fineB c=true
 | [],_,_,c,h=>by simp at h
 | x :: t,p,h,c,hc=>by
  rw[cellsRB.eq_def] at h
  dsimp only at h
  rw[Bool.and_eq_true,Bool.and_eq_true] at h
  rcases List.mem_cons.1 hc with rfl | hc
  ·exact h.1.1
  ·exact cellsRB_fine t _ h.2 c hc
theorem growC_names:∀ (cs:List CellM) (l l':List ColM),growC l cs=some l'→(∀ x ∈ l,x.name.size≤12)→(∀ c ∈ cs,c.col.size≤12)→∀ x ∈ l',x.name.size≤12
 | [],l,l',h,h1,_=>by
  rw[growC] at h
  injection h with h
  subst h
  exact h1
 | c :: t,l,l',h,h1,h2=>by
  rw[growC] at h
  split at h
  ·split at h
   ·exact growC_names t l l' h h1 (fun x hx=>h2 x (List.mem_cons_of_mem _ hx))
   ·cases h
  ·refine growC_names t _ l' h (fun x hx=>?_) (fun x hx=>h2 x (List.mem_cons_of_mem _ hx))
   unfold insL at hx
   rcases List.mem_append.1 hx with hx | hx
   ·exact h1 x (List.mem_of_mem_take hx)
   ·rcases List.mem_cons.1 hx with rfl | hx
    ·exact h2 c (by simp)
    ·exact h1 x (List.mem_of_mem_drop hx)
theorem growR_names (cs:List CellM) (l:List ColM) (h1:∀ x ∈ l,x.name.size≤12) (h2:∀ c ∈ cs,c.col.size≤12):∀ x ∈ (growR l cs).1,x.name.size≤12:=by
 unfold growR
 cases hg:growC l cs with
 | none=>simp
 | some l'=>
  dsimp only
  split
  ·exact growC_names cs l l' hg h1 h2
  ·simp
theorem growsF_names:∀ (L:List RowM) (l:List ColM) (k:Nat),(∀ x ∈ l,x.name.size≤12)→∀ x ∈ (growsF l k L).1,x.name.size≤12
 | [],l,k,h=>h
 | r :: t,l,k,h=>by
  rw[growsF]
  split
  ·rename_i hr
   split
   ·refine growsF_names t _ _ (growR_names r.cs l h (fun c hc=>?_))
    unfold rowB at hr
    rw[Bool.and_eq_true] at hr
    exact nameB_len (fineB_name (cellsRB_fine _ _ hr.2 c hc))
   ·simp
  ·simp
theorem growsR_names (L:List RowM):∀ x ∈ (growsR [] L).1,x.name.size≤12:=by
 unfold growsR
 split
 ·exact growsF_names L [] 0 (by simp)
 ·simp
theorem growsF_len:∀ (L:List RowM) (l:List ColM) (k:Nat),l.length≤12→(growsF l k L).1.length≤12
 | [],l,k,h=>h
 | r :: t,l,k,h=>by
  rw[growsF]
  split
  ·split
   ·exact growsF_len t _ _ (growR_len _ _)
   ·simp
  ·simp
theorem growsR_len (L:List RowM):(growsR [] L).1.length≤12:=by
 unfold growsR
 split
 ·exact growsF_len L [] 0 (by simp)
 ·simp
theorem numsB_len:∀ (l:List CellM),(∀ c ∈ l,I64 c.n)→(numsB l).length≤10*l.length
 | [],_=>by simp[numsB]
 | c :: l,h=>by
  have h1:=numsB_len l (fun x hx=>h x (List.mem_cons_of_mem _ hx))
  have h2:=putV_len10 (zig_lt (h c (by simp)))
  rw[numsB,List.length_append,List.length_cons]
  split
  ·omega
  ·rw[List.length_nil];omega
theorem textsOf_len:∀ (l:List CellM),(textsOf l).length≤l.length
 | []=>by simp[textsOf]
 | c :: l=>by
  have h1:=textsOf_len l
  rw[textsOf,List.length_append,List.length_cons]
  split<;>simp only[List.length_nil,List.length_cons]<;>omega
theorem textsOf_right:∀ (l:List CellM),l.any (fun c=>!rightB 2 c)=false→∀ s ∈ textsOf l,s.size≤40
 | [],_,s,h=>by simp[textsOf] at h
 | c :: l,h0,s,h=>by
  rw[List.any_cons,Bool.or_eq_false_iff] at h0
  rw[textsOf,List.mem_append] at h
  rcases h with h | h
  ·split at h
   ·simp at h
   ·rename_i hk
    simp only[List.mem_singleton] at h
    subst h
    have hr:rightB 2 c=true:=by simpa using h0.1
    rcases right_kinds hr with h1 | ⟨h1,h2 | h2⟩
    ·exact absurd (Or.inl h1) hk
    ·exact absurd h2 (by decide)
    ·exact h2
  ·exact textsOf_right l h0.2 s h
theorem chunkB_len (kind:Int) (l:List CellM) (hl:l.length≤65536) (hi:∀ c ∈ l,I64 c.n):(chunkB kind l).1.length≤1000000000:=by
 unfold chunkB
 split
 ·simp
 ·rename_i hk
  split
  ·simp
  ·split
   ·simp
   ·rename_i hr
    have hr':l.any (fun c=>!rightB kind c)=false:=by simpa using hr
    have h1:=putV_len10 (n:=l.length) (by omega)
    have h2:=runsB_len (nullsL l) 1 (by simp[nullsL];omega)
    have h2':(nullsL l).length=l.length:=by simp[nullsL]
    have h0:(bodyF kind l).1≤3:=by
     unfold bodyF
     split
     ·split<;>simp
     ·simp
    have h3:=putV_len10 (n:=(bodyF kind l).1) (by omega)
    have h4:(bodyF kind l).2.length≤900000000:=by
     unfold bodyF
     split
     ·rename_i hk2
      subst hk2
      have ht:=textsOf_len l
      split
      ·unfold codedB
       have h5:=dictB_len (dictL (textsOf l))
       have h6:=runsB_len (natsL (placesL (dictL (textsOf l)) (textsOf l))) (widthL (natsL (placesL (dictL (textsOf l)) (textsOf l)))) (by simp[natsL,placesL];omega)
       have h7:(natsL (placesL (dictL (textsOf l)) (textsOf l))).length=(textsOf l).length:=by simp[natsL,placesL]
       rw[List.length_append]
       omega
      ·have:=textsB_len (textsOf l) (textsOf_right l hr')
       show (textsB (textsOf l)).length≤_
       omega
     ·have:=numsB_len l hi
      show (numsB l).length≤_
      omega
    rw[List.length_append,List.length_append,List.length_append]
    omega
theorem cellOf_I64:∀ (l:List CellM) (s:ByteArray),(∀ c ∈ l,I64 c.n)→I64 (cellOf l s).n
 | [],s,_=>by rw[cellOf];exact ⟨by decide,by decide⟩
 | c :: t,s,h=>by
  rw[cellOf]
  split
  ·exact h c (by simp)
  ·exact cellOf_I64 t s (fun x hx=>h x (List.mem_cons_of_mem _ hx))
theorem columnB_I64 (L:List RowM) (s:ByteArray) (h:∀ r ∈ L,∀ c ∈ r.cs,I64 c.n):∀ c ∈ columnB L s,I64 c.n:=by
 intro c hc
 unfold columnB at hc
 obtain ⟨r,hr,rfl⟩:=List.mem_map.1 hc
 exact cellOf_I64 r.cs s (h r hr)
theorem columnB_len (L:List RowM) (s:ByteArray):(columnB L s).length=L.length:=by simp[columnB]
theorem encD_len:∀ (l:List Int) (i:Nat) (a b:Int),(∀ n ∈ l,I64 n)→I64 a→I64 b→(encD i a b l).length≤10*l.length
 | [],_,_,_,_,_,_=>by simp[encD]
 | n :: t,i,a,b,h,ha,hb=>by
  have hd:I64 (delD i a n):=by
   unfold delD
   split
   ·exact h n (by simp)
   ·exact wrap64_in _
  have hx:I64 (delX i b (delD i a n)):=by
   unfold delX
   split
   ·exact wrap64_in _
   ·exact hd
  have hs:I64 (delS i b (delD i a n)):=by
   unfold delS
   split
   ·exact hd
   ·exact hb
  have h1:=encD_len t (i+1) n _ (fun x hx=>h x (List.mem_cons_of_mem _ hx)) (h n (by simp)) hs
  have h2:=putV_len10 (zig_lt hx)
  rw[encD,List.length_append,List.length_cons]
  omega
theorem deltaB_len (l:List Int) (h:∀ n ∈ l,I64 n) (hl:l.length<18446744073709551616):(deltaB l).length≤10*l.length+10:=by
 unfold deltaB
 have h1:=encD_len l 0 0 0 h ⟨by decide,by decide⟩ ⟨by decide,by decide⟩
 have h2:=putV_len10 hl
 rw[List.length_append]
 omega
theorem partB_len (L:List RowM) (c:ColM) (hc:c.name.size≤12) (hL:L.length≤65536) (hi:∀ r ∈ L,∀ c ∈ r.cs,I64 c.n):(partB L c).length≤1000000100:=by
 have h1:=chunkB_len c.kind (columnB L c.name) (by rw[columnB_len];exact hL) (columnB_I64 L c.name hi)
 unfold partB textB
 have h2:=putV_len10 (n:=c.name.size) (by omega)
 have h3:=putV_len10 (n:=(str (chunkB c.kind (columnB L c.name)).1).size) (by rw[str_size];omega)
 have h4:(byt c.name).length=c.name.size:=byt_length _
 rw[List.length_append,List.length_append,List.length_append,byt_str]
 omega
theorem partsB_len (L:List RowM) (hL:L.length≤65536) (hi:∀ r ∈ L,∀ c ∈ r.cs,I64 c.n):∀ (l:List ColM),(∀ x ∈ l,x.name.size≤12)→(partsB L l).length≤1000000100*l.length
 | [],_=>Nat.zero_le _
 | c :: l,h=>by
  have h1:=partsB_len L hL hi l (fun x hx=>h x (List.mem_cons_of_mem _ hx))
  have h2:=partB_len L c (h c (by simp)) hL hi
  rw[partsB,List.length_append,List.length_cons]
  omega
theorem check_rows {H:List RowH} {L:List (List CellM)} (h:checkR H L=0):∀ r ∈ rowsM H L,rowB r.t r.s r.cs=true:=by
 intro r hr
 unfold checkR at h
 split at h
 ·cases h
 ·rename_i h0
  have h0':(rowsM H L).any (fun r=>!r.ok)=false:=by simpa using h0
  rw[List.any_eq_false] at h0'
  have:=h0' r hr
  simpa [RowM.ok] using this
theorem rowB_head {t s:Int} {l:List CellM} (h:rowB t s l=true):-1099511627776≤t∧t≤1099511627776∧0≤s∧s≤1073741824∧l.length≤8:=by
 unfold rowB headRB at h
 simp only[Bool.and_eq_true,decide_eq_true_eq] at h
 exact ⟨h.1.1.1.1.1,h.1.1.1.1.2,h.1.1.1.2,h.1.1.2,h.1.2⟩
theorem check_I64 {H:List RowH} {L:List (List CellM)} (hL:H.length=L.length) (h:checkR H L=0):(∀ x ∈ H.map (·.t),I64 x)∧(∀ x ∈ H.map (·.s),I64 x):=by
 have h0:=check_rows h
 have hat:∀ x ∈ H,I64 x.t∧I64 x.s:=by
  intro x hx
  obtain ⟨i,hi,rfl⟩:=List.mem_iff_getElem.1 hx
  have h3:i<(rowsM H L).length:=by rw[rowsM_len H L hL];exact hi
  have h4:=h0 _ (List.getElem_mem h3)
  rw[rowsM_get H L i hi (by omega) h3] at h4
  have:=rowB_head h4
  unfold I64
  dsimp only at this
  omega
 constructor
 ·intro x hx
  obtain ⟨y,hy,rfl⟩:=List.mem_map.1 hx
  exact (hat y hy).1
 ·intro x hx
  obtain ⟨y,hy,rfl⟩:=List.mem_map.1 hx
  exact (hat y hy).2
end Go.Proofs.YtcmffaejcnbheaaGreat.Lib0
namespace Go.Proofs.YtcmffaejcnbheaaGreat.Lib0
open Go.RowKit Go.Proofs.YtcmffaejcnbheaaGreatW.PrintWords Go.ChangeMaps
def RowsR (w:World) (lo:Nat) (H:List RowH) (L:List (List CellM)):Prop:=H.length=L.length∧∀ i (h1:i<H.length) (h2:i<L.length),H[i].n=L[i].length∧L[i].length≤H[i].c∧kc.R 78 w lo (fun _=>True) (.slice H[i].A H[i].n H[i].c) L[i]
theorem RowsR.on {w:World} {lo:Nat} {H:List RowH} {L:List (List CellM)} (h:RowsR w lo H L):RowsOn w H L:=⟨h.1,fun i h1 h2=>by
 obtain ⟨q1,q2,q3⟩:=h.2 i h1 h2
 refine ⟨q1,q2,?_⟩
 rw[q1] at q3
 exact C_of q3⟩
theorem RowsR.grown {α:Type} {d:Kd α} {e base lo:Nat} {ok:Nat→Prop} {w w1:World} {v:Value} {l:List α} {H:List RowH} {L:List (List CellM)} (h:RowsR w lo H L) (h':d.R e w base ok v l) (hne:78≠e) (hg:w.grownBy w1 v.ownBlock):RowsR w1 lo H L:=
 ⟨h.1,fun i h1 h2=>⟨(h.2 i h1 h2).1,(h.2 i h1 h2).2.1,R_grown_ne rfl (h.2 i h1 h2).2.2 h' hne hg⟩⟩
theorem RowsR.snoc {w:World} {lo:Nat} {H:List RowH} {L:List (List CellM)} (h:RowsR w lo H L) (x:RowH) (cs:List CellM) (h1:x.n=cs.length) (h2:cs.length≤x.c) (hr:kc.R 78 w lo (fun _=>True) (.slice x.A x.n x.c) cs):RowsR w lo (H++[x]) (L++[cs]):=by
 refine ⟨by simp[h.1],fun i k1 k2=>?_⟩
 rw[List.length_append,List.length_singleton] at k1 k2
 by_cases hi:i<H.length
 ·have hi2:i<L.length:=by rw[← h.1];exact hi
  rw[List.getElem_append_left hi,List.getElem_append_left hi2]
  exact h.2 i hi hi2
 ·have e1:i=H.length:=by omega
  have e2:i=L.length:=by rw[← h.1];exact e1
  have g1:(H++[x])[i]'(by simp;omega)=x:=by subst e1;simp
  have g2:(L++[cs])[i]'(by simp;omega)=cs:=by subst e2;simp
  rw[g1,g2]
  exact ⟨h1,h2,hr⟩
theorem rowsM_snoc:∀ (H:List RowH) (L:List (List CellM)) (x:RowH) (cs:List CellM),H.length=L.length→rowsM (H++[x]) (L++[cs])=rowsM H L++[⟨x.t,x.s,cs⟩]
 | [],[],x,cs,_=>rfl
 | h :: H,c :: L,x,cs,e=>by
  show _ :: rowsM (H++[x]) (L++[cs])=_ :: (rowsM H L++[_])
  rw[rowsM_snoc H L x cs (by simpa using e)]
section
variable {P:Program} {ops:Array Oper} {rest:List Oper} {o:Oper} {a:Act} {Q:Exit→Act→World→Prop}
theorem kr_append {W:World} (s x:Operand) (t e:TypeId) (v:Value) (xs:List RowH) (p:RowH) (base:Nat)
  (hgd:o.guard=none) (ho:o.op = .call { callee:=.builtin .append,args:=#[s,x],argTypes:=#[t,t] })
  (ht:P.underlying t=some (.slice e)) (hinfo:(P.info? e).map (fun i=>(i.zero,i.size,i.bytes))=some (some (.agg #[.int .i64 0,.int .i64 0,.slice none 0 0]),3,40))
  (hs:a.eval s=v) (hx:a.eval x = .slice (some ⟨W.heap.size,0,none⟩) 1 1)
  (HO:kr.R e W base (fun _=>True) v xs) (hbase:base≤W.heap.size) (hl:xs.length≤1099511627776)
  (h:∀ v1 w1,kr.R e w1 base (fun _=>True) v1 (xs++[p])→Below base W w1→W.grownBy w1 v.ownBlock→(v1.ownBlock=v.ownBlock∨∃ b,v1.ownBlock=some b∧W.heap.size≤b)→wpList P ops Q rest (a.put o.dst v1) w1) :
  wpList P ops Q (o :: rest) a (W.alloc (.cells #[.int .i64 p.t,.int .i64 p.s,.slice p.A p.n p.c] e)):=
 Kd.R_append kr (w0:=W) base hgd s x t e (.agg #[.int .i64 0,.int .i64 0,.slice none 0 0]) 40 ho ht hinfo rfl (by decide) (by decide) v xs p p.cells (fun _=>True) (fun _=>False) hs hx (kr_M p) (fun _ hk=>hk.elim) (fun _ _=>trivial)
  HO (Below.refl _ _) hbase (by omega) h
end
theorem RowsR.below {w w':World} {lo:Nat} {H:List RowH} {L:List (List CellM)} (h:RowsR w lo H L) (hb:Below w.heap.size w w'):RowsR w' lo H L:=⟨h.1,fun i h1 h2=>⟨(h.2 i h1 h2).1,(h.2 i h1 h2).2.1,Kd.R_below (h.2 i h1 h2).2.2 hb⟩⟩
def RisS (w:World) (r:List RowM) (e:Ending) (w':World):Prop:=
 ∃ (H:List RowH) (L:List (List CellM)) (A:Option Addr) (c:Nat),e = .returned (.slice A H.length c)∧kr.R 76 w' w.heap.size (fun _=>True) (.slice A H.length c) H∧RowsR w' w.heap.size H L∧rowsM H L=r∧Below w.heap.size w w'
theorem rowsM_lt:∀ (H:List RowH) (L:List (List CellM)) (k:Nat),k<H.length→k<L.length→k<(rowsM H L).length
 | h :: H,c :: L,0,_,_=>by show 0<(rowsM H L).length+1;omega
 | h :: H,c :: L,k+1,h1,h2=>by
  have:=rowsM_lt H L k (by simpa using h1) (by simpa using h2)
  show k+1<(rowsM H L).length+1
  omega
end Go.Proofs.YtcmffaejcnbheaaGreat.Lib0
namespace Go.Proofs.YtcmffaejcnbheaaGreatW.PrintWords
open Go.RowKit
section
variable {P:Program} {d:Nat} {xs ys:Array Value} {f:Field} {fs:List Field} {a b:Value} {r s:Bool} {w:World}
theorem eqf_last (hn:(f.name == "_")=false) (ha:(part f.type xs f.offset).run P w = .ok a w) (hb:(part f.type ys f.offset).run P w = .ok b w) (he:(Op.equalIn d f.type a b).run P w = .ok r w):(Op.eqFields d xs ys [f]).run P w = .ok r w:=by
 have hn':f.name ≠ "_":=by simpa using hn
 simp only[Op.eqFields,if_pos hn',Sem.run_bind,ha,hb,he,Result.andThen_ok]
 cases r<;>simp
theorem eqf_cons (hn:(f.name == "_")=false) (ha:(part f.type xs f.offset).run P w = .ok a w) (hb:(part f.type ys f.offset).run P w = .ok b w) (he:(Op.equalIn d f.type a b).run P w = .ok r w) (hr:(Op.eqFields d xs ys fs).run P w = .ok s w):(Op.eqFields d xs ys (f :: fs)).run P w = .ok (r && s) w:=by
 have hn':f.name ≠ "_":=by simpa using hn
 rw[Op.eqFields]
 simp only[if_pos hn',Sem.run_bind,ha,hb,he,Result.andThen_ok]
 cases r
 ·simp
 ·simpa using hr
theorem eqA_of {t:TypeId} {fs:Array Field} (hu:P.underlying t=some (.struct fs)) (hp:P.stoodInHeld t=false) (h:(Op.eqFields d xs ys fs.toList).run P w = .ok r w):(Op.equalIn (d+1) t (.agg xs) (.agg ys)).run P w = .ok r w:=by
 have hf:P.fieldsOf t=fs:=by simp[Program.fieldsOf,hu]
 rw[run_equalIn_struct (P:=P) w d t xs ys (by rw[hf];exact hu) hp,hf]
 exact h
end
end Go.Proofs.YtcmffaejcnbheaaGreatW.PrintWords

import Derived.Test.YtpiobnfakmmpdaaGreatP27
set_option linter.unusedVariables false
set_option linter.unusedSimpArgs false
namespace Go.Proofs.YtpiobnfakmmpdaaGreat.Lib0
open Go.RowKit Go.Proofs.YtpiobnfakmmpdaaGreatW.PrintWords Go.ChangeMaps
def fnvF (s:ByteArray):Nat→Nat→Int→Int
 | 0,_,h=>h
 | f+1,k,h=>if hk:k<s.size then fnvF s f (k+1) (IntKind.u64.wrap (Go.bits BinOp.xor IntKind.u64 h (IntKind.u64.wrap (s[k].toNat:Int))*1099511628211)) else h
def fnv (s:ByteArray):Int:=fnvF s s.size 0 14695981039346656037
set_option maxHeartbeats 1600000 in
set_option maxRecDepth 100000 in
theorem sum_Fnv (s:ByteArray) (hs:s.size≤1099511627776) (w:World) :
  Calls Tryz.prog 201 #[.string s] w fun e w'=>e = .returned (.int .u64 (fnv s))∧w=w':=by
 obtain ⟨r,hr⟩:∃ r,r=fnv s:=⟨_,rfl⟩
 rw[← hr]
 have HR:=mk0 hr
 clear hr
 go_enter Tryz.func201,Tryz.ntmps201
 go_wp2_with fail
 go_loopw[3,7] (fun v3 v7 wr=>∃ (k:Nat) (h:Int),k≤s.size∧v7 = .int .i64 k∧v3 = .int .u64 h∧Aside0 (r=fnvF s (s.size-k) k h)∧wr=w) (fun _ i _=>s.size-(intOf i).toNat)
 case atStart=>exact ⟨0,14695981039346656037,by omega,rfl,rfl,HR,rfl⟩
 case round=>
  clear HR
  obtain ⟨k,h,hk,rfl,rfl,HE,rfl⟩:=hrel
  by_cases hlt:k<s.size
  ·have hlt2:(k:Int)<s.size:=by omega
   have HE2:=mk0 (show r=fnvF s (s.size-(k+1)) (k+1) (IntKind.u64.wrap (Go.bits BinOp.xor IntKind.u64 h (IntKind.u64.wrap (s[k].toNat:Int))*1099511628211)) by
    rw[HE.out,show s.size-k=(s.size-(k+1))+1 by omega,fnvF,dif_pos hlt])
   clear HE
   go_wp2
   go_roundw
   case rel=>exact ⟨k+1,_,by omega,by go_num,rfl,HE2,by first | rfl | trivial⟩
   case measure=>simp[intOf];omega
  ·have hlt2:¬ (k:Int)<s.size:=by omega
   have HS:=mk0 (show r=h by rw[HE.out,show s.size-k=0 by omega];rfl)
   go_wp2
   go_ret
   exact ⟨by rw[HS.out];rfl,rfl⟩
end Go.Proofs.YtpiobnfakmmpdaaGreat.Lib0
namespace Go.Proofs.YtpiobnfakmmpdaaGreat.Lib0
open Go.RowKit Go.Proofs.YtpiobnfakmmpdaaGreatW.PrintWords Go.ChangeMaps
section
variable {P:Program} {ops:Array Oper} {rest:List Oper} {o:Oper} {a:Act} {Q:Exit→Act→World→Prop}
theorem ku_append {W:World} (s x:Operand) (t e:TypeId) (v:Value) (xs:List Int) (p:Int) (base:Nat)
  (hgd:o.guard=none) (ho:o.op = .call { callee:=.builtin .append,args:=#[s,x],argTypes:=#[t,t] })
  (ht:P.underlying t=some (.slice e)) (hinfo:(P.info? e).map (fun i=>(i.zero,i.size,i.bytes))=some (some (.int .u64 0),1,8))
  (hs:a.eval s=v) (hx:a.eval x = .slice (some ⟨W.heap.size,0,none⟩) 1 1)
  (HO:(Kd.int .u64).R e W base (fun _=>True) v xs) (hbase:base≤W.heap.size) (hl:xs.length≤1099511627776)
  (h:∀ v1 w1,(Kd.int .u64).R e w1 base (fun _=>True) v1 (xs++[p])→Below base W w1→W.grownBy w1 v.ownBlock→(v1.ownBlock=v.ownBlock∨∃ b,v1.ownBlock=some b∧W.heap.size≤b)→wpList P ops Q rest (a.put o.dst v1) w1) :
  wpList P ops Q (o :: rest) a (W.alloc (.cells #[.int .u64 p] e)):=
 Kd.R_append (Kd.int .u64) (w0:=W) base hgd s x t e (.int .u64 0) 8 ho ht hinfo rfl (by decide) (by decide) v xs p [.int .u64 p] (fun _=>True) (fun _=>False) hs hx rfl (fun _ hk=>hk.elim) (fun _ _=>trivial)
  HO (Below.refl _ _) hbase (by omega) h
end
def spotV (z n:Int) (k:Nat):Int:=(IntKind.u64.wrap (Go.bits BinOp.and IntKind.u64 z 4294967295+IntKind.u64.wrap ((k:Int)*Go.bits BinOp.or IntKind.u64 (z/4294967296) 1))).tmod n
def spotsL (s:ByteArray) (n:Int):List Int:=(List.range 4).map (spotV (fnv s) n)
theorem spotV_range (z n:Int) (k:Nat) (hn:0<n):0≤spotV z n k∧spotV z n k<n:=by
 unfold spotV
 have h:0≤IntKind.u64.wrap (Go.bits BinOp.and IntKind.u64 z 4294967295+IntKind.u64.wrap ((k:Int)*Go.bits BinOp.or IntKind.u64 (z/4294967296) 1)):=by rw[IntKind.wrap_u64];omega
 exact ⟨Int.tmod_nonneg _ h,Int.tmod_lt_of_pos _ hn⟩
def SpotS (w:World) (l:List Int) (e:Ending) (w':World):Prop:=∃ v,e = .returned v∧(Kd.int .u64).R 117 w' w.heap.size (fun _=>True) v l∧Below w.heap.size w w'
set_option maxHeartbeats 1600000 in
set_option maxRecDepth 100000 in
theorem bloom_spots (s:ByteArray) (n:Int) (hn:0<n∧n≤1099511627776) (hs:s.size≤1099511627776) (w:World) :
  Calls Tryz.prog 167 #[.string s,.int .i64 n] w (SpotS w (spotsL s n)):=by
 unfold spotsL
 have HF:=mk0 (fun W=>sum_Fnv s hs W)
 generalize fnv s=z at *
 have hnw:IntKind.u64.wrap n=n:=by rw[IntKind.wrap_u64];omega
 have hn0:¬ n=0:=by omega
 have hnb:(n==0)=false:=by rw[beq_eq_false_iff_ne];omega
 go_enter Tryz.func167,Tryz.ntmps167
 go_wp2_with fail
 refine (HF.out _).mono ?_
 rintro e w1 ⟨rfl,rfl⟩
 go_wp2_with fail
 go_loopw[8,17] (fun v8 v17 wr=>∃ (k:Nat) (l1:List Int),k≤4∧v17 = .int .u64 k∧Aside0 (l1=(List.range k).map (spotV z n))∧Aside0 ((Kd.int .u64).R 117 wr w.heap.size (fun _=>True) v8 l1)∧Aside0 (Below w.heap.size w wr)) (fun _ i _=>4-(intOf i).toNat)
 case atStart=>exact ⟨0,[],by omega,rfl,⟨rfl⟩,⟨Kd.R_nil _ _ _ _ _⟩,⟨Below.refl _ _⟩⟩
 case round=>
  obtain ⟨k,l1,hk,rfl,HK,HR,HB⟩:=hrel
  obtain ⟨A1,c1,hv⟩:=Kd.R_slice HR.out
  subst hv
  by_cases hlt:k<4
  ·have hlt2:(k:Int)<4:=by omega
   have HL1:=mk0 (show l1.length≤1099511627776 by rw[HK.out,List.length_map,List.length_range];omega)
   have HK2:=mk0 (show l1++[spotV z n k]=(List.range (k+1)).map (spotV z n) by rw[HK.out,List.range_succ,List.map_append];rfl)
   have hk64:IntKind.u64.wrap ((k:Int)+1)=(k:Int)+1:=by rw[IntKind.wrap_u64];omega
   go_wp2_with (at_builtin;go_loud (refine ku_append (W:=wr) (.tmp 20) (.tmp 29) 191 117 (.slice A1 l1.length c1) l1 (spotV z n k) w.heap.size rfl rfl Tryz.underlying191 info_u64 rfl rfl HR.out HB.out.size HL1.out ?_))
   intro v1 w3 hr3 hb3 _ _
   obtain ⟨A3,c3,rfl⟩:=Kd.R_slice hr3
   have HR3:=mk0 hr3
   have HB3:=mk0 (HB.out.trans hb3)
   clear hr3 hb3
   generalize l1++[spotV z n k]=l3 at *
   go_wp2
   go_roundw
   case rel=>exact ⟨k+1,l3,by omega,by go_num,HK2,HR3,HB3⟩
   case measure=>simp[intOf];omega
  ·have hlt2:¬ (k:Int)<4:=by omega
   have HS:=mk0 (show l1=(List.range 4).map (spotV z n) by rw[HK.out,show k=4 by omega])
   go_wp2
   go_ret
   exact ⟨_,rfl,by have e:l1 = [spotV z n 0,spotV z n 1,spotV z n 2,spotV z n 3]:=HS.out;rw[← e];exact HR.out,HB.out⟩
end Go.Proofs.YtpiobnfakmmpdaaGreat.Lib0
namespace Go.Proofs.YtpiobnfakmmpdaaGreat.Lib0
open Go.RowKit Go.Proofs.YtpiobnfakmmpdaaGreatW.PrintWords Go.ChangeMaps
section
variable {α:Type} {d:Kd α} {f:α→List Value} {k:Nat}
variable {P:Program} {ops:Array Oper} {o:Oper} {a:Act} {Q:Exit→Act→World→Prop} {Kc:Act→World→Prop} {E:Prop}
theorem Flat.append_step (F:Flat d f k) {W:World} (base:Nat) (hw:Region.wanted o (yielded ops a.tmps)=true) (s x:Operand) (t e:TypeId) (z:Value) (bytes:Nat)
  (ho:o.op = .call { callee:=.builtin .append,args:=#[s,x],argTypes:=#[t,t] }) (ht:P.underlying t=some (.slice e))
  (hinfo:(P.info? e).map (fun i=>(i.zero,i.size,i.bytes))=some (some z,k,bytes)) (hzs:z.cells.size=k) (hk0:0<k) (hb0:0<bytes)
  (v:Value) (xs ys:List α) (ad:Addr) (m c:Nat) (ok:Nat→Prop) (hs:a.eval s=v) (hx:a.eval x = .slice (some ad) m c) (hm:ys.length=m)
  (hcell:∀ j u,(flatF f ys)[j]?=some u→W.cell? (ad.add j)=some u) (hfresh:ok W.heap.size)
  (HO:d.R e W base ok v xs) (hbase:base≤W.heap.size) (hl:(xs.length+m)*bytes≤140737488355328)
  (h:∀ v1 w1,d.R e w1 base ok v1 (xs++ys)→Below base W w1→W.grownBy w1 v.ownBlock→(v1.ownBlock=v.ownBlock∨v1.ownBlock=some W.heap.size)→Kc (a.put o.dst v1) w1) :
  if Region.wanted o (yielded ops a.tmps)=true then Oper.wp P o a W Kc Q else E:=by
 obtain ⟨i,hi,hz0⟩:=Option.map_eq_some_iff.1 hinfo
 simp only[Prod.mk.injEq] at hz0
 obtain ⟨hzz,hsz,hby⟩:=hz0
 obtain ⟨h0,inner,hown,hr⟩:=HO
 rw[F.sz] at hown hr
 have hin:inner=flatF f xs:=by
  have hgen:∀ (xs:List α) (inner:List Value),Reps (d.M W base (fun q=>ok q∧some q≠v.ownBlock)) k xs inner→inner=flatF f xs:=F.inner
  exact hgen xs inner hr
 have hlen:xs.length+m≤140737488355328:=Nat.le_trans (Nat.le_mul_of_pos_right _ hb0) hl
 obtain ⟨v1,w1,hrun,h2,h3,_,h5⟩:=run_append_own_at (P:=P) W base t o.type e i z k bytes ht hi hzz hsz hby hzs hk0 v xs.length inner hown ad m c (flatF f ys) (by rw[F.flat_len,hm]) hcell
  (F.flat_one ys) (by simp only[maxLen];omega) hl hbase
 rw[if_pos hw]
 unfold Oper.wp execOp
 simp only[ho,resolve,invoke,builtin,Sem.run_bind,Sem.run_pure,Result.andThen_ok,List.map_toArray,List.map_cons,List.map_nil,hs,hx,hrun]
 refine h v1 w1 ⟨fun q hq=>?_,inner++flatF f ys,?_,?_⟩ ((Below.refl base W).grown h3 hbase (own_base hown)) h3 h5
 ·rcases h5 with e1 | e1
  ·exact h0 q (by rw[← e1];exact hq)
  ·rw[e1] at hq
   injection hq with hq
   subst hq
   exact hfresh
 ·rw[F.sz,List.length_append,hm]
  exact h2
 ·rw[hin,← flatF_append]
  exact F.reps w1 base _ (xs++ys)
end
end Go.Proofs.YtpiobnfakmmpdaaGreat.Lib0
namespace Go.Proofs.YtpiobnfakmmpdaaGreat.Lib0
open Go.RowKit Go.Proofs.YtpiobnfakmmpdaaGreatW.PrintWords Go.ChangeMaps
theorem ki_flat:Flat (Kd.int .i64) (fun n:Int=>[Value.int .i64 n]) 1:=⟨rfl,fun h=>h,fun _=>rfl,fun _=>rfl,fun x u hu=>by
 simp only[List.mem_singleton] at hu
 subst hu
 rfl⟩
theorem Flat.R_ok {α:Type} {d:Kd α} {f:α→List Value} {k:Nat} (F:Flat d f k) {e base:Nat} {W:World} {ok ok':Nat→Prop} {v:Value} {xs:List α} (h:d.R e W base ok v xs) (ho:∀ q,v.ownBlock=some q→ok' q):d.R e W base ok' v xs:=by
 obtain ⟨h0,inner,hown,hr⟩:=h
 have hr2:=hr
 rw[F.sz] at hr2
 have hin:inner=flatF f xs:=F.inner (ok:=fun q=>ok q∧some q≠v.ownBlock) xs inner hr2
 exact ⟨ho,inner,hown,by rw[hin];exact F.reps W base _ xs⟩
structure Two (w V:World) (v1:Value) (l1:List Int) (v2:Value) (l2:List Int):Prop where
 R1:(Kd.int .i64).R 2 V w.heap.size (fun q=>some q≠v2.ownBlock) v1 l1
 R2:(Kd.int .i64).R 2 V w.heap.size (fun q=>some q≠v1.ownBlock) v2 l2
 B:Below w.heap.size w V
def Pend (V:World) (v1 v2 z:Value) (n:Int):Prop:=∃ b,z = .slice (some ⟨b,0,none⟩) 1 1∧V.cell? ⟨b,0,none⟩=some (.int .i64 n)∧some b≠v1.ownBlock∧some b≠v2.ownBlock
theorem Two.alloc {w V:World} {v1 v2:Value} {l1 l2:List Int} (h:Two w V v1 l1 v2 l2) (o:Obj):Two w (V.alloc o) v1 l1 v2 l2:=
 ⟨Kd.R_alloc h.R1 o,Kd.R_alloc h.R2 o,h.B.trans ((below_alloc (Below.refl _ _) o).mono h.B.size)⟩
theorem Two.drew {w V:World} {v1 v2:Value} {l1 l2:List Int} (h:Two w V v1 l1 v2 l2):Two w V.drew v1 l1 v2 l2:=
 ⟨Kd.R_drew h.R1,Kd.R_drew h.R2,h.B.trans (below_drew _ _)⟩
theorem Two.lt1 {w V:World} {v1 v2:Value} {l1 l2:List Int} (h:Two w V v1 l1 v2 l2):∀ k,v1.ownBlock=some k→k<V.heap.size:=Kd.R_lt h.R1
theorem Two.lt2 {w V:World} {v1 v2:Value} {l1 l2:List Int} (h:Two w V v1 l1 v2 l2):∀ k,v2.ownBlock=some k→k<V.heap.size:=Kd.R_lt h.R2
theorem Pend.new {w V:World} {v1 v2:Value} {l1 l2:List Int} (h:Two w V v1 l1 v2 l2) {b t:Nat} {n:Int} (hb:b=V.heap.size):Pend (V.alloc (.cells #[.int .i64 n] t)) v1 v2 (.slice (some ⟨b,0,none⟩) 1 1) n:=by
 subst hb
 refine ⟨_,rfl,cell_of_heap (i:=0) (heap_alloc_new V _) rfl,fun e=>?_,fun e=>?_⟩
 ·exact absurd (h.lt1 _ e.symm) (Nat.lt_irrefl _)
 ·exact absurd (h.lt2 _ e.symm) (Nat.lt_irrefl _)
theorem Pend.alloc {V:World} {v1 v2 z:Value} {n:Int} (h:Pend V v1 v2 z n) (o:Obj):Pend (V.alloc o) v1 v2 z n:=by
 obtain ⟨b,rfl,hc,h1,h2⟩:=h
 exact ⟨b,rfl,(World.cell?_alloc_lt _ _ _ (World.block_lt_of_cell? V _ hc)).trans hc,h1,h2⟩
theorem Pend.drew {V:World} {v1 v2 z:Value} {n:Int} (h:Pend V v1 v2 z n):Pend V.drew v1 v2 z n:=h
def Cel (V:World) (v1 v2:Value) (ad:Addr) (u:Value):Prop:=V.cell? ad=some u∧some ad.block≠v1.ownBlock∧some ad.block≠v2.ownBlock
theorem Cel.alloc {V:World} {v1 v2 u:Value} {ad:Addr} (h:Cel V v1 v2 ad u) (o:Obj):Cel (V.alloc o) v1 v2 ad u:=⟨(World.cell?_alloc_lt _ _ _ (World.block_lt_of_cell? V _ h.1)).trans h.1,h.2⟩
theorem Cel.drew {V:World} {v1 v2 u:Value} {ad:Addr} (h:Cel V v1 v2 ad u):Cel V.drew v1 v2 ad u:=h
theorem Cel.swap {V:World} {v1 v2 u:Value} {ad:Addr} (h:Cel V v1 v2 ad u):Cel V v2 v1 ad u:=⟨h.1,h.2.2,h.2.1⟩
section
variable {P:Program} {ops:Array Oper} {o:Oper} {a:Act} {Q:Exit→Act→World→Prop} {Kc:Act→World→Prop} {E:Prop}
theorem push1 {w V:World} (hgd:o.guard=none) (s x:Operand) (t:TypeId) (ho:o.op = .call { callee:=.builtin .append,args:=#[s,x],argTypes:=#[t,t] }) (ht:P.underlying t=some (.slice 2))
  (hinfo:(P.info? 2).map (fun i=>(i.zero,i.size,i.bytes))=some (some (.int .i64 0),1,8)) (v1:Value) (l1:List Int) (v2:Value) (l2:List Int) (n:Int)
  (hs:a.eval s=v1) (hz:Pend V v1 v2 (a.eval x) n) (H:Two w V v1 l1 v2 l2) (hl:l1.length≤1099511627776)
  (h:∀ A c w1,Two w w1 (.slice A (l1.length+1) c) (l1++[n]) v2 l2→(∀ z m,Pend V v1 v2 z m→Pend w1 (.slice A (l1.length+1) c) v2 z m)→(∀ ad u,Cel V v1 v2 ad u→Cel w1 (.slice A (l1.length+1) c) v2 ad u)→Kc (a.put o.dst (.slice A (l1.length+1) c)) w1) :
  if Region.wanted o (yielded ops a.tmps)=true then Oper.wp P o a V Kc Q else E:=by
 obtain ⟨b,hz1,hz2,hz3,hz4⟩:=hz
 refine ki_flat.append_step w.heap.size (by simp[Region.wanted,hgd]) s x t 2 _ 8 ho ht hinfo rfl (by decide) (by decide) v1 l1 [n] ⟨b,0,none⟩ 1 1 _ hs hz1 rfl ?_ ?_ H.R1 H.B.size (by omega) ?_
 ·intro j u hj
  rcases j with _ | j
  ·simp only[flatF,List.map_cons,List.map_nil,List.flatten_cons,List.flatten_nil,List.append_nil,List.getElem?_cons_zero,Option.some.injEq] at hj
   subst hj
   exact hz2
  ·simp[flatF] at hj
 ·intro e
  exact absurd (H.lt2 _ e.symm) (Nat.lt_irrefl _)
 ·intro u1 w1 r1 b1 g1 own
  obtain ⟨A,c,e1⟩:=Kd.R_slice r1
  rw[List.length_append] at e1
  change u1 = .slice A (l1.length+1) c at e1
  subst e1
  have hown:∀ k,some k=v2.ownBlock→some k≠(Value.slice A (l1.length+1) c).ownBlock:=by
   intro k hk e
   rcases own with e1 | e1
   ·exact H.R2.1 k hk.symm (e.trans e1)
   ·rw[e1] at e
    injection e with e
    subst e
    exact absurd (H.lt2 _ hk.symm) (Nat.lt_irrefl _)
  have hcel:∀ ad u,Cel V v1 v2 ad u→Cel w1 (.slice A (l1.length+1) c) v2 ad u:=by
   rintro ad u ⟨p1,p2,p3⟩
   refine ⟨by have:=g1.block ad.block (World.block_lt_of_cell? V _ p1) p2;simpa [World.cell?,this] using p1,fun e=>?_,p3⟩
   rcases own with e1 | e1
   ·exact p2 (e.trans e1)
   ·rw[e1] at e
    injection e with e
    exact absurd (World.block_lt_of_cell? V _ p1) (by rw[e];exact Nat.lt_irrefl _)
  refine h A c w1 ⟨r1,ki_flat.R_ok (R_moved rfl H.R2 (fun k hk=>g1.block k (Kd.R_lt H.R2 k hk) (fun e=>H.R2.1 k hk e))) (fun k hk=>hown k hk.symm),H.B.trans b1⟩ (fun z m hp=>?_) hcel
  obtain ⟨b',e0,p1,p2,p3⟩:=hp
  obtain ⟨q1,q2,q3⟩:=hcel ⟨b',0,none⟩ _ ⟨p1,p2,p3⟩
  exact ⟨b',e0,q1,q2,q3⟩
theorem Two.swap {w V:World} {v1 v2:Value} {l1 l2:List Int} (h:Two w V v1 l1 v2 l2):Two w V v2 l2 v1 l1:=⟨h.R2,h.R1,h.B⟩
theorem Pend.swap {V:World} {v1 v2 z:Value} {n:Int} (h:Pend V v1 v2 z n):Pend V v2 v1 z n:=by
 obtain ⟨b,h1,h2,h3,h4⟩:=h
 exact ⟨b,h1,h2,h4,h3⟩
theorem push2 {w V:World} (hgd:o.guard=none) (s x:Operand) (t:TypeId) (ho:o.op = .call { callee:=.builtin .append,args:=#[s,x],argTypes:=#[t,t] }) (ht:P.underlying t=some (.slice 2))
  (hinfo:(P.info? 2).map (fun i=>(i.zero,i.size,i.bytes))=some (some (.int .i64 0),1,8)) (v1:Value) (l1:List Int) (v2:Value) (l2:List Int) (n:Int)
  (hs:a.eval s=v2) (hz:Pend V v1 v2 (a.eval x) n) (H:Two w V v1 l1 v2 l2) (hl:l2.length≤1099511627776)
  (h:∀ A c w1,Two w w1 v1 l1 (.slice A (l2.length+1) c) (l2++[n])→(∀ z m,Pend V v1 v2 z m→Pend w1 v1 (.slice A (l2.length+1) c) z m)→(∀ ad u,Cel V v1 v2 ad u→Cel w1 v1 (.slice A (l2.length+1) c) ad u)→Kc (a.put o.dst (.slice A (l2.length+1) c)) w1) :
  if Region.wanted o (yielded ops a.tmps)=true then Oper.wp P o a V Kc Q else E:=
 push1 hgd s x t ho ht hinfo v2 l2 v1 l1 n hs hz.swap H.swap hl (fun A c w1 h1 h2 h3=>h A c w1 h1.swap (fun z m hp=>(h2 z m hp.swap).swap) (fun ad u hp=>(h3 ad u hp.swap).swap))
end
end Go.Proofs.YtpiobnfakmmpdaaGreat.Lib0

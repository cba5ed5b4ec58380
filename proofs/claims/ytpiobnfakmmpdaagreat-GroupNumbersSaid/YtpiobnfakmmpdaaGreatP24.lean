import Derived.Deep.Upon
import Derived.Test.YtpiobnfakmmpdaaGreatP21
import Derived.Test.YtpiobnfakmmpdaaGreatP23
set_option linter.unusedVariables false
set_option linter.unusedSimpArgs false
namespace Go.Proofs.YtpiobnfakmmpdaaGreat.Lib0
open Go.RowKit Go.Proofs.YtpiobnfakmmpdaaGreatW.PrintWords Go.ChangeMaps
def kindAt (l:List ColM) (i:Nat):Int:=(l[i]?).elim 0 (·.kind)
def growC:List ColM→List CellM→Option (List ColM)
 | l,[]=>some l
 | l,c :: t=>if hasL l c.col then (if kindAt l (atL l c.col)=c.kind then growC l t else none) else growC (insL l (atL l c.col) ⟨c.col,c.kind⟩) t
def growR (l:List ColM) (cs:List CellM):List ColM × Int:=
 match growC l cs with
 | none=>([],22)
 | some l'=>if l'.length≤12 then (l',0) else ([],4)
theorem growC_at (l:List ColM) (cs:List CellM) (k:Nat) (h:k<cs.length):growC l (cs.drop k)=if hasL l cs[k].col then (if kindAt l (atL l cs[k].col)=cs[k].kind then growC l (cs.drop (k+1)) else none) else growC (insL l (atL l cs[k].col) ⟨cs[k].col,cs[k].kind⟩) (cs.drop (k+1)):=by
 rw[List.drop_eq_getElem_cons h,growC]
theorem hasL_lt {l:List ColM} {s:ByteArray} (h:hasL l s=true):atL l s<l.length:=by
 unfold hasL at h
 rw[Bool.and_eq_true] at h
 exact of_decide_eq_true h.1
set_option maxHeartbeats 3200000 in
set_option maxRecDepth 100000 in
theorem row_grow {w:World} {base:Nat} {v:Value} {l:List ColM} (h:kl.R 123 w base (fun _=>True) v l) (hbase:base≤w.heap.size) (t s:Int) (A:Option Addr) (cap:Nat) (cs:List CellM)
  (hc:∀ w',Below base w w'→kc.C w' A cs.length cs) (hl:l.length+cs.length≤1099511627776) :
  Calls Tryz.prog 90 #[v,.agg #[.int .i64 t,.int .i64 s,.slice A cs.length cap]] w fun e w'=>
   ∃ v',e = .returned (.tuple #[v',.int .i64 (growR l cs).2])∧kl.R 123 w' base (fun _=>True) v' (growR l cs).1∧Below base w w':=by
 obtain ⟨r,hr⟩:∃ r,r=growR l cs:=⟨_,rfl⟩
 rw[← hr]
 have HR:=mk0 hr
 clear hr
 have HC:=mk0 hc
 have HL:=mk0 hl
 have hcl63:=(hc w (Below.refl _ _)).2.1
 have HBS:=mk0 hbase
 have HB0:=mk0 ((below_alloc (Below.refl w.heap.size w) (.cells #[.int .i64 t,.int .i64 s,.slice A cs.length cap] 35)).mono hbase)
 have HR0:=mk0 (Kd.R_alloc h (.cells #[.int .i64 t,.int .i64 s,.slice A cs.length cap] 35))
 clear hc hl hbase h
 go_enter Tryz.func90,Tryz.ntmps90
 go_wp2_with fail
 go_loopw[0,13] (fun v0 v13 wr=>∃ (k:Nat) (l1:List ColM),k≤cs.length∧v13 = .int .i64 k∧Aside0 (growC l1 (cs.drop k)=growC l cs)∧Aside0 (l1.length≤l.length+k)∧Aside0 (kl.R 123 wr base (fun _=>True) v0 l1)∧Aside0 (Below base w wr)) (fun _ i _=>cs.length-(intOf i).toNat)
 case atStart=>exact ⟨0,l,by omega,rfl,⟨rfl⟩,⟨by omega⟩,HR0,HB0⟩
 case round=>
  clear HR0 HB0
  obtain ⟨k,l1,hk,rfl,HE,HLN,HRR,HB⟩:=hrel
  obtain ⟨A1,c1,hv0⟩:=Kd.R_slice HRR.out
  subst hv0
  by_cases hlt:k<cs.length
  case neg=>
   have hlt2:¬ (k:Int)<cs.length:=by omega
   have HE2:=mk0 (show growC l cs=some l1 by rw[← HE.out,List.drop_eq_nil_of_le (by omega)];rfl)
   by_cases h12:l1.length≤12
   ·have hd:decide ((12:Int)<l1.length)=false:=decide_eq_false (by omega)
    have hd2:decide (12<l1.length)=false:=decide_eq_false (by omega)
    have HS:=mk0 (show r=(l1,0) by rw[HR.out,growR,HE2.out];exact if_pos h12)
    go_wp2
    go_ret2
    exact ⟨_,by rw[HS.out];rfl,by rw[HS.out];exact HRR.out,HB.out⟩
   ·have hd:decide ((12:Int)<l1.length)=true:=decide_eq_true (by omega)
    have hd2:decide (12<l1.length)=true:=decide_eq_true (by omega)
    have HS:=mk0 (show r=([],4) by rw[HR.out,growR,HE2.out];exact if_neg h12)
    go_wp2
    go_ret2
    exact ⟨_,by rw[HS.out];rfl,by rw[HS.out];exact Kd.R_nil _ _ _ _ _,HB.out⟩
  have hlt2:(k:Int)<cs.length:=by omega
  obtain ⟨b,o,rfl,hx⟩:=kc_open (HC.out wr HB.out) (by omega)
  obtain ⟨z0,z1,z2,z3⟩:=hx k hlt
  have HE2:=mk0 (growC_at l1 cs k hlt ▸ HE.out)
  obtain ⟨c,hcc⟩:∃ c,c=cs[k]:=⟨_,rfl⟩
  rw[← hcc] at z0 z1 z2 z3 HE2
  clear hcc hx HE
  have BA:=below_alloc (Below.refl wr.heap.size wr) (.cells #[.string c.col,.int .i64 c.kind,.int .i64 c.n,.string c.s] 37)
  have hnew:=heap_alloc_new wr (.cells #[.string c.col,.int .i64 c.kind,.int .i64 c.n,.string c.s] 37)
  have hl40:l1.length≤1099511627776:=by have:=HLN.out;have:=HL.out;omega
  have HRA:=mk0 (Kd.R_alloc HRR.out (.cells #[.string c.col,.int .i64 c.kind,.int .i64 c.n,.string c.s] 37))
  have hbw:base≤wr.heap.size:=Nat.le_trans HBS.out HB.out.size
  have HBA:=mk0 (HB.out.trans (BA.mono hbw))
  have HSE:=mk0 (cols_Search A1 c1 l1 c.col _ (Kd.R_reads' HRA.out).2.2 hl40)
  have HN:=mk0 hnew
  have HBW:=mk0 hbw
  have HLL:=mk0 hl40
  clear BA hnew hbw hl40 HRR HB
  go_wp2_with fail
  (with_reducible refine HSE.out.mono ?_)
  rintro e w2 ⟨rfl,hb⟩
  have hbx:w2.heap[wr.heap.size]?=some (.cells #[.string c.col,.int .i64 c.kind,.int .i64 c.n,.string c.s] 37):=(hb.block _ (by simp)).trans HN.out
  have x0:=cell_of_heap (i:=0) hbx rfl
  have x1:=cell_of_heap (i:=1) hbx rfl
  have hR2:=Kd.R_below HRA.out hb
  have hB2:Below base w w2:=HBA.out.trans (hb.mono (by have:=HBW.out;simp;omega))
  have hb2:base≤w2.heap.size:=Nat.le_trans HBS.out hB2.size
  have H2:=mk0 (And.intro hR2 (And.intro hB2 hb2))
  obtain ⟨q,hq⟩:∃ q,q=atL l1 c.col:=⟨_,rfl⟩
  have hql:q≤l1.length:=by rw[hq];exact atL_le _ _
  clear hb hbx hB2 HSE HRA HBA HN z0 z1 z2 z3
  cases hh:hasL l1 c.col with
  | false=>
   have HE3:=mk0 HE2.out
   rw[hh,if_neg (by simp)] at HE3
   have HI:=mk0 (cols_Insert hR2 hb2 ⟨c.col,c.kind⟩ q hql HLL.out)
   have HLQ:=mk0 hql
   rw[← hq] at HE3 ⊢
   clear hR2 hb2 HE2 hh hq hql
   go_wp2_with fail
   (with_reducible refine HI.out.mono ?_)
   rintro e w3 ⟨v',rfl,hr3,hb3⟩
   obtain ⟨A3,c3,rfl⟩:=Kd.R_slice hr3
   have HR3:=mk0 hr3
   have HB3:=mk0 (H2.out.2.1.trans hb3)
   have HLN3:=mk0 (show (insL l1 q ⟨c.col,c.kind⟩).length≤l.length+(k+1) by rw[insL_len _ _ _ HLQ.out];have:=HLN.out;omega)
   clear hr3 hb3 x0 x1 HI
   generalize insL l1 q ⟨c.col,c.kind⟩=l3 at *
   go_wp2
   go_roundw
   case rel=>exact ⟨k+1,l3,by omega,by go_num,HE3,HLN3,HR3,HB3⟩
   case measure=>simp[intOf];omega
  | true=>
   have hqlt:q<l1.length:=by rw[hq];exact hasL_lt hh
   have hqi:(q:Int)<l1.length:=by omega
   obtain ⟨b1,o1,rfl,hy⟩:=kl_open (Kd.R_reads' hR2).2.2 (by omega)
   obtain ⟨y0,y1⟩:=hy q hqlt
   have HE3:=mk0 HE2.out
   have hkq:kindAt l1 q=l1[q].kind:=by unfold kindAt;rw[List.getElem?_eq_getElem hqlt];rfl
   rw[hh,if_pos rfl,← hq,hkq] at HE3
   rw[← hq]
   obtain ⟨y,hyy⟩:∃ y,y=l1[q]:=⟨_,rfl⟩
   rw[← hyy] at y0 y1 HE3
   clear hR2 hb2 HE2 hh hq hql hy hkq hyy
   by_cases hkk:y.kind=c.kind
   ·have HE4:=mk0 HE3.out
    rw[if_pos hkk] at HE4
    have hkb:(y.kind != c.kind)=false:=by simp[hkk]
    have HLN3:=mk0 (show l1.length≤l.length+(k+1) by have:=HLN.out;omega)
    clear HE3 hkk
    go_wp2_with fail
    go_quiet (fail)
    have HB3:=mk0 (H2.out.2.1.trans ((Drawn0.below (Drawn0.step (Drawn0.refl w2) nq)).mono H2.out.2.2))
    have HR3:=mk0 (Kd.R_drewN H2.out.1 nq)
    clear x0 x1 y0 y1 H2
    generalize w2.drewN nq=w3 at *
    go_wp2
    go_roundw
    case rel=>exact ⟨k+1,l1,by omega,by go_num,HE4,HLN3,HR3,HB3⟩
    case measure=>simp[intOf];omega
   ·have HE4:=mk0 HE3.out
    rw[if_neg hkk] at HE4
    have hkb:(y.kind != c.kind)=true:=by simp[hkk]
    have HS:=mk0 (show r=([],22) by rw[HR.out,growR,← HE4.out])
    clear HE3 hkk HE4
    go_wp2_with fail
    go_quiet (fail)
    have HB3:=mk0 (H2.out.2.1.trans ((Drawn0.below (Drawn0.step (Drawn0.refl w2) nq)).mono H2.out.2.2))
    clear x0 x1 y0 y1 H2
    generalize w2.drewN nq=w3 at *
    go_wp2
    go_ret2
    exact ⟨_,by rw[HS.out];rfl,by rw[HS.out];exact Kd.R_nil _ _ _ _ _,HB3.out⟩
end Go.Proofs.YtpiobnfakmmpdaaGreat.Lib0
namespace Go.Proofs.YtpiobnfakmmpdaaGreat.Lib0
open Go.RowKit Go.Proofs.YtpiobnfakmmpdaaGreatW.PrintWords Go.ChangeMaps
structure Flat {α:Type} (d:Kd α) (f:α→List Value) (k:Nat):Prop where
 sz:d.sz=k
 K:∀ {w x cs},d.K w x cs→cs=f x
 M:∀ {w:World} {base:Nat} {ok:Nat→Prop} (x:α),d.M w base ok x (f x)
 len:∀ x,(f x).length=k
 one:∀ x,∀ u ∈ f x,u.oneCell'=true
def flatF {α:Type} (f:α→List Value) (xs:List α):List Value:=(xs.map f).flatten
section
variable {α:Type} {d:Kd α} {f:α→List Value} {k:Nat}
theorem Flat.flat_len (F:Flat d f k) (xs:List α):(flatF f xs).length=xs.length*k:=by
 induction xs with
 | nil=>simp[flatF]
 | cons x t ih=>unfold flatF at *;rw[List.map_cons,List.flatten_cons,List.length_append,ih,F.len,List.length_cons,Nat.add_mul,Nat.one_mul,Nat.add_comm]
theorem flatF_append (f:α→List Value) (a b:List α):flatF f (a++b)=flatF f a++flatF f b:=by simp[flatF]
theorem Flat.flat_drop (F:Flat d f k) (xs:List α) (i:Nat) (h:i≤xs.length):(flatF f xs).drop (i*k)=flatF f (xs.drop i):=by
 have e:flatF f xs=flatF f (xs.take i)++flatF f (xs.drop i):=by rw[← flatF_append,List.take_append_drop]
 have hl:(flatF f (xs.take i)).length=i*k:=by rw[F.flat_len,List.length_take,Nat.min_eq_left h]
 rw[e]
 exact List.drop_left' hl
theorem Flat.reps (F:Flat d f k) (w:World) (base:Nat) (ok:Nat→Prop) (xs:List α):Reps (d.M w base ok) d.sz xs (flatF f xs):=⟨by rw[F.flat_len,F.sz],fun j p hj=>by
 have hjl:j<xs.length:=(List.getElem?_eq_some_iff.1 hj).1
 rw[F.sz,F.flat_drop xs j (by omega),List.drop_eq_getElem_cons hjl,(List.getElem?_eq_some_iff.1 hj).2]
 show d.M w base ok p ((f p++flatF f _).take k)
 rw[List.take_left' (F.len p)]
 exact F.M p⟩
theorem Flat.flat_one (F:Flat d f k) (xs:List α):∀ v ∈ flatF f xs,v.oneCell'=true:=by
 intro v hv
 unfold flatF at hv
 rw[List.mem_flatten] at hv
 obtain ⟨l,hl,hv⟩:=hv
 rw[List.mem_map] at hl
 obtain ⟨x,_,rfl⟩:=hl
 exact F.one x v hv
theorem Flat.cell (F:Flat d f k) {w:World} {ad:Addr} {n:Nat} {xs:List α} (h:d.C w (some ad) n xs):∀ j u,(flatF f xs)[j]?=some u→w.cell? (ad.add j)=some u:=by
 intro j u hj
 have hjl:j<(flatF f xs).length:=(List.getElem?_eq_some_iff.1 hj).1
 rw[F.flat_len] at hjl
 have hk0:0<k:=by
  rcases Nat.eq_zero_or_pos k with h0 | h0
  ·rw[h0,Nat.mul_zero] at hjl;omega
  ·exact h0
 have hq:j/k<xs.length:=(Nat.div_lt_iff_lt_mul hk0).2 hjl
 have hn:=h.1
 obtain ⟨ad',e,hc⟩:=h.2.2 (Nat.lt_of_le_of_lt (Nat.zero_le _) (hn ▸ hq))
 cases e
 obtain ⟨cs,hl,hK,hcell⟩:=hc (j/k) _ (List.getElem?_eq_getElem hq)
 have:=F.K hK
 subst this
 have hj2:(flatF f xs)[j]?=(f xs[j/k])[j%k]?:=by
  have e1:j=j/k*k+j%k:=by rw[Nat.mul_comm];exact (Nat.div_add_mod j k).symm
  have:(flatF f xs)[j]?=((flatF f xs).drop (j/k*k))[j%k]?:=by rw[List.getElem?_drop,← e1]
  rw[this,F.flat_drop xs _ (Nat.le_of_lt hq),List.drop_eq_getElem_cons hq]
  show (f _++flatF f _)[j%k]?=_
  rw[List.getElem?_append_left (by rw[F.len];exact Nat.mod_lt _ hk0)]
 have:=hcell (j%k) u (by rw[← hj2];exact hj)
 rw[F.sz] at this
 have e1:j/k*k+j%k=j:=by rw[Nat.mul_comm];exact Nat.div_add_mod j k
 rwa [e1] at this
theorem Flat.R_new (F:Flat d f k) {w:World} {base e g cap:Nat} {cur:Array Value} {xs:List α} (hb:base≤g) (hh:w.heap[g]?=some (.cells cur e (0,0))) (hn:xs.length≤cap) (hm:cap≤maxLen) (hs:cur.size=cap*k) (ht:cur.toList.take (xs.length*k)=flatF f xs) :
  d.R e w base (fun _=>True) (.slice (some ⟨g,0,none⟩) xs.length cap) xs:=
 ⟨fun _ _=>trivial,flatF f xs,⟨by rw[F.flat_len,F.sz],.inr ⟨g,cap,cur,rfl,hb,hh,hn,hm,by rw[hs,F.sz],by rw[F.sz];exact ht⟩⟩,F.reps w base _ xs⟩
variable {P:Program} {ops:Array Oper} {rest:List Oper} {o:Oper} {a:Act} {Q:Exit→Act→World→Prop}
theorem Flat.append_new (F:Flat d f k) {W:World} (base g:Nat) (s x:Operand) (t e:TypeId) (z:Value) (bytes c:Nat) (ad:Addr) (ys:List α)
  (hgd:o.guard=none) (ho:o.op = .call { callee:=.builtin .append,args:=#[s,x],argTypes:=#[t,t] }) (ht:P.underlying t=some (.slice e))
  (hinfo:(P.info? e).map (fun i=>(i.zero,i.size,i.bytes))=some (some z,k,bytes)) (hzs:z.cells.size=k)
  (hs:a.eval s = .slice (some ⟨g,0,none⟩) 0 0) (hx:a.eval x = .slice (some ad) ys.length c)
  (hg:W.heap[g]?=some (.cells #[] e (0,0))) (hbg:base≤g) (HR:d.C W (some ad) ys.length ys) (hl:ys.length*bytes≤140737488355328)
  (h:∀ v1 w1,d.R e w1 base (fun _=>True) v1 ys→Below W.heap.size W w1→wpList P ops Q rest (a.put o.dst v1) w1):wpList P ops Q (o :: rest) a W:=by
 obtain ⟨i,hi,hz0⟩:=Option.map_eq_some_iff.1 hinfo
 simp only[Prod.mk.injEq] at hz0
 obtain ⟨hzz,hsz,hby⟩:=hz0
 have hgs:g<W.heap.size:=(Array.getElem?_eq_some_iff.1 hg).1
 have h63:=HR.2.1
 have hsrc:Src P i.size t (.slice (some ad) ys.length c) ys.length (flatF f ys) W:=Src.ofSlice W ht ad ys.length c (flatF f ys) (by rw[F.flat_len,hsz]) (F.cell HR) (F.flat_one ys)
 rcases Nat.eq_zero_or_pos ys.length with h0 | hp
 ·have hy:ys = []:=List.eq_nil_of_length_eq_zero h0
  subst hy
  have hr:=run_append_nothing (P:=P) W t t o.type e i ht hi (some ⟨g,0,none⟩) 0 0 (Nat.le_refl _) _ hsrc
  refine Lib.wpList_append_run W hgd s x t t ho _ _ hs hx _ _ hr ?_
  exact h _ _ (F.R_new (xs:=[]) hbg hg (Nat.le_refl _) (by unfold maxLen;omega) (by simp) (by simp[flatF])) (Below.refl _ _)
 ·have hr:=run_append_grow_src (P:=P) W t t o.type e i z ht hi hzz (some ⟨g,0,none⟩) 0 0 [] (run_firstCells_some W.drew _ 0 ⟨g,0,none⟩ 0 0 [] (by simp) (by simp)) _ ys.length _ hsrc (by omega) (by omega) (by rw[hby,Nat.zero_add];exact growslice_fits hp hl)
  refine Lib.wpList_append_run W hgd s x t t ho _ _ hs hx _ _ hr ?_
  rw[Nat.zero_add,List.nil_append]
  have hG:=grownCap_ge W ys.length 0 e
  have hGm:=grownCap_le_maxLen W ys.length 0 e (by unfold maxLen;omega)
  generalize grownCap W ys.length 0 e=G at *
  have hh:=heap_alloc_new W.drew (.cells ((flatF f ys).toArray++Builtin.zeroCells z.cells (G-ys.length)) e)
  refine h _ _ (F.R_new (g:=W.heap.size) (Nat.le_trans hbg (by omega)) hh hG hGm ?_ ?_) (below_alloc (below_drew _ _) _)
  ·rw[Array.size_append,List.size_toArray,F.flat_len]
   simp only[Builtin.zeroCells,Array.size_map,Array.size_range,hzs]
   rw[← Nat.add_mul]
   congr 1
   omega
  ·rw[Array.toList_append,List.take_left' (F.flat_len ys)]
end
theorem kl_flat:Flat kl ColM.cells 2:=⟨rfl,fun h=>kl_K h,fun x=>kl_M x,fun _=>rfl,fun x u hu=>by
 unfold ColM.cells at hu
 simp only[List.mem_cons,List.not_mem_nil,or_false] at hu
 rcases hu with rfl | rfl<;>rfl⟩
theorem kc_flat:Flat kc CellM.cells 4:=⟨rfl,fun h=>kc_K h,fun x=>kc_M x,fun _=>rfl,fun x u hu=>by
 unfold CellM.cells at hu
 simp only[List.mem_cons,List.not_mem_nil,or_false] at hu
 rcases hu with rfl | rfl | rfl | rfl<;>rfl⟩
theorem kr_M {w:World} {base:Nat} {ok:Nat→Prop} (c:RowH):kr.M w base ok c c.cells:=
 ⟨[.int .i64 c.t],[.int .i64 c.s,.slice c.A c.n c.c],rfl,rfl,[.int .i64 c.s],[.slice c.A c.n c.c],rfl,rfl,rfl⟩
theorem kr_flat:Flat kr RowH.cells 3:=⟨rfl,fun h=>kr_K h,fun x=>kr_M x,fun _=>rfl,fun x u hu=>by
 unfold RowH.cells at hu
 simp only[List.mem_cons,List.not_mem_nil,or_false] at hu
 rcases hu with rfl | rfl | rfl<;>rfl⟩
theorem info_row:(Tryz.prog.info? 35).map (fun i=>(i.zero,i.size,i.bytes))=some (some (.agg #[.int .i64 0,.int .i64 0,.slice none 0 0]),3,40):=by kernel_rfl
set_option maxHeartbeats 1600000 in
set_option maxRecDepth 100000 in
theorem clone_col (A:Option Addr) (c:Nat) (l:List ColM) (w:World) (h:kl.C w A l.length l) (hl:l.length≤1099511627776) :
  Calls Tryz.prog 86 #[.slice A l.length c] w fun e w'=>∃ v,e = .returned v∧kl.R 123 w' w.heap.size (fun _=>True) v l∧Below w.heap.size w w':=by
 have HC:=mk0 h
 have HL:=mk0 hl
 rcases A with _ | ad
 ·have h0:l = []:=by
   rcases l with _ | ⟨x,l⟩
   ·rfl
   ·obtain ⟨ad,e,_⟩:=h.2.2 (by simp)
    cases e
  subst h0
  rw[List.length_nil]
  have hnil:=fun W=>Go.Lib.run_eql_slice_nil (P:=Tryz.prog) W 87 123 none 0 c 0 0 Tryz.underlying87
  simp only[Option.isNone_none] at hnil
  clear h hl
  go_enter Tryz.func86,Tryz.ntmps86
  go_wp2
  go_ret
  exact ⟨_,rfl,Kd.R_nil _ _ _ _ _,Below.refl _ _⟩
 ·have hnil:=fun W=>Go.Lib.run_eql_slice_nil (P:=Tryz.prog) W 87 123 (some ad) l.length c 0 0 Tryz.underlying87
  simp only[Option.isNone_some] at hnil
  have HB:=mk0 (below_alloc (Below.refl w.heap.size w) (.cells #[] 123))
  have HN:=mk0 (heap_alloc_new w (.cells #[] 123))
  clear h hl
  go_enter Tryz.func86,Tryz.ntmps86
  go_wp2_with (at_builtin;go_loud (refine kl_flat.append_new w.heap.size w.heap.size (.tmp 5) (.tmp 6) 87 123 _ _ c ad l rfl rfl Tryz.underlying87 info_col rfl rfl rfl HN.out (Nat.le_refl _) (Kd.C_below HC.out (below_alloc (Below.refl _ _) _)) ?c2 ?_))
  case c2=>have:=HL.out;omega
  intro v1 w1 hr1 hb1
  have R1:=mk0 hr1
  have B1:=mk0 (HB.out.trans (hb1.mono (by simp)))
  clear hr1 hb1
  go_wp2
  go_ret
  exact ⟨_,rfl,R1.out,B1.out⟩
set_option maxHeartbeats 1600000 in
set_option maxRecDepth 100000 in
theorem clone_cell (A:Option Addr) (c:Nat) (l:List CellM) (w:World) (h:kc.C w A l.length l) (hl:l.length≤1099511627776) :
  Calls Tryz.prog 123 #[.slice A l.length c] w fun e w'=>∃ v,e = .returned v∧kc.R 37 w' w.heap.size (fun _=>True) v l∧Below w.heap.size w w':=by
 have HC:=mk0 h
 have HL:=mk0 hl
 rcases A with _ | ad
 ·have h0:l = []:=by
   rcases l with _ | ⟨x,l⟩
   ·rfl
   ·obtain ⟨ad,e,_⟩:=h.2.2 (by simp)
    cases e
  subst h0
  rw[List.length_nil]
  have hnil:=fun W=>Go.Lib.run_eql_slice_nil (P:=Tryz.prog) W 33 37 none 0 c 0 0 Tryz.underlying33
  simp only[Option.isNone_none] at hnil
  clear h hl
  go_enter Tryz.func123,Tryz.ntmps123
  go_wp2
  go_ret
  exact ⟨_,rfl,Kd.R_nil _ _ _ _ _,Below.refl _ _⟩
 ·have hnil:=fun W=>Go.Lib.run_eql_slice_nil (P:=Tryz.prog) W 33 37 (some ad) l.length c 0 0 Tryz.underlying33
  simp only[Option.isNone_some] at hnil
  have HB:=mk0 (below_alloc (Below.refl w.heap.size w) (.cells #[] 37))
  have HN:=mk0 (heap_alloc_new w (.cells #[] 37))
  clear h hl
  go_enter Tryz.func123,Tryz.ntmps123
  go_wp2_with (at_builtin;go_loud (refine kc_flat.append_new w.heap.size w.heap.size (.tmp 5) (.tmp 6) 33 37 _ _ c ad l rfl rfl Tryz.underlying33 info_cell rfl rfl rfl HN.out (Nat.le_refl _) (Kd.C_below HC.out (below_alloc (Below.refl _ _) _)) ?c2 ?_))
  case c2=>have:=HL.out;omega
  intro v1 w1 hr1 hb1
  have R1:=mk0 hr1
  have B1:=mk0 (HB.out.trans (hb1.mono (by simp)))
  clear hr1 hb1
  go_wp2
  go_ret
  exact ⟨_,rfl,R1.out,B1.out⟩
set_option maxHeartbeats 1600000 in
set_option maxRecDepth 100000 in
theorem clone_row (A:Option Addr) (c:Nat) (l:List RowH) (w:World) (h:kr.C w A l.length l) (hl:l.length≤1099511627776) :
  Calls Tryz.prog 122 #[.slice A l.length c] w fun e w'=>∃ v,e = .returned v∧kr.R 35 w' w.heap.size (fun _=>True) v l∧Below w.heap.size w w':=by
 have HC:=mk0 h
 have HL:=mk0 hl
 rcases A with _ | ad
 ·have h0:l = []:=by
   rcases l with _ | ⟨x,l⟩
   ·rfl
   ·obtain ⟨ad,e,_⟩:=h.2.2 (by simp)
    cases e
  subst h0
  rw[List.length_nil]
  have hnil:=fun W=>Go.Lib.run_eql_slice_nil (P:=Tryz.prog) W 23 35 none 0 c 0 0 Tryz.underlying23
  simp only[Option.isNone_none] at hnil
  clear h hl
  go_enter Tryz.func122,Tryz.ntmps122
  go_wp2
  go_ret
  exact ⟨_,rfl,Kd.R_nil _ _ _ _ _,Below.refl _ _⟩
 ·have hnil:=fun W=>Go.Lib.run_eql_slice_nil (P:=Tryz.prog) W 23 35 (some ad) l.length c 0 0 Tryz.underlying23
  simp only[Option.isNone_some] at hnil
  have HB:=mk0 (below_alloc (Below.refl w.heap.size w) (.cells #[] 35))
  have HN:=mk0 (heap_alloc_new w (.cells #[] 35))
  clear h hl
  go_enter Tryz.func122,Tryz.ntmps122
  go_wp2_with (at_builtin;go_loud (refine kr_flat.append_new w.heap.size w.heap.size (.tmp 5) (.tmp 6) 23 35 _ _ c ad l rfl rfl Tryz.underlying23 info_row rfl rfl rfl HN.out (Nat.le_refl _) (Kd.C_below HC.out (below_alloc (Below.refl _ _) _)) ?c2 ?_))
  case c2=>have:=HL.out;omega
  intro v1 w1 hr1 hb1
  have R1:=mk0 hr1
  have B1:=mk0 (HB.out.trans (hb1.mono (by simp)))
  clear hr1 hb1
  go_wp2
  go_ret
  exact ⟨_,rfl,R1.out,B1.out⟩
end Go.Proofs.YtpiobnfakmmpdaaGreat.Lib0

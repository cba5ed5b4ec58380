import Derived.Test.YtplnodcbbcdcgaaGreatP39
set_option linter.unusedVariables false
set_option linter.unusedSimpArgs false
namespace Go.Proofs.YtplnodcbbcdcgaaGreat.Lib0
open Go.RowKit Go.Proofs.YtplnodcbbcdcgaaGreatW.PrintWords Go.ChangeMaps
def kq:Kd Nat:=Kd.scalar (fun p:Nat=>Value.pointer (some ⟨p,0,none⟩)) (fun _=>rfl)
def ptC (B:Option Addr) (n c:Nat) (fr on st:Int) (gp:Option Addr):Array Value:=#[.slice B n c,.int .i64 fr,.int .u32 on,.int .i32 st,.int .u32 0,.pointer gp]
def PtRaw (w:World) (pt:Nat) (cs:Array Value):Prop:=w.heap[pt]?=some (.cells cs 85 (0,0))
theorem PtRaw.lt {w:World} {pt:Nat} {cs:Array Value} (h:PtRaw w pt cs):pt<w.heap.size:=(Array.getElem?_eq_some_iff.1 h).1
theorem PtRaw.keep {w w':World} {pt:Nat} {cs:Array Value} (h:PtRaw w pt cs) (hb:Below w.heap.size w w'):PtRaw w' pt cs:=(hb.block pt h.lt).trans h
theorem PtRaw.keep1 {w w':World} {pt q:Nat} {cs:Array Value} (h:PtRaw w pt cs) (hk:Keep1 q w w') (hne:pt≠q):PtRaw w' pt cs:=(hk.block pt h.lt hne).trans h
theorem PtRaw.no {w:World} {pt:Nat} {B:Option Addr} {n c:Nat} {fr on st:Int} {gp:Option Addr} (h:PtRaw w pt (ptC B n c fr on st gp)):(∀ o x,w.cell? ⟨pt,o,none⟩≠some (.int .u8 x))∧(∀ o s,w.cell? ⟨pt,o,none⟩≠some (.string s)):=by
 unfold PtRaw ptC at h
 constructor
 ·intro o x
  unfold World.cell?
  simp only[h]
  rcases o with _ | _ | _ | _ | _ | _ | o<;>simp
 ·intro o s
  unfold World.cell?
  simp only[h]
  rcases o with _ | _ | _ | _ | _ | _ | o<;>simp
section
variable {w:World} {pt:Nat} {B:Option Addr} {n c:Nat} {fr on st:Int} {gp:Option Addr}
theorem PtRaw.off_u8 (h:PtRaw w pt (ptC B n c fr on st gp)) {A:Option Addr} {m:Nat} {l':List UInt8} (hc:u8.C w A m l'):∀ ad,A=some ad→0<m→ad.block≠pt∧ad.block<w.heap.size:=by
 rintro ad rfl hm
 obtain ⟨b,o,e,hx⟩:=sc_open hc (by have:=hc.1;omega)
 cases e
 have h0:=hx 0 (by have:=hc.1;omega)
 refine ⟨?_,World.block_lt_of_cell? w _ h0⟩
 rintro rfl
 exact h.no.1 _ _ h0
theorem PtRaw.off_kc (h:PtRaw w pt (ptC B n c fr on st gp)) {A:Option Addr} {m:Nat} {l':List CellM} (hc:kc.C w A m l'):∀ ad,A=some ad→0<m→ad.block≠pt∧ad.block<w.heap.size:=by
 rintro ad rfl hm
 obtain ⟨b,o,e,hx⟩:=kc_open hc (by have:=hc.1;omega)
 cases e
 have h0:=(hx 0 (by have:=hc.1;omega)).1
 refine ⟨?_,World.block_lt_of_cell? w _ h0⟩
 rintro rfl
 exact h.no.2 _ _ h0
theorem PtRaw.u8C (h:PtRaw w pt (ptC B n c fr on st gp)) {w':World} (hk:Keep1 pt w w') {A:Option Addr} {m:Nat} {l':List UInt8} (hc:u8.C w A m l'):u8.C w' A m l':=C_keep1 sc_Kw hc (h.off_u8 hc) hk
theorem PtRaw.kcC (h:PtRaw w pt (ptC B n c fr on st gp)) {w':World} (hk:Keep1 pt w w') {A:Option Addr} {m:Nat} {l':List CellM} (hc:kc.C w A m l'):kc.C w' A m l':=C_keep1 kc_Kw hc (h.off_kc hc) hk
theorem PtRaw.rows (h:PtRaw w pt (ptC B n c fr on st gp)) {w':World} (hk:Keep1 pt w w') {H:List RowH} {L:List (List CellM)} (ho:RowsOn w H L):RowsOn w' H L:=
 ⟨ho.1,fun i h1 h2=>⟨(ho.2 i h1 h2).1,(ho.2 i h1 h2).2.1,h.kcC hk (ho.2 i h1 h2).2.2⟩⟩
end
theorem bb_open {w:World} {A:Option Addr} {n:Nat} {l:List (List UInt8)} (h:bb.C w A n l) (hn:0<l.length) :
  ∃ b o,A=some ⟨b,o,none⟩∧∀ k (hk:k<l.length),∃ (B:Option Addr) (c:Nat),w.cell? ⟨b,o+k,none⟩=some (.slice B (l[k]).length c)∧(l[k]).length≤c∧u8.C w B (l[k]).length l[k]:=by
 obtain ⟨ad,B0,c0,e0,hx0,_⟩:=bb_at h 0 hn
 have z0:ad.add 0=ad:=by simp[Addr.add]
 rw[z0] at hx0
 have hs:=cell_plain hx0
 obtain ⟨b,o,sp⟩:=ad
 simp only at hs
 subst hs
 refine ⟨b,o,e0,fun k hk=>?_⟩
 obtain ⟨ad,B,c,e,hx,hc,hC⟩:=bb_at h k hk
 rw[e0] at e
 cases e
 rw[show (⟨b,o,none⟩:Addr).add k=⟨b,o+k,none⟩ by unfold Addr.add;split<;>simp_all] at hx
 exact ⟨B,c,hx,hc,hC⟩
theorem GrpG.off {w:World} {g base:Nat} {ts ss:List Int} {ps:List PartM} {on st:Int} {Ar:Option Addr} {nr cr:Nat} {lo hi:Int} (h:GrpG w g base ts ss ps on st Ar nr cr lo hi) {pt:Nat} {B:Option Addr} {n c:Nat} {fr on' st':Int} {gp:Option Addr} (hq:PtRaw w pt (ptC B n c fr on' st' gp)) (hne:pt≠g) (hqp:∀ p ∈ ps,p.cp≠pt) (i:Nat) (u:Value):GrpG (w.setCell ⟨pt,i,none⟩ u) g base ts ss ps on st Ar nr cr lo hi:=by
 obtain ⟨At,ct,As,cs,Ap,cp,Az,cz,Ab,cb,E,L,h1,h2,h3,h4,h5,h6⟩:=h.ex
 have hg:(w.setCell ⟨pt,i,none⟩ u).heap[g]?=w.heap[g]?:=Below.heap_setCell _ _ _ _ (fun e=>hne e.symm)
 refine ⟨⟨At,ct,As,cs,Ap,cp,Az,cz,Ab,cb,E,L,hg.trans h1,?_,R_set_ne rfl h3 hq (by decide) i u,R_set_ne rfl h4 hq (by decide) i u,h5.off hq (by decide),h6⟩⟩
 exact ⟨(World.cell?_of_block (a:=⟨g,0,none⟩) hg).trans h2.c0,(World.cell?_of_block (a:=⟨g,1,none⟩) hg).trans h2.c1,(World.cell?_of_block (a:=⟨g,2,none⟩) hg).trans h2.c2,
  R_set_ne rfl h2.R0 hq (by decide) i u,R_set_ne rfl h2.R1 hq (by decide) i u,R_set_ne rfl h2.R2 hq (by decide) i u,
  h2.K.off ((Keep1.refl pt w).set i u) hqp hq.no.1 (fun o s k hs=>absurd hs (hq.no.2 o s)),h2.ne⟩
theorem FrG.keep1 {ps:List PartM} {g base pt:Nat} {w0 w w':World} (hk:ChksAt w base ps) (h:FrG ps g w w') (hg:base≤g) (hs:w0.heap.size≤base) (h0:Keep1 pt w0 w):Keep1 pt w0 w':=
 ⟨h.os.trans h0.os,h.tape.trans h0.tape,h.output.trans h0.output,Nat.le_trans h0.size h.size,fun k hk1 hn=>(h.block k (Nat.lt_of_lt_of_le hk1 h0.size) (by omega) (fun p hp e=>by have:=hk.old p hp;omega)).trans (h0.block k hk1 hn)⟩
theorem mid_piece {α:Type} (xs:List α) (i:Nat):(xs.take (min (16*i+16) xs.length)).drop (16*i)=(xs.drop (16*i)).take 16:=by
 apply List.ext_getElem?
 intro k
 simp only[List.getElem?_drop,List.getElem?_take]
 by_cases h1:k<16
 ·rw[if_pos h1]
  by_cases h2:16*i+k<xs.length
  ·rw[if_pos (by omega)]
  ·rw[List.getElem?_eq_none (by omega)]
   split<;>rfl
 ·rw[if_neg h1,if_neg (by omega)]
theorem rowsM_take:∀ (H:List RowH) (L:List (List CellM)) (a:Nat),rowsM (H.take a) (L.take a)=(rowsM H L).take a
 | [],L,a=>by simp[rowsM]
 | h :: H,[],a=>by cases a<;>simp[rowsM]
 | h :: H,c :: L,0=>by simp[rowsM]
 | h :: H,c :: L,a+1=>by simp only[List.take_succ_cons,rowsM];rw[rowsM_take H L a]
theorem rowsM_dropn:∀ (H:List RowH) (L:List (List CellM)) (a:Nat),H.length=L.length→rowsM (H.drop a) (L.drop a)=(rowsM H L).drop a
 | [],[],a,_=>by simp[rowsM]
 | h :: H,c :: L,0,_=>by simp
 | h :: H,c :: L,a+1,e=>by simp only[List.drop_succ_cons,rowsM];rw[rowsM_dropn H L a (by simpa using e)]
theorem rowsM_piece {H:List RowH} {L:List (List CellM)} (h:H.length=L.length) (a:Nat):rowsM ((H.drop a).take 16) ((L.drop a).take 16)=((rowsM H L).drop a).take 16:=by
 rw[rowsM_take,rowsM_dropn H L a h]
theorem RowsOn.piece {w:World} {H:List RowH} {L:List (List CellM)} (h:RowsOn w H L) (a:Nat):RowsOn w ((H.drop a).take 16) ((L.drop a).take 16):=by
 refine ⟨by simp[h.1],fun i h1 h2=>?_⟩
 rw[List.getElem_take,List.getElem_drop,List.getElem_take,List.getElem_drop]
 exact h.2 (a+i) _ _
theorem rowsM_append:∀ (H H':List RowH) (L L':List (List CellM)),H.length=L.length→rowsM (H++H') (L++L')=rowsM H L++rowsM H' L'
 | [],H',[],L',_=>rfl
 | h :: H,H',c :: L,L',e=>by
  show _ :: rowsM (H++H') (L++L')=_ :: (rowsM H L++rowsM H' L')
  rw[rowsM_append H H' L L' (by simpa using e)]
theorem RowsOn.append {w:World} {H H':List RowH} {L L':List (List CellM)} (h:RowsOn w H L) (h':RowsOn w H' L'):RowsOn w (H++H') (L++L'):=by
 have e1:=h.1
 have e2:=h'.1
 refine ⟨by simp[e1,e2],fun i h1 h2=>?_⟩
 by_cases hi:i<H.length
 ·rw[List.getElem_append_left hi,List.getElem_append_left (show i<L.length by omega)]
  exact h.2 i hi _
 ·rw[List.getElem_append_right (by omega),List.getElem_append_right (by omega)]
  have:=h'.2 (i-H.length) (by rw[List.length_append] at h1;omega) (by rw[List.length_append] at h1;omega)
  simpa only[e1] using this
theorem RowsR.append {w:World} {lo:Nat} {H H':List RowH} {L L':List (List CellM)} (h:RowsR w lo H L) (h':RowsR w lo H' L'):RowsR w lo (H++H') (L++L'):=by
 have e1:=h.1
 have e2:=h'.1
 refine ⟨by simp[e1,e2],fun i h1 h2=>?_⟩
 by_cases hi:i<H.length
 ·rw[List.getElem_append_left hi,List.getElem_append_left (show i<L.length by omega)]
  exact h.2 i hi _
 ·rw[List.getElem_append_right (by omega),List.getElem_append_right (by omega)]
  have:=h'.2 (i-H.length) (by rw[List.length_append] at h1;omega) (by rw[List.length_append] at h1;omega)
  simpa only[e1] using this
theorem RowsR.low {w:World} {lo lo':Nat} {H:List RowH} {L:List (List CellM)} (h:RowsR w lo H L) (hl:lo'≤lo):RowsR w lo' H L:=⟨h.1,fun i h1 h2=>⟨(h.2 i h1 h2).1,(h.2 i h1 h2).2.1,Kd.R_lower (h.2 i h1 h2).2.2 hl⟩⟩
section
variable {P:Program} {ops:Array Oper} {rest:List Oper} {o:Oper} {a:Act} {Q:Exit→Act→World→Prop}
theorem kr_append_rows {W:World} (s x:Operand) (t e:TypeId) (v:Value) (xs ys:List RowH) (A:Option Addr) (m c:Nat) (base:Nat)
  (hw:Region.wanted o (yielded ops a.tmps)=true) (ho:o.op = .call { callee:=.builtin .append,args:=#[s,x],argTypes:=#[t,t] })
  (ht:P.underlying t=some (.slice e)) (hinfo:(P.info? e).map (fun i=>(i.zero,i.size,i.bytes))=some (some (.agg #[.int .i64 0,.int .i64 0,.slice none 0 0]),3,40))
  (hs:a.eval s=v) (hx:a.eval x = .slice A m c)
  (HO:kr.R e W base (fun _=>True) v xs) (HR:kr.C W A m ys) (hbase:base≤W.heap.size) (hl:xs.length+m≤1099511627776)
  (h:∀ v1 w1,kr.R e w1 base (fun _=>True) v1 (xs++ys)→Below base W w1→W.grownBy w1 v.ownBlock→(v1.ownBlock=v.ownBlock∨∃ b,v1.ownBlock=some b∧W.heap.size≤b)→wpList P ops Q rest (a.put o.dst v1) w1) :
  wpList P ops Q (o :: rest) a W:=by
 have H:=Kd.R_append_rows_step kr (Q:=Q) (Kc:=wpList P ops Q rest) (w0:=W) base hw s x t e (.agg #[.int .i64 0,.int .i64 0,.slice none 0 0]) 40 ho ht hinfo rfl (by decide) (by decide) v xs ys A m c (fun _=>True) (fun _=>False) hs hx HO HR (fun y cs hk=>by have:=kr_K hk;subst this;exact kr_M y) (fun _ hk=>hk.elim) (fun _ _=>trivial) (Below.refl _ _) hbase (by omega) h
 rw[if_pos hw] at H
 unfold wpList
 rw[if_pos hw]
 exact .inl H
end
end Go.Proofs.YtplnodcbbcdcgaaGreat.Lib0
namespace Go.Proofs.YtplnodcbbcdcgaaGreat.Lib0
open Go.RowKit Go.Proofs.YtplnodcbbcdcgaaGreatW.PrintWords Go.ChangeMaps
def SgC (Ap:Option Addr) (np cp:Nat) (n lo hi:Int) (Ac:Option Addr) (nc cc:Nat):Array Value:=#[.slice Ap np cp,.int .i64 n,.int .i64 lo,.int .i64 hi,.slice Ac nc cc]
theorem info_ptr:(Tryz.prog.info? 70).map (fun i=>(i.zero,i.size,i.bytes))=some (some (.pointer none),1,8):=by kernel_rfl
section
variable {P:Program} {ops:Array Oper} {rest:List Oper} {o:Oper} {a:Act} {Q:Exit→Act→World→Prop}
theorem kq_append {W:World} (s x:Operand) (t e:TypeId) (v:Value) (xs:List Nat) (p:Nat) (base:Nat)
  (hgd:o.guard=none) (ho:o.op = .call { callee:=.builtin .append,args:=#[s,x],argTypes:=#[t,t] })
  (ht:P.underlying t=some (.slice e)) (hinfo:(P.info? e).map (fun i=>(i.zero,i.size,i.bytes))=some (some (.pointer none),1,8))
  (hs:a.eval s=v) (hx:a.eval x = .slice (some ⟨W.heap.size,0,none⟩) 1 1)
  (HO:kq.R e W base (fun _=>True) v xs) (hbase:base≤W.heap.size) (hl:xs.length≤1099511627776)
  (h:∀ v1 w1,kq.R e w1 base (fun _=>True) v1 (xs++[p])→Below base W w1→W.grownBy w1 v.ownBlock→(v1.ownBlock=v.ownBlock∨∃ b,v1.ownBlock=some b∧W.heap.size≤b)→wpList P ops Q rest (a.put o.dst v1) w1) :
  wpList P ops Q (o :: rest) a (W.alloc (.cells #[.pointer (some ⟨p,0,none⟩)] e)):=
 Kd.R_append kq (w0:=W) base hgd s x t e (.pointer none) 8 ho ht hinfo rfl (by decide) (by decide) v xs p [.pointer (some ⟨p,0,none⟩)] (fun _=>True) (fun _=>False) hs hx rfl (fun _ hk=>hk.elim) (fun _ _=>trivial)
  HO (Below.refl _ _) hbase (by omega) h
end
theorem sg_klC {w w':World} {sg:Nat} {Ap:Option Addr} {np cp:Nat} {n lo hi:Int} {Ac:Option Addr} {nc cc:Nat} (h:w.heap[sg]?=some (.cells (SgC Ap np cp n lo hi Ac nc cc) 67 (0,0))) (hk:Keep1 sg w w') {A:Option Addr} {m:Nat} {l:List ColM} (hc:kl.C w A m l):kl.C w' A m l:=by
 refine C_keep1 (fun _ _ _ _ h=>h) hc (fun ad e hn=>?_) hk
 obtain ⟨b,o,e2,hx⟩:=kl_open hc (by have:=hc.1;omega)
 rw[e2] at e
 cases e
 have h0:=(hx 0 (by have:=hc.1;omega)).1
 refine ⟨?_,World.block_lt_of_cell? w _ h0⟩
 rintro rfl
 unfold World.cell? at h0
 simp only[h,SgC] at h0
 rw[Nat.zero_mul,Nat.add_zero] at h0
 rcases o with _ | _ | _ | _ | _ | o<;>simp at h0
structure OpS (w0 wr:World) (sg bs:Nat) (xs:List (List UInt8)) (n lo hi:Int) (Ac:Option Addr) (nc cc:Nat) (PT:List Nat):Prop where
 ex:∃ (Ap:Option Addr) (cp:Nat),wr.heap[sg]?=some (.cells (SgC Ap PT.length cp n lo hi Ac nc cc) 67 (0,0))∧kq.R 70 wr bs (fun _=>True) (.slice Ap PT.length cp) PT
 pt:∀ i (h1:i<PT.length) (h2:i<xs.length),∃ (B:Option Addr) (c:Nat),PtRaw wr PT[i] (ptC B xs[i].length c ((16*i:Nat):Int) 0 0 none)∧xs[i].length≤c∧u8.C w0 B xs[i].length xs[i]
 le:PT.length≤xs.length
 nd:PT.Pairwise (· < ·)
 lt:∀ p ∈ PT,sg<p∧p<wr.heap.size
 B:Below sg w0 wr
 s0:sg=w0.heap.size
 s1:sg≤bs
 s2:bs≤wr.heap.size
theorem OpS.next {w0 wr w7:World} {sg bs:Nat} {xs:List (List UInt8)} {n lo hi:Int} {Ac:Option Addr} {nc cc:Nat} {PT:List Nat} {Ap:Option Addr} {cp:Nat} {v1:Value} {B:Option Addr} {cB:Nat}
  (h:OpS w0 wr sg bs xs n lo hi Ac nc cc PT) (hl:PT.length<xs.length) (hh:wr.heap[sg]?=some (.cells (SgC Ap PT.length cp n lo hi Ac nc cc) 67 (0,0))) (hk:kq.R 70 wr bs (fun _=>True) (.slice Ap PT.length cp) PT)
  (hB:u8.C w0 B (xs[PT.length]'hl).length (xs[PT.length]'hl)) (hcB:(xs[PT.length]'hl).length≤cB)
  (hr:kq.R 70 w7 bs (fun _=>True) v1 (PT++[wr.heap.size])) (hb:Below bs (wr.alloc (.cells (ptC B (xs[PT.length]'hl).length cB ((16*PT.length:Nat):Int) 0 0 none) 85)) w7)
  (hg:(wr.alloc (.cells (ptC B (xs[PT.length]'hl).length cB ((16*PT.length:Nat):Int) 0 0 none) 85)).grownBy w7 (Value.slice Ap PT.length cp).ownBlock) :
  OpS w0 (w7.setCell ⟨sg,0,none⟩ v1) sg bs xs n lo hi Ac nc cc (PT++[wr.heap.size]):=by
 have ba:=below_alloc (Below.refl wr.heap.size wr) (.cells (ptC B (xs[PT.length]'hl).length cB ((16*PT.length:Nat):Int) 0 0 none) 85)
 have hn:=heap_alloc_new wr (.cells (ptC B (xs[PT.length]'hl).length cB ((16*PT.length:Nat):Int) 0 0 none) 85)
 generalize wr.alloc (.cells (ptC B (xs[PT.length]'hl).length cB ((16*PT.length:Nat):Int) 0 0 none) 85)=Va at *
 have hka:=Kd.R_below hk ba
 have hsl:=(Array.getElem?_eq_some_iff.1 hh).1
 have ha:=(ba.block sg hsl).trans hh
 have e1:=(hg.block sg (Nat.lt_of_lt_of_le hsl ba.size) (fun e=>R_not_at hka ha (by decide) e.symm)).trans ha
 have hst:∀ (q:Nat) (cs:Array Value),PtRaw Va q cs→q≠sg→PtRaw (w7.setCell ⟨sg,0,none⟩ v1) q cs:=fun q cs hq hne=>
  (Below.heap_setCell _ _ _ _ hne).trans ((hg.block q hq.lt (fun e=>R_not_at hka hq (by decide) e.symm)).trans hq)
 obtain ⟨A1,c1,hv1⟩:=Kd.R_slice hr
 have hl1:(PT++[wr.heap.size]).length=PT.length+1:=by simp
 have hsz:(w7.setCell ⟨sg,0,none⟩ v1).heap.size=w7.heap.size:=by simp[World.setCell]
 have hws:wr.heap.size<Va.heap.size:=(Array.getElem?_eq_some_iff.1 hn).1
 have hV7:Va.heap.size≤w7.heap.size:=hb.size
 refine ⟨?_,fun i h1 h2=>?_,by rw[hl1];omega,?_,fun p hp=>?_,?_,h.s0,h.s1,?_⟩
 ·rw[hv1] at hr ⊢
  exact ⟨A1,c1,heap_setCell_same _ _ 0 _ _ _ e1,R_set_ne rfl hr e1 (by decide) 0 _⟩
 ·by_cases hi:i<PT.length
  ·rw[List.getElem_append_left hi]
   obtain ⟨B',c',p1,p2,p3⟩:=h.pt i hi h2
   exact ⟨B',c',hst _ _ (p1.keep ba) (by have:=(h.lt _ (List.getElem_mem hi)).1;omega),p2,p3⟩
  ·have hi2:i=PT.length:=by omega
   subst hi2
   rw[List.getElem_append_right (Nat.le_refl _)]
   simp only[Nat.sub_self,List.getElem_cons_zero]
   exact ⟨B,cB,hst _ _ hn (by omega),hcB,hB⟩
 ·rw[List.pairwise_append]
  refine ⟨h.nd,List.pairwise_singleton _ _,fun p hp q hq=>?_⟩
  rw[List.mem_singleton] at hq
  subst hq
  exact (h.lt p hp).2
 ·rw[hsz]
  rcases List.mem_append.1 hp with hp | hp
  ·have:=h.lt p hp;exact ⟨this.1,by omega⟩
  ·rw[List.mem_singleton] at hp
   subst hp
   exact ⟨hsl,by omega⟩
 ·have hb2:Below sg wr w7:=(ba.mono (Nat.le_of_lt hsl)).trans (hb.mono h.s1)
  exact (h.B.trans hb2).setCell (p:=⟨sg,0,none⟩) (Nat.le_refl _) _
 ·rw[hsz]
  have:=h.s2
  omega
theorem OpS.keep {w0 wr w7 W6:World} {sg bs:Nat} {xs:List (List UInt8)} {n lo hi:Int} {Ac:Option Addr} {nc cc:Nat} {PT:List Nat} {o:Obj} {v1:Value} (h:OpS w0 wr sg bs xs n lo hi Ac nc cc PT) (hk:Keep1 sg W6 wr) (h6:bs=W6.heap.size) (hb:Below bs (wr.alloc o) w7):Keep1 sg W6 (w7.setCell ⟨sg,0,none⟩ v1):=by
 have ba:=below_alloc (Below.refl wr.heap.size wr) o
 have hs2:=h.s2
 exact (⟨(hb.os.trans ba.os).trans hk.os,(hb.tape.trans ba.tape).trans hk.tape,(hb.output.trans ba.output).trans hk.output,Nat.le_trans hk.size (Nat.le_trans ba.size hb.size),fun k h1 h2=>(hb.block k (by omega)).trans ((ba.block k (by omega)).trans (hk.block k h1 h2))⟩:Keep1 sg W6 w7).set 0 v1
structure SegAt (w:World) (sg:Nat) (M:List RowM) (PT:List Nat):Prop where
 ex:∃ (Ap:Option Addr) (cp:Nat) (Ac:Option Addr) (cc:Nat) (lo hi:Int),w.heap[sg]?=some (.cells (SgC Ap PT.length cp M.length lo hi Ac (growsR [] M).1.length cc) 67 (0,0))∧kq.C w Ap PT.length PT∧kl.C w Ac (growsR [] M).1.length (growsR [] M).1∧(M.map (·.t))[0]?=some lo∧(M.map (·.t))[M.length-1]?=some hi
 len:PT.length=nP M
 pt:∀ i (h1:i<PT.length),∃ (B:Option Addr) (c:Nat),PtRaw w PT[i] (ptC B (bytesM ((M.drop (16*i)).take 16)).length c ((16*i:Nat):Int) 0 0 none)∧(bytesM ((M.drop (16*i)).take 16)).length≤c∧u8.C w B (bytesM ((M.drop (16*i)).take 16)).length (bytesM ((M.drop (16*i)).take 16))
 nd:PT.Pairwise (· < ·)
 lt:∀ p ∈ PT,sg<p
theorem SegAt.below {w w':World} {sg:Nat} {M:List RowM} {PT:List Nat} (h:SegAt w sg M PT) (hb:Below w.heap.size w w'):SegAt w' sg M PT:=by
 obtain ⟨Ap,cp,Ac,cc,lo,hi,h1,h2,h3,h4⟩:=h.ex
 exact ⟨⟨Ap,cp,Ac,cc,lo,hi,(hb.block sg (Array.getElem?_eq_some_iff.1 h1).1).trans h1,Kd.C_below h2 hb,Kd.C_below h3 hb,h4⟩,h.len,fun i h1=>by
  obtain ⟨B,c,p1,p2,p3⟩:=h.pt i h1
  exact ⟨B,c,p1.keep hb,p2,Kd.C_below p3 hb⟩,h.nd,h.lt⟩
end Go.Proofs.YtplnodcbbcdcgaaGreat.Lib0

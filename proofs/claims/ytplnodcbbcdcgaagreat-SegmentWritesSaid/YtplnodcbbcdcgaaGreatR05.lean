import Derived.Test.YtplnodcbbcdcgaaGreatR04
import Derived.Test.YtplnodcbbcdcgaaGreatP45
set_option linter.unusedVariables false
set_option linter.unusedSimpArgs false
namespace Go.Proofs.YtplnodcbbcdcgaaGreat.Lib0
open Go.RowKit Go.Proofs.YtplnodcbbcdcgaaGreatW.PrintWords Go.ChangeMaps
section
variable {α:Type} {d:Kd α} {f:α→List Value} {k:Nat}
variable {P:Program} {ops:Array Oper} {rest:List Oper} {o:Oper} {a:Act} {Q:Exit→Act→World→Prop}
theorem Flat.append_rows (F:Flat d f k) {W:World} (base:Nat) (hgd:o.guard=none) (s x:Operand) (t e:TypeId) (z:Value) (bytes:Nat)
  (ho:o.op = .call { callee:=.builtin .append,args:=#[s,x],argTypes:=#[t,t] }) (ht:P.underlying t=some (.slice e))
  (hinfo:(P.info? e).map (fun i=>(i.zero,i.size,i.bytes))=some (some z,k,bytes)) (hzs:z.cells.size=k) (hk0:0<k) (hb0:0<bytes)
  (v:Value) (xs ys:List α) (ad:Addr) (m c:Nat) (N:Nat) (hN:xs.length+m=N) (hs:a.eval s=v) (hx:a.eval x = .slice (some ad) m c) (hm:ys.length=m)
  (HR:d.C W (some ad) ys.length ys) (HO:d.R e W base (fun _=>True) v xs) (hbase:base≤W.heap.size) (hl:(xs.length+m)*bytes≤140737488355328)
  (h:∀ A1 c1 w1,d.R e w1 base (fun _=>True) (.slice A1 N c1) (xs++ys)→Below base W w1→W.grownBy w1 v.ownBlock→wpList P ops Q rest (a.put o.dst (.slice A1 N c1)) w1):wpList P ops Q (o :: rest) a W:=by
 obtain ⟨i,hi,hz0⟩:=Option.map_eq_some_iff.1 hinfo
 simp only[Prod.mk.injEq] at hz0
 obtain ⟨hzz,hsz,hby⟩:=hz0
 obtain ⟨h0,inner,hown,hr⟩:=HO
 rw[F.sz] at hown hr
 have hin:inner=flatF f xs:=by
  have hgen:∀ (xs:List α) (inner:List Value),Reps (d.M W base (fun q=>True∧some q≠v.ownBlock)) k xs inner→inner=flatF f xs:=F.inner
  exact hgen xs inner hr
 have hlen:xs.length+m≤140737488355328:=Nat.le_trans (Nat.le_mul_of_pos_right _ hb0) hl
 obtain ⟨v1,w1,hrun,h2,h3,_,h5⟩:=run_append_own_at (P:=P) W base t o.type e i z k bytes ht hi hzz hsz hby hzs hk0 v xs.length inner hown ad m c (flatF f ys) (by rw[F.flat_len,hm]) (F.cell HR)
  (F.flat_one ys) (by simp only[maxLen];omega) hl hbase
 refine Lib.wpList_append_run W hgd s x t t ho _ _ hs hx _ _ hrun ?_
 have hR:d.R e w1 base (fun _=>True) v1 (xs++ys):=⟨fun q _=>trivial,inner++flatF f ys,by rw[F.sz,List.length_append,hm];exact h2,by
  rw[hin,← flatF_append]
  exact F.reps w1 base _ (xs++ys)⟩
 obtain ⟨A1,c1,e1⟩:=Kd.R_slice hR
 rw[List.length_append,hm,hN] at e1
 subst e1
 exact h A1 c1 w1 hR ((Below.refl base W).grown h3 hbase (own_base hown)) h3
end
section
variable {P:Program} {ops:Array Oper} {rest:List Oper} {o:Oper} {a:Act} {Q:Exit→Act→World→Prop}
theorem append_none {W:World} (hgd:o.guard=none) (s x:Operand) (t e:TypeId) (ho:o.op = .call { callee:=.builtin .append,args:=#[s,x],argTypes:=#[t,t] }) (ht:P.underlying t=some (.slice e)) (i:TypeInfo) (hi:P.info? e=some i)
  (A:Option Addr) (n c c':Nat) (hs:a.eval s = .slice A n c) (hn:n≤c) (hx:a.eval x = .slice none 0 c') (h:wpList P ops Q rest (a.put o.dst (.slice A n c)) W):wpList P ops Q (o :: rest) a W:=
 Lib.wpList_append_run W hgd s x t t ho _ _ hs hx _ _ (run_append_nothing W t t o.type e i ht hi A n c hn _ (Src.ofNil W ht c')) h
end
theorem cutR7 {Good:World→Option Addr→Nat→Prop} {Pp:World→Option Addr→Nat→Option Addr→Nat→Nat→Nat→Prop} {G:Prop} (h:Aside0 (∀ a b c d e f g,Good a b c→Pp a b c d e f g)→G) (k:∀ a b c d e f g,Good a b c→Pp a b c d e f g):G:=h ⟨k⟩
section
variable {ops:Array Oper} {o:Oper} {a:Act} {Q:Exit→Act→World→Prop} {Kc:Act→World→Prop} {E:Prop}
theorem col_arm1 {W V:World} (hgd:o.guard=none) (s x:Operand) (ho:o.op = .call { callee:=.builtin .append,args:=#[s,x],argTypes:=#[45,45] })
  (l:List ColM) (ad:Addr) (k c:Nat) (hz:EmpC W V (a.eval s)) (hx:a.eval x = .slice (some ad) k c) (hk:k≤l.length) (HC:kl.C W (some ad) l.length l) (hl:l.length≤1099511627776)
  (h:∀ A3 c3 w4,G20 W w4 (.slice A3 k c3) (l.take k)→(∀ z y,PenC V z y→PenC w4 z y)→Kc (a.put o.dst (.slice A3 k c3)) w4) :
  if Region.wanted o (yielded ops a.tmps)=true then Oper.wp Tryz.prog o a V Kc Q else E:=by
 obtain ⟨b,hz1,hz2,hz3,hz4⟩:=hz
 have hlen:(l.take k).length=k:=by rw[List.length_take];omega
 have hC2:=Kd.C_take (Kd.C_below HC hz4) hk
 rw[hlen] at hC2
 refine kl_flat.append_step W.heap.size (by simp[Region.wanted,hgd]) s x 45 91 _ 24 ho Tryz.underlying45 info_col rfl (by decide) (by decide) _ [] (l.take k) ad k c (fun _=>True) hz1 hx hlen (kl_flat.cell hC2) trivial (kl_flat.R_new (xs:=[]) hz3 hz2 (Nat.le_refl _) (by unfold maxLen;omega) (by simp) (by simp[flatF])) hz4.size (by rw[List.length_nil];omega) ?_
 intro v1 w1 hr hb hg hat
 rw[List.nil_append] at hr
 obtain ⟨A3,c3,e1⟩:=Kd.R_slice hr
 rw[hlen] at e1
 subst e1
 refine h A3 c3 w1 ⟨hr,hz4.trans hb⟩ fun z y hp=>?_
 obtain ⟨q,e2,hq⟩:=hp
 refine ⟨q,e2,(hg.block q (Array.getElem?_eq_some_iff.1 hq).1 fun e=>?_).trans hq⟩
 have e3:q=b:=by simpa [Value.ownBlock] using e
 rw[e3,hz2] at hq
 simp at hq
theorem col_arm2 {W V:World} (hgd:o.guard=none) (s x:Operand) (ho:o.op = .call { callee:=.builtin .append,args:=#[s,x],argTypes:=#[45,45] })
  (xs:List ColM) (y:ColM) (A:Option Addr) (k c:Nat) (hs:a.eval s = .slice A k c) (hk:xs.length=k) (hz:PenC V (a.eval x) y) (H:G20 W V (.slice A k c) xs) (hl:xs.length≤1099511627776)
  (h:∀ A3 c3 w4,G20 W w4 (.slice A3 (k+1) c3) (xs++[y])→Kc (a.put o.dst (.slice A3 (k+1) c3)) w4) :
  if Region.wanted o (yielded ops a.tmps)=true then Oper.wp Tryz.prog o a V Kc Q else E:=by
 obtain ⟨b,hz1,hz2⟩:=hz
 subst hk
 refine kl_flat.append_step W.heap.size (by simp[Region.wanted,hgd]) s x 45 91 _ 24 ho Tryz.underlying45 info_col rfl (by decide) (by decide) _ xs [y] ⟨b,0,none⟩ 1 1 (fun _=>True) hs hz1 rfl ?_ trivial H.R H.B.size (by omega) ?_
 ·intro j u hj
  have hj2:[Value.string y.name,.int .i64 y.kind][j]?=some u:=hj
  have hj3:(⟨b,0,none⟩:Addr).add j=⟨b,j,none⟩:=by unfold Addr.add;split<;>simp_all
  rw[hj3]
  exact cell_of_heap (i:=j) hz2 (by simpa using hj2)
 ·intro v1 w1 hr hb hg hat
  obtain ⟨A3,c3,e1⟩:=Kd.R_slice hr
  rw[List.length_append] at e1
  change v1 = .slice A3 (xs.length+1) c3 at e1
  subst e1
  exact h A3 c3 w1 ⟨hr,H.B.trans hb⟩
end
theorem atL_uniq {l:List ColM} (h:RiseL l) {s:ByteArray} {k:Nat} (hk:k≤l.length) (h1:∀ m (hm:m<l.length),m<k→lessS l[m].name s=true) (h2:∀ hk:k<l.length,lessS l[k].name s=false):atL l s=k:=by
 obtain ⟨a1,a2,a3⟩:=atL_spec h s
 rcases Nat.lt_trichotomy (atL l s) k with hl | hl | hl
 ·have:=h1 (atL l s) (by omega) hl
  rw[a3 (atL l s) (by omega) (Nat.le_refl _)] at this
  cases this
 ·exact hl
 ·have:=a2 k (by omega) hl
  rw[h2 (by omega)] at this
  cases this
set_option maxRecDepth 100000 in
theorem ref_Cols_nil (w:World) :
  Calls Tryz.prog 38 #[.slice none 0 0] w fun e w'=>e = .returned (.bool true)∧w=w':=by
 go_enter Tryz.func38,Tryz.ntmps38
 go_wp2_with fail
 go_loopw[3] (fun v3 wr=>v3 = .int .i64 0∧wr=w) (fun _ _=>0)
 case atStart=>exact ⟨rfl,rfl⟩
 case round=>
  obtain ⟨rfl,rfl⟩:=hrel
  go_wp2
  go_ret
  exact ⟨rfl,rfl⟩
attribute [local irreducible] wpQuiet
set_option maxHeartbeats 6400000 in
set_option maxRecDepth 100000 in
theorem ref_Grow (B:Option Addr) (d:Nat) (H:List RowH) (L:List (List CellM)) (w:World) (hH:kr.C w B H.length H) (hL:RowsOn w H L) (hl:H.length≤1099511627776) (hsz:∀ c ∈ L,∀ x ∈ c,x.col.size≤1099511627776) :
  Calls Tryz.prog 17 #[.slice none 0 0,.slice B H.length d] w fun e w'=>
   ∃ v,e = .returned (.tuple #[v,.int .i64 (growsR [] (rowsM H L)).2.1,.int .i64 (growsR [] (rowsM H L)).2.2])∧kl.R 91 w' w.heap.size (fun _=>True) v (growsR [] (rowsM H L)).1∧Below w.heap.size w w':=by
 have mixed:Tryz.prog.follows .mixedOrders=true:=by kernel_rfl
 obtain ⟨r,hr⟩:∃ r,r=growsR [] (rowsM H L):=⟨_,rfl⟩
 rw[← hr]
 have HS:=mk0 (show r=growsF [] 0 ((rowsM H L).drop 0) by rw[hr,growsR,if_pos (by rfl)];rfl)
 have HH:=mk0 hH
 have HL:=mk0 hL
 have HSZ:=mk0 hsz
 have hH63:=hH.2.1
 have HCO:=mk0 ref_Cols_nil
 obtain ⟨ic,hic,_⟩:=Option.map_eq_some_iff.1 info_col
 have HIC:=mk0 hic
 clear hH hL hr hsz hic
 go_enter Tryz.func17,Tryz.ntmps17
 go_wp2_with fail
 (with_reducible refine (HCO.out _).mono ?_)
 rintro e w1 ⟨rfl,rfl⟩
 have HB0:=mk0 (below_alloc (Below.refl w.heap.size w) (.cells #[] 91))
 have HR0:=mk0 (show kl.R 91 (w.alloc (.cells #[] 91)) w.heap.size (fun _=>True) (.slice (some ⟨w.heap.size,0,none⟩) 0 0) [] from kl_flat.R_new (xs:=[]) (Nat.le_refl _) (heap_alloc_new w _) (Nat.le_refl _) (by unfold maxLen;omega) (by simp) (by simp[flatF]))
 go_wp2_with (at_builtin;go_loud (refine append_none rfl (.tmp 17) (.tmp 18) 45 91 rfl Tryz.underlying45 ic HIC.out _ 0 0 0 rfl (Nat.le_refl _) rfl ?_))
 go_wp2_with fail
 go_loopw[7,8] (fun v7 v8 wr=>∃ (i:Nat) (l1:List ColM) (g1 c1:Nat),i≤H.length∧v7 = .slice (some ⟨g1,0,none⟩) l1.length c1∧v8 = .int .i64 i∧Aside0 (r=growsF l1 i ((rowsM H L).drop i))∧Aside0 (RiseL l1)∧Aside0 (l1.length≤12)∧Aside0 (kl.R 91 wr w.heap.size (fun _=>True) (.slice (some ⟨g1,0,none⟩) l1.length c1) l1)∧Aside0 (Below w.heap.size w wr)) (fun _ i _=>H.length-(intOf i).toNat)
 case atStart=>exact ⟨0,[],w.heap.size,0,by omega,rfl,rfl,HS,⟨List.Pairwise.nil⟩,⟨by simp⟩,HR0,HB0⟩
 case round=>
  clear HR0 HB0 HS
  obtain ⟨i,l1,g1,c1,hi,rfl,rfl,HE,HRL,HLN,HRR,HB⟩:=hrel
  by_cases hlt:i<H.length
  case neg=>
   have hlt2:¬ (i:Int)<H.length:=by omega
   have HS:=mk0 (show r=(l1,0,0) by rw[HE.out,List.drop_eq_nil_of_le (by rw[rowsM_len _ _ HL.out.1];omega)];rfl)
   go_wp2
   go_ret3
   exact ⟨_,by rw[HS.out];rfl,by rw[HS.out];exact HRR.out,HB.out⟩
  have hlt2:(i:Int)<H.length:=by omega
  have hkL:i<L.length:=by have:=HL.out.1;omega
  have hkM:i<(rowsM H L).length:=by rw[rowsM_len _ _ HL.out.1];exact hlt
  have HE2:=mk0 HE.out
  rw[List.drop_eq_getElem_cons hkM,rowsM_get H L i hlt hkL hkM,growsF] at HE2
  obtain ⟨b,o,rfl,hx⟩:=kr_open (Kd.C_below HH.out HB.out) (by omega)
  obtain ⟨z0,z1,z2⟩:=hx i hlt
  obtain ⟨n1,n2,n3⟩:=HL.out.2 i hlt hkL
  have hcz:=HSZ.out _ (List.getElem_mem hkL)
  have HHI:=mk0 (show ∀ w',Below w.heap.size w w'→w'.cell? ⟨b,o+i*3,none⟩=some (.int .i64 H[i].t)∧w'.cell? ⟨b,o+i*3+1,none⟩=some (.int .i64 H[i].s)∧w'.cell? ⟨b,o+i*3+2,none⟩=some (.slice H[i].A H[i].n H[i].c) from fun w' hb'=>by
   obtain ⟨b',o',e,hx'⟩:=kr_open (Kd.C_below HH.out hb') (by omega)
   cases e
   exact hx' i hlt)
  obtain ⟨hd,hhd⟩:∃ hd,hd=H[i]:=⟨_,rfl⟩
  obtain ⟨cs,hcs⟩:∃ cs,cs=L[i]:=⟨_,rfl⟩
  rw[← hhd,← hcs] at HE2 n1 n2 n3
  rw[← hhd] at z0 z1 z2
  rw[← hcs] at hcz
  rw[← hhd] at HHI
  obtain ⟨ht,hs,hA,hn,hc⟩:=hd
  dsimp only at HE2 n1 n2 n3 z0 z1 z2 HHI
  subst n1
  clear hhd hcs hx hkM HE
  have HCC:=mk0 (show ∀ w',Below w.heap.size w w'→kc.C w' hA cs.length cs from fun w' h=>Kd.C_below n3 h)
  have HRI:=mk0 (ref_Right ht hs hA hc cs _ (HCC.out _ HB.out) hcz)
  clear n3 hcz
  go_wp2_with fail
  (with_reducible refine HRI.out.mono ?_)
  rintro e w2 ⟨rfl,hb⟩
  have HB2:=mk0 (HB.out.trans (hb.mono HB.out.size))
  have HR2:=mk0 (Kd.R_below HRR.out hb)
  clear hb HRI HRR HB z0 z1 z2
  cases hrb:rowB ht hs cs with
  | false=>
   have HS:=mk0 (show r=([],1,(i:Int)) by rw[HE2.out,if_neg (by simp[hrb])])
   clear hrb
   go_wp2
   go_ret3
   exact ⟨_,by rw[HS.out];rfl,by rw[HS.out];exact Kd.R_nil _ _ _ _ _,HB2.out⟩
  | true=>
   have HE3:=mk0 HE2.out
   rw[if_pos hrb] at HE3
   have hc8:cs.length≤8:=by
    unfold rowB headRB at hrb
    simp only[Bool.and_eq_true,decide_eq_true_eq] at hrb
    exact hrb.1.2
   clear hrb HE2
   go_wp2_with fail
   generalize wr=W0 at *
   go_loopw[9,10] (fun v9 v10 wr=>∃ (k:Nat) (l2:List ColM) (g2 c2:Nat),k≤cs.length∧v9 = .slice (some ⟨g2,0,none⟩) l2.length c2∧v10 = .int .i64 k∧Aside0 (growC l2 (cs.drop k)=growC l1 cs)∧Aside0 (RiseL l2)∧Aside0 (l2.length≤l1.length+k)∧Aside0 (kl.R 91 wr w.heap.size (fun _=>True) (.slice (some ⟨g2,0,none⟩) l2.length c2) l2)∧Aside0 (Below w.heap.size w wr)) (fun _ n _=>cs.length-(intOf n).toNat)
   case atStart=>exact ⟨0,l1,g1,c1,by omega,rfl,rfl,⟨rfl⟩,HRL,⟨by omega⟩,HR2,HB2⟩
   case round=>
    clear HR2 HB2
    obtain ⟨k,l2,g2,c2,hk,rfl,rfl,HG,HRL2,HLN2,HRR2,HBB⟩:=hrel
    obtain ⟨y0,y1,y2⟩:=HHI.out _ HBB.out
    have hl2:l2.length≤20:=by have:=HLN2.out;have:=HLN.out;omega
    by_cases hkc:k<cs.length
    case neg=>
     have hkci:¬ (k:Int)<cs.length:=by omega
     have HGe:=mk0 (show growC l1 cs=some l2 by rw[← HG.out,List.drop_eq_nil_of_le (by omega)];rfl)
     by_cases h12:l2.length≤12
     ·have hd:decide ((12:Int)<l2.length)=false:=decide_eq_false (by omega)
      have hd2:decide (12<l2.length)=false:=decide_eq_false (by omega)
      have HGR:=mk0 (show growR l1 cs=(l2,0) by rw[growR,HGe.out];exact if_pos h12)
      have HE4:=mk0 (show r=growsF l2 (i+1) ((rowsM H L).drop (i+1)) by rw[HE3.out,HGR.out];rfl)
      have H12:=mk0 h12
      clear HE3 HGR HGe HG h12
      go_wp2
      go_roundw
      case rel=>exact ⟨i+1,l2,g2,c2,by omega,rfl,by go_num,HE4,HRL2,H12,HRR2,HBB⟩
      case measure=>simp[intOf];omega
     ·have hd:decide ((12:Int)<l2.length)=true:=decide_eq_true (by omega)
      have hd2:decide (12<l2.length)=true:=decide_eq_true (by omega)
      have HGR:=mk0 (show growR l1 cs=([],4) by rw[growR,HGe.out];exact if_neg h12)
      have HS:=mk0 (show r=([],4,(i:Int)) by rw[HE3.out,HGR.out];rfl)
      clear HE3 HGR HGe HG h12
      go_wp2
      go_ret3
      exact ⟨_,by rw[HS.out];rfl,by rw[HS.out];exact Kd.R_nil _ _ _ _ _,HBB.out⟩
    have hkci:(k:Int)<cs.length:=by omega
    obtain ⟨b3,o3,rfl,hx3⟩:=kc_open (HCC.out _ HBB.out) (by omega)
    obtain ⟨x0,x1,x2,x3⟩:=hx3 k hkc
    have HGC:=mk0 (growC_at l2 cs k hkc)
    obtain ⟨c,hc⟩:∃ c,c=cs[k]:=⟨_,rfl⟩
    rw[← hc] at x0 x1 x2 x3 HGC
    clear hc hx3
    go_wp2_with fail
    have hW:∃ W,W=wr.alloc (.cells #[.string c.col,.int .i64 c.kind,.int .i64 c.n,.string c.s] 39):=⟨_,rfl⟩
    obtain ⟨W,hW⟩:=hW
    rw[← hW]
    have BW:Below wr.heap.size wr W:=by rw[hW];exact below_alloc (Below.refl _ _) _
    have hnw:=heap_alloc_new wr (.cells #[.string c.col,.int .i64 c.kind,.int .i64 c.n,.string c.s] 39)
    rw[← hW] at hnw
    have hWs:wr.heap.size<W.heap.size:=by rw[hW];simp
    have HC0:=mk0 (show ∀ w',Below W.heap.size W w'→w'.cell? ⟨wr.heap.size,0,none⟩=some (.string c.col) from fun w' h=>(h.cell hWs).trans (cell_of_heap (i:=0) hnw rfl))
    have HC1:=mk0 (show ∀ w',Below W.heap.size W w'→w'.cell? ⟨wr.heap.size,1,none⟩=some (.int .i64 c.kind) from fun w' h=>(h.cell hWs).trans (cell_of_heap (i:=1) hnw rfl))
    have HRW:=mk0 (Kd.R_below HRR2.out BW)
    have HBW:=mk0 (HBB.out.trans (BW.mono HBB.out.size))
    have HBW0:=mk0 (Below.refl W.heap.size W)
    clear x0 x1 x2 x3 y0 y1 y2 BW hnw hW HRR2 HBB
    generalize wr=W1 at *
    go_loopw[12] (fun v12 wr=>∃ m:Nat,m≤l2.length∧v12 = .int .i64 m∧Aside0 (∀ q (hq:q<l2.length),q<m→lessS l2[q].name c.col=true)∧Aside0 (Below W.heap.size W wr)) (fun n _=>l2.length-(intOf n).toNat)
    case atStart=>exact ⟨0,by omega,rfl,⟨fun q hq h0=>by omega⟩,HBW0⟩
    case round=>
     obtain ⟨m,hm,rfl,HGM,HBZ⟩:=hrel
     clear HBW0
     have HRZ:=mk0 (Kd.R_below HRW.out HBZ.out)
     have HBT:=mk0 (HBW.out.trans (HBZ.out.mono HBW.out.size))
     have c0:=HC0.out _ HBZ.out
     by_cases hml:m<l2.length
     ·have hmli:(m:Int)<l2.length:=by omega
      obtain ⟨b4,o4,e4,hx4⟩:=kl_open (Kd.R_reads' HRZ.out).2.2 (by omega)
      cases e4
      obtain ⟨q0,q1⟩:=hx4 m hml
      rw[Nat.zero_add] at q0 q1
      clear hx4
      cases hv:lessS l2[m].name c.col with
      | true=>
       have HGM2:=mk0 (show ∀ q (hq:q<l2.length),q<m+1→lessS l2[q].name c.col=true from fun q hq h1=>by
        by_cases hqm:q=m
        ·subst hqm;exact hv
        ·exact HGM.out q hq (by omega))
       have hv2:Op.bytesLess l2[m].name.toList c.col.toList=true:=hv
       clear hv HGM
       generalize l2[m]=y at *
       go_wp2_with fail
       go_quiet (fail)
       have HBQ:=mk0 (HBZ.out.trans ((Drawn0.below (Drawn0.step (Drawn0.refl wr) nq)).mono HBZ.out.size))
       clear q0 q1 c0
       go_wp2
       go_roundw
       case rel=>exact ⟨m+1,by omega,by go_num,HGM2,HBQ⟩
       case measure=>simp[intOf];omega
      | false=>
       have hv2:Op.bytesLess l2[m].name.toList c.col.toList=false:=hv
       have HAT:=mk0 (show atL l2 c.col=m from atL_uniq HRL2.out hm HGM.out (fun _=>hv))
       clear hv
       go_wp2_with fail
       go_quiet (fail)
       have BQ:=Drawn0.below (Drawn0.step (Drawn0.refl wr) nq)
       have HBZ2:=mk0 (HBZ.out.trans (BQ.mono HBZ.out.size))
       have HRZ2:=mk0 (Kd.R_below HRZ.out BQ)
       have q0a:(wr.drewN nq).cell? ⟨g2,m*2,none⟩=some (.string l2[m].name):=q0
       have q1a:(wr.drewN nq).cell? ⟨g2,m*2+1,none⟩=some (.int .i64 l2[m].kind):=q1
       have c0a:=HC0.out _ HBZ2.out
       have c1a:=HC1.out _ HBZ2.out
       clear BQ q0 q1 c0 hv2 HBZ HRZ HBT
       generalize wr.drewN nq=W2 at *
       have HHAS:=mk0 (show hasL l2 c.col=decide (l2[m].name=c.col) by
        cases hh:hasL l2 c.col
        ·refine (decide_eq_false fun e=>?_).symm
         have:=(hasL_iff l2 c.col).2 ⟨by rw[HAT.out];exact hml,by simp only[HAT.out];exact e⟩
         rw[hh] at this
         cases this
        ·obtain ⟨_,e⟩:=(hasL_iff l2 c.col).1 hh
         simp only[HAT.out] at e
         exact (decide_eq_true e).symm)
       go_wp2_with fail
       by_cases hnm:l2[m].name=c.col
       ·have hb1:(l2[m].name.toList==c.col.toList)=true:=by rw[hnm];simp
        have HH1:=mk0 (show hasL l2 c.col=true by rw[HHAS.out,decide_eq_true hnm])
        have HKA:=mk0 (show kindAt l2 (atL l2 c.col)=l2[m].kind by rw[HAT.out,kindAt,List.getElem?_eq_getElem hml];rfl)
        clear hnm HHAS HAT HGM
        obtain ⟨y,hy⟩:∃ y,y=l2[m]:=⟨_,rfl⟩
        rw[← hy] at q0a q1a hb1 HKA
        clear hy
        go_quiet (fail)
        have BQ:=Drawn0.below (Drawn0.step (Drawn0.refl W2) nq)
        have HBZ3:=mk0 (HBZ2.out.trans (BQ.mono HBZ2.out.size))
        have HRZ3:=mk0 (Kd.R_below HRZ2.out BQ)
        have q1b:(W2.drewN nq).cell? ⟨g2,m*2+1,none⟩=some (.int .i64 y.kind):=q1a
        have c1b:=HC1.out _ HBZ3.out
        clear BQ q0a q1a c0a c1a hb1 HBZ2 HRZ2
        generalize W2.drewN nq=W3 at *
        have hdk:(y.kind != c.kind) = !decide (y.kind=c.kind):=by by_cases e:y.kind=c.kind<;>simp[e]
        by_cases hkk:y.kind=c.kind
        ·have HGN:=mk0 (show growC l2 (cs.drop (k+1))=growC l1 cs by rw[← HG.out,HGC.out,if_pos HH1.out,HKA.out,if_pos hkk])
         have hd2:(y.kind != c.kind)=false:=by rw[hdk,decide_eq_true hkk];rfl
         have HLN3:=mk0 (show l2.length≤l1.length+(k+1) by have:=HLN2.out;omega)
         clear hkk hdk HH1 HKA HGC
         go_wp2_with fail
         go_quiet (fail)
         have BQ:=Drawn0.below (Drawn0.step (Drawn0.refl W3) nq)
         have HBF:=mk0 (HBW.out.trans ((HBZ3.out.trans (BQ.mono HBZ3.out.size)).mono HBW.out.size))
         have HRF:=mk0 (Kd.R_below HRZ3.out BQ)
         clear BQ q1b c1b hd2 HBZ3 HRZ3
         generalize W3.drewN nq=W4 at *
         go_wp2
         go_roundw
         case rel=>exact ⟨k+1,l2,g2,c2,by omega,rfl,by go_num,HGN,HRL2,HLN3,HRF,HBF⟩
         case measure=>simp[intOf];omega
        ·have HGN:=mk0 (show growC l1 cs=none by rw[← HG.out,HGC.out,if_pos HH1.out,HKA.out,if_neg hkk])
         have hd2:(y.kind != c.kind)=true:=by rw[hdk,decide_eq_false hkk];rfl
         have HS:=mk0 (show r=([],22,(i:Int)) by
          have e:growR l1 cs=([],22):=by rw[growR,HGN.out]
          rw[HE3.out,e];rfl)
         clear hkk hdk HH1 HKA HGC
         go_wp2_with fail
         go_quiet (fail)
         have BQ:=Drawn0.below (Drawn0.step (Drawn0.refl W3) nq)
         have HBF:=mk0 (HBW.out.trans ((HBZ3.out.trans (BQ.mono HBZ3.out.size)).mono HBW.out.size))
         clear BQ q1b c1b hd2 HBZ3 HRZ3
         generalize W3.drewN nq=W4 at *
         go_wp2
         go_ret3
         exact ⟨_,by rw[HS.out];rfl,by rw[HS.out];exact Kd.R_nil _ _ _ _ _,HBF.out⟩
       ·have hb1:(l2[m].name.toList==c.col.toList)=false:=by rw[beq_eq_false_iff_ne];exact fun h=>hnm (toList_inj h)
        have HASN:=mk0 (show hasL l2 c.col=false by rw[HHAS.out,decide_eq_false hnm])
        clear hnm HHAS HGM
        obtain ⟨y,hy⟩:∃ y,y=l2[m]:=⟨_,rfl⟩
        rw[← hy] at q0a q1a hb1
        clear hy
        go_quiet (fail)
        have BQ:=Drawn0.below (Drawn0.step (Drawn0.refl W2) nq)
        have HBY:=mk0 (HBZ2.out.trans (BQ.mono HBZ2.out.size))
        have HRY:=mk0 (Kd.R_below HRZ2.out BQ)
        clear BQ q0a q1a c0a c1a hb1 HBZ2 HRZ2
        generalize W2.drewN nq=W3 at *
        have HGN:=mk0 (show growC (insL l2 m ⟨c.col,c.kind⟩) (cs.drop (k+1))=growC l1 cs by
         have:=HGC.out
         rw[HASN.out,HAT.out] at this
         rw[← HG.out,this]
         rfl)
        have HRN:=mk0 (show RiseL (insL l2 m ⟨c.col,c.kind⟩) from HAT.out ▸ insL_rise HRL2.out c.kind HASN.out)
        have HLN3:=mk0 (show (insL l2 m ⟨c.col,c.kind⟩).length≤l1.length+(k+1) by rw[insL_len _ _ _ hm];have:=HLN2.out;omega)
        have hmi:(m:Int)≤l2.length:=by omega
        have hlc2:=(Kd.R_reads' HRY.out).2.1
        have hmc:(m:Int)≤c2:=by omega
        have p0:=HC0.out _ HBY.out
        have p1:=HC1.out _ HBY.out
        have p0b:∀ o,(W3.alloc o).cell? ⟨W1.heap.size,0,none⟩=some (.string c.col):=fun o=>HC0.out _ (HBY.out.trans ((below_alloc (Below.refl _ _) o).mono HBY.out.size))
        have p1b:∀ o,(W3.alloc o).cell? ⟨W1.heap.size,1,none⟩=some (.int .i64 c.kind):=fun o=>HC1.out _ (HBY.out.trans ((below_alloc (Below.refl _ _) o).mono HBY.out.size))
        clear HASN HGC HAT
        have HB0:=mk0 (Below.refl W3.heap.size W3)
        have HCW:=mk0 ((Kd.R_reads' HRY.out).2.2)
        go_wp2_with fail
        apply cutR7 (Good:=fun w5 A5 c5=>G20 W3 w5 (.slice A5 (m+1) c5) (l2.take m++[(⟨c.col,c.kind⟩:ColM)]))
        ·intro key
         go_region_law (first
          | (refine col_arm1 (W:=W3) rfl (.tmp 91) (.tmp 94) rfl l2 ⟨g2,0,none⟩ m c2 ?_ rfl hm HCW.out (by omega) ?_;(first | exact (EmpC.new HB0.out rfl).drew | exact ((EmpC.new HB0.out rfl).alloc _).drew | exact (EmpC.new (below_alloc HB0.out _) (by simp)).drew);(intro A3 c3 w4 hG hP;have HG4:=mk0 hG;have HP4:=mk0 hP;have p0c:=HC0.out _ (HBY.out.trans (hG.B.mono HBY.out.size));have p1c:=HC1.out _ (HBY.out.trans (hG.B.mono HBY.out.size));clear hG hP))
          | (refine col_arm2 (W:=W3) rfl (.tmp 95) (.tmp 101) rfl (l2.take m) ⟨c.col,c.kind⟩ A3 m c3 rfl (by rw[List.length_take];omega) ?_ ?_ (by rw[List.length_take];omega) ?_;(first | exact PenC.new (x:=⟨c.col,c.kind⟩) rfl | exact HP4.out _ _ ((PenC.new (x:=⟨c.col,c.kind⟩) rfl).alloc _).drew | exact HP4.out _ _ (PenC.new (x:=⟨c.col,c.kind⟩) (by simp)).drew);(first | exact HG4.out | exact HG4.out.alloc _);(intro A5 c5 w5 hG;have HG5:=mk0 hG;clear hG)))
         all_goals
          (try generalize W3.heap.size+1=n1)
          (try generalize W3.heap.size=n0)
          (try generalize w4.heap.size=n2)
          first | exact key.out w5 A5 c5 A3 c3 n0 n1 HG5.out | exact key.out w5 A5 c5 A3 c3 n1 n0 HG5.out | exact key.out w5 A5 c5 A3 c3 n0 n2 HG5.out
        ·intro w5 A5 c5 A3 c3 n0 n1 HG
         have HG5:=mk0 HG
         clear HG p0 p1 p0b p1b
         have HB5:=mk0 (HBW.out.trans ((HBY.out.trans (HG5.out.B.mono HBY.out.size)).mono HBW.out.size))
         have HBS:=mk0 (Nat.le_trans HBW.out.size HBY.out.size)
         have HIN:=mk0 (show (l2.take m++[(⟨c.col,c.kind⟩:ColM)])++l2.drop m=insL l2 m ⟨c.col,c.kind⟩ by unfold insL;rw[List.append_assoc];rfl)
         have HLI:=mk0 (show (l2.take m++[(⟨c.col,c.kind⟩:ColM)]).length+(l2.length-m)=(insL l2 m ⟨c.col,c.kind⟩).length by rw[← HIN.out,List.length_append (bs:=l2.drop m),List.length_drop])
         have HI0:=mk0 (show 0<(insL l2 m ⟨c.col,c.kind⟩).length by rw[insL_len _ _ _ hm];omega)
         have HCD:=mk0 (show kl.C w5 (some ⟨g2,m*2,none⟩) (l2.drop m).length (l2.drop m) by
          have h:=Kd.C_drop (c:=c2) (m:=m) HCW.out hm hlc2
          rw[if_neg (by omega)] at h
          have e:(⟨g2,0,none⟩:Addr).add (m*kl.sz)=⟨g2,m*2,none⟩:=by rw[kl_sz,Addr.add_lit,Nat.zero_add]
          rw[Option.map_some,e] at h
          exact Kd.C_below h HG5.out.B)
         go_wp2_with (at_builtin;go_loud (refine kl_flat.append_rows W3.heap.size rfl (.tmp 103) (.tmp 106) 45 91 _ 24 rfl Tryz.underlying45 info_col rfl (by decide) (by decide) _ (l2.take m++[(⟨c.col,c.kind⟩:ColM)]) (l2.drop m) ⟨g2,m*2,none⟩ (l2.length-m) _ _ HLI.out rfl rfl List.length_drop HCD.out HG5.out.R HG5.out.B.size (by have:=HLI.out;have:=insL_len l2 m ⟨c.col,c.kind⟩ hm;omega) ?_))
         intro A7 c7 w7 hr7 hb7 hg7
         have hr7:kl.R 91 w7 W3.heap.size (fun _=>True) (.slice A7 (insL l2 m ⟨c.col,c.kind⟩).length c7) (insL l2 m ⟨c.col,c.kind⟩):=by first | exact hr7 | (rw[← HIN.out] at hr7 ⊢;exact hr7)
         have HB7:=mk0 (HB5.out.trans (hb7.mono HBS.out))
         have hr8:=Kd.R_lower hr7 HBS.out
         obtain ⟨g7,cap7,cur7,hv7,_,_,_⟩:=kl_flat.R_open hr8 HI0.out
         injection hv7 with hv7a _ hv7c
         subst hv7a hv7c
         have HR7:=mk0 hr8
         generalize insL l2 m ⟨c.col,c.kind⟩=l3 at *
         clear hr7 hr8 hb7 hg7 HG5 HB5 HIN HLI HI0 HCW HB0
         go_wp2
         go_roundw
         case rel=>exact ⟨k+1,l3,g7,c7,by omega,rfl,by go_num,HGN,HRN,HLN3,HR7,HB7⟩
         case measure=>simp[intOf];omega
     ·have hmli:¬ (m:Int)<l2.length:=by omega
      have HAT:=mk0 (show atL l2 c.col=m from atL_uniq HRL2.out hm HGM.out (fun h=>absurd h hml))
      have HASN:=mk0 (show hasL l2 c.col=false by
       cases hh:hasL l2 c.col
       ·rfl
       ·obtain ⟨h9,_⟩:=(hasL_iff l2 c.col).1 hh
        rw[HAT.out] at h9
        omega)
      clear HGM
      go_wp2_with fail
      go_quiet (fail)
      have BQ:=Drawn0.below (Drawn0.step (Drawn0.refl wr) nq)
      have HBZ2:=mk0 (HBZ.out.trans (BQ.mono HBZ.out.size))
      have HRZ2:=mk0 (Kd.R_below HRZ.out BQ)
      clear BQ c0 HBZ HRZ HBT
      generalize wr.drewN nq=W2 at *
      go_wp2_with fail
      go_quiet (fail)
      have BQ:=Drawn0.below (Drawn0.step (Drawn0.refl W2) nq)
      have HBY:=mk0 (HBZ2.out.trans (BQ.mono HBZ2.out.size))
      have HRY:=mk0 (Kd.R_below HRZ2.out BQ)
      clear BQ HBZ2 HRZ2
      generalize W2.drewN nq=W3 at *
      have HGN:=mk0 (show growC (insL l2 m ⟨c.col,c.kind⟩) (cs.drop (k+1))=growC l1 cs by
       have:=HGC.out
       rw[HASN.out,HAT.out] at this
       rw[← HG.out,this]
       rfl)
      have HRN:=mk0 (show RiseL (insL l2 m ⟨c.col,c.kind⟩) from HAT.out ▸ insL_rise HRL2.out c.kind HASN.out)
      have HLN3:=mk0 (show (insL l2 m ⟨c.col,c.kind⟩).length≤l1.length+(k+1) by rw[insL_len _ _ _ hm];have:=HLN2.out;omega)
      have hmi:(m:Int)≤l2.length:=by omega
      have hlc2:=(Kd.R_reads' HRY.out).2.1
      have hmc:(m:Int)≤c2:=by omega
      have p0:=HC0.out _ HBY.out
      have p1:=HC1.out _ HBY.out
      have p0b:∀ o,(W3.alloc o).cell? ⟨W1.heap.size,0,none⟩=some (.string c.col):=fun o=>HC0.out _ (HBY.out.trans ((below_alloc (Below.refl _ _) o).mono HBY.out.size))
      have p1b:∀ o,(W3.alloc o).cell? ⟨W1.heap.size,1,none⟩=some (.int .i64 c.kind):=fun o=>HC1.out _ (HBY.out.trans ((below_alloc (Below.refl _ _) o).mono HBY.out.size))
      clear HASN HGC HAT
      have HB0:=mk0 (Below.refl W3.heap.size W3)
      have HCW:=mk0 ((Kd.R_reads' HRY.out).2.2)
      go_wp2_with fail
      apply cutR7 (Good:=fun w5 A5 c5=>G20 W3 w5 (.slice A5 (m+1) c5) (l2.take m++[(⟨c.col,c.kind⟩:ColM)]))
      ·intro key
       go_region_law (first
        | (refine col_arm1 (W:=W3) rfl (.tmp 91) (.tmp 94) rfl l2 ⟨g2,0,none⟩ m c2 ?_ rfl hm HCW.out (by omega) ?_;(first | exact (EmpC.new HB0.out rfl).drew | exact ((EmpC.new HB0.out rfl).alloc _).drew | exact (EmpC.new (below_alloc HB0.out _) (by simp)).drew);(intro A3 c3 w4 hG hP;have HG4:=mk0 hG;have HP4:=mk0 hP;have p0c:=HC0.out _ (HBY.out.trans (hG.B.mono HBY.out.size));have p1c:=HC1.out _ (HBY.out.trans (hG.B.mono HBY.out.size));clear hG hP))
        | (refine col_arm2 (W:=W3) rfl (.tmp 95) (.tmp 101) rfl (l2.take m) ⟨c.col,c.kind⟩ A3 m c3 rfl (by rw[List.length_take];omega) ?_ ?_ (by rw[List.length_take];omega) ?_;(first | exact PenC.new (x:=⟨c.col,c.kind⟩) rfl | exact HP4.out _ _ ((PenC.new (x:=⟨c.col,c.kind⟩) rfl).alloc _).drew | exact HP4.out _ _ (PenC.new (x:=⟨c.col,c.kind⟩) (by simp)).drew);(first | exact HG4.out | exact HG4.out.alloc _);(intro A5 c5 w5 hG;have HG5:=mk0 hG;clear hG)))
       all_goals
        (try generalize W3.heap.size+1=n1)
        (try generalize W3.heap.size=n0)
        (try generalize w4.heap.size=n2)
        first | exact key.out w5 A5 c5 A3 c3 n0 n1 HG5.out | exact key.out w5 A5 c5 A3 c3 n1 n0 HG5.out | exact key.out w5 A5 c5 A3 c3 n0 n2 HG5.out
      ·intro w5 A5 c5 A3 c3 n0 n1 HG
       have HG5:=mk0 HG
       clear HG p0 p1 p0b p1b
       have HB5:=mk0 (HBW.out.trans ((HBY.out.trans (HG5.out.B.mono HBY.out.size)).mono HBW.out.size))
       have HBS:=mk0 (Nat.le_trans HBW.out.size HBY.out.size)
       have HIN:=mk0 (show (l2.take m++[(⟨c.col,c.kind⟩:ColM)])++l2.drop m=insL l2 m ⟨c.col,c.kind⟩ by unfold insL;rw[List.append_assoc];rfl)
       have HLI:=mk0 (show (l2.take m++[(⟨c.col,c.kind⟩:ColM)]).length+(l2.length-m)=(insL l2 m ⟨c.col,c.kind⟩).length by rw[← HIN.out,List.length_append (bs:=l2.drop m),List.length_drop])
       have HI0:=mk0 (show 0<(insL l2 m ⟨c.col,c.kind⟩).length by rw[insL_len _ _ _ hm];omega)
       have HCD:=mk0 (show ∀ ad,kl.C w5 (some ad) (l2.drop m).length (l2.drop m) from fun ad=>by
        rw[List.drop_eq_nil_of_le (by omega)]
        exact ⟨rfl,by simp,fun h=>absurd h (by simp)⟩)
       by_cases hcm:c2=m
       ·obtain rfl:m=c2:=hcm.symm
        go_wp2_with (at_builtin;go_loud (refine kl_flat.append_rows W3.heap.size rfl (.tmp 103) (.tmp 106) 45 91 _ 24 rfl Tryz.underlying45 info_col rfl (by decide) (by decide) _ (l2.take m++[(⟨c.col,c.kind⟩:ColM)]) (l2.drop m) ⟨g2,0,none⟩ 0 _ _ (show _+0=(insL l2 m ⟨c.col,c.kind⟩).length by have:=HLI.out;omega) rfl rfl (by rw[List.length_drop];omega) (HCD.out _) HG5.out.R HG5.out.B.size (by have:=HLI.out;have:=insL_len l2 m ⟨c.col,c.kind⟩ hm;omega) ?_))
        intro A7 c7 w7 hr7 hb7 hg7
        have hr7:kl.R 91 w7 W3.heap.size (fun _=>True) (.slice A7 (insL l2 m ⟨c.col,c.kind⟩).length c7) (insL l2 m ⟨c.col,c.kind⟩):=by first | exact hr7 | (rw[← HIN.out] at hr7 ⊢;exact hr7)
        have HB7:=mk0 (HB5.out.trans (hb7.mono HBS.out))
        have hr8:=Kd.R_lower hr7 HBS.out
        obtain ⟨g7,cap7,cur7,hv7,_,_,_⟩:=kl_flat.R_open hr8 HI0.out
        injection hv7 with hv7a _ hv7c
        subst hv7a hv7c
        have HR7:=mk0 hr8
        generalize insL l2 m ⟨c.col,c.kind⟩=l3 at *
        clear hr7 hr8 hb7 hg7 HG5 HB5 HIN HLI HI0 HCW HB0
        go_wp2
        go_roundw
        case rel=>exact ⟨k+1,l3,g7,c7,by omega,rfl,by go_num,HGN,HRN,HLN3,HR7,HB7⟩
        case measure=>simp[intOf];omega
       ·go_wp2_with (at_builtin;go_loud (refine kl_flat.append_rows W3.heap.size rfl (.tmp 103) (.tmp 106) 45 91 _ 24 rfl Tryz.underlying45 info_col rfl (by decide) (by decide) _ (l2.take m++[(⟨c.col,c.kind⟩:ColM)]) (l2.drop m) ⟨g2,m*2,none⟩ (l2.length-m) _ _ HLI.out rfl rfl List.length_drop (HCD.out _) HG5.out.R HG5.out.B.size (by have:=HLI.out;have:=insL_len l2 m ⟨c.col,c.kind⟩ hm;omega) ?_))
        intro A7 c7 w7 hr7 hb7 hg7
        have hr7:kl.R 91 w7 W3.heap.size (fun _=>True) (.slice A7 (insL l2 m ⟨c.col,c.kind⟩).length c7) (insL l2 m ⟨c.col,c.kind⟩):=by first | exact hr7 | (rw[← HIN.out] at hr7 ⊢;exact hr7)
        have HB7:=mk0 (HB5.out.trans (hb7.mono HBS.out))
        have hr8:=Kd.R_lower hr7 HBS.out
        obtain ⟨g7,cap7,cur7,hv7,_,_,_⟩:=kl_flat.R_open hr8 HI0.out
        injection hv7 with hv7a _ hv7c
        subst hv7a hv7c
        have HR7:=mk0 hr8
        generalize insL l2 m ⟨c.col,c.kind⟩=l3 at *
        clear hr7 hr8 hb7 hg7 HG5 HB5 HIN HLI HI0 HCW HB0
        go_wp2
        go_roundw
        case rel=>exact ⟨k+1,l3,g7,c7,by omega,rfl,by go_num,HGN,HRN,HLN3,HR7,HB7⟩
        case measure=>simp[intOf];omega
end Go.Proofs.YtplnodcbbcdcgaaGreat.Lib0

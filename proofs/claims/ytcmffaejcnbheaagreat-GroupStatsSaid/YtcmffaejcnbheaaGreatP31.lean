import Derived.Test.YtcmffaejcnbheaaGreatP29
set_option linter.unusedVariables false
set_option linter.unusedSimpArgs false
namespace Go.Proofs.YtcmffaejcnbheaaGreat.Lib0
open Go.RowKit Go.Proofs.YtcmffaejcnbheaaGreatW.PrintWords Go.ChangeMaps
set_option maxHeartbeats 1600000 in
set_option maxRecDepth 100000 in
theorem clone_zone (A:Option Addr) (c:Nat) (l:List ZoneE) (w:World) (h:kz.C w A l.length l) (hl:l.length≤1099511627776) :
  Calls Tryz.prog 46 #[.slice A l.length c] w fun e w'=>∃ v,e = .returned v∧kz.R 62 w' w.heap.size (fun _=>True) v l∧Below w.heap.size w w':=by
 have HC:=mk0 h
 have HL:=mk0 hl
 rcases A with _ | ad
 ·have h0:l = []:=by
   rcases l with _ | ⟨x,l⟩
   ·rfl
   ·obtain ⟨ad,e,_⟩:=h.2.2 (by simp)
    cases e
  subst h0
  rw[List.length_nil]
  have hnil:=fun W=>Go.Lib.run_eql_slice_nil (P:=Tryz.prog) W 42 62 none 0 c 0 0 Tryz.underlying42
  simp only[Option.isNone_none] at hnil
  clear h hl
  go_enter Tryz.func46,Tryz.ntmps46
  go_wp2
  go_ret
  exact ⟨_,rfl,Kd.R_nil _ _ _ _ _,Below.refl _ _⟩
 ·have hnil:=fun W=>Go.Lib.run_eql_slice_nil (P:=Tryz.prog) W 42 62 (some ad) l.length c 0 0 Tryz.underlying42
  simp only[Option.isNone_some] at hnil
  have HB:=mk0 (below_alloc (Below.refl w.heap.size w) (.cells #[] 62))
  have HN:=mk0 (heap_alloc_new w (.cells #[] 62))
  clear h hl
  go_enter Tryz.func46,Tryz.ntmps46
  go_wp2_with (at_builtin;go_loud (refine kz_flat.append_new w.heap.size w.heap.size (.tmp 5) (.tmp 6) 42 62 _ _ c ad l rfl rfl Tryz.underlying42 info_zone rfl rfl rfl HN.out (Nat.le_refl _) (Kd.C_below HC.out (below_alloc (Below.refl _ _) _)) ?c2 ?_))
  case c2=>have:=HL.out;omega
  intro v1 w1 hr1 hb1
  have R1:=mk0 hr1
  have B1:=mk0 (HB.out.trans (hb1.mono (by simp)))
  clear hr1 hb1
  go_wp2
  go_ret
  exact ⟨_,rfl,R1.out,B1.out⟩
set_option maxHeartbeats 1600000 in
set_option maxRecDepth 100000 in
theorem clone_bloom (A:Option Addr) (c:Nat) (l:List BloomE) (w:World) (h:kb.C w A l.length l) (hl:l.length≤1099511627776) :
  Calls Tryz.prog 47 #[.slice A l.length c] w fun e w'=>∃ v,e = .returned v∧kb.R 69 w' w.heap.size (fun _=>True) v l∧Below w.heap.size w w':=by
 have HC:=mk0 h
 have HL:=mk0 hl
 rcases A with _ | ad
 ·have h0:l = []:=by
   rcases l with _ | ⟨x,l⟩
   ·rfl
   ·obtain ⟨ad,e,_⟩:=h.2.2 (by simp)
    cases e
  subst h0
  rw[List.length_nil]
  have hnil:=fun W=>Go.Lib.run_eql_slice_nil (P:=Tryz.prog) W 43 69 none 0 c 0 0 Tryz.underlying43
  simp only[Option.isNone_none] at hnil
  clear h hl
  go_enter Tryz.func47,Tryz.ntmps47
  go_wp2
  go_ret
  exact ⟨_,rfl,Kd.R_nil _ _ _ _ _,Below.refl _ _⟩
 ·have hnil:=fun W=>Go.Lib.run_eql_slice_nil (P:=Tryz.prog) W 43 69 (some ad) l.length c 0 0 Tryz.underlying43
  simp only[Option.isNone_some] at hnil
  have HB:=mk0 (below_alloc (Below.refl w.heap.size w) (.cells #[] 69))
  have HN:=mk0 (heap_alloc_new w (.cells #[] 69))
  clear h hl
  go_enter Tryz.func47,Tryz.ntmps47
  go_wp2_with (at_builtin;go_loud (refine kb_flat.append_new w.heap.size w.heap.size (.tmp 5) (.tmp 6) 43 69 _ _ c ad l rfl rfl Tryz.underlying43 info_bloom rfl rfl rfl HN.out (Nat.le_refl _) (Kd.C_below HC.out (below_alloc (Below.refl _ _) _)) ?c2 ?_))
  case c2=>have:=HL.out;omega
  intro v1 w1 hr1 hb1
  have R1:=mk0 hr1
  have B1:=mk0 (HB.out.trans (hb1.mono (by simp)))
  clear hr1 hb1
  go_wp2
  go_ret
  exact ⟨_,rfl,R1.out,B1.out⟩
end Go.Proofs.YtcmffaejcnbheaaGreat.Lib0
namespace Go.Proofs.YtcmffaejcnbheaaGreat.Lib0
open Go.RowKit Go.Proofs.YtcmffaejcnbheaaGreatW.PrintWords Go.ChangeMaps
set_option maxRecDepth 100000 in
theorem keep_Num (col:ByteArray) (n:Int) (w:World) :
  Calls Tryz.prog 35 #[.string col,.int .i64 n] w fun e w'=>e = .returned (.agg #[.string col,.int .i64 1,.int .i64 n,.string ⟨#[]⟩])∧Below w.heap.size w w':=by
 have hh:=heap_alloc_new w (.cells #[.string col,.int .i64 1,.int .i64 n,.string ⟨#[]⟩] 78)
 have g0:=cell_of_heap (i:=0) hh rfl
 have g1:=cell_of_heap (i:=1) hh rfl
 have g2:=cell_of_heap (i:=2) hh rfl
 have g3:=cell_of_heap (i:=3) hh rfl
 have HB:=mk0 (below_alloc (Below.refl w.heap.size w) (.cells #[.string col,.int .i64 1,.int .i64 n,.string ⟨#[]⟩] 78))
 clear hh
 go_enter Tryz.func35,Tryz.ntmps35
 go_wp2
 refine bodyPost_ret (v:=.agg #[.string col,.int .i64 1,.int .i64 n,.string ⟨#[]⟩]) (by simp[results,Tryz.results35,go_sem,g0,g1,g2,g3]) rfl ?_
 exact ⟨rfl,HB.out⟩
set_option maxRecDepth 100000 in
theorem keep_Str (col s:ByteArray) (w:World) :
  Calls Tryz.prog 54 #[.string col,.string s] w fun e w'=>e = .returned (.agg #[.string col,.int .i64 2,.int .i64 0,.string s])∧Below w.heap.size w w':=by
 have hh:=heap_alloc_new w (.cells #[.string col,.int .i64 2,.int .i64 0,.string s] 78)
 have g0:=cell_of_heap (i:=0) hh rfl
 have g1:=cell_of_heap (i:=1) hh rfl
 have g2:=cell_of_heap (i:=2) hh rfl
 have g3:=cell_of_heap (i:=3) hh rfl
 have HB:=mk0 (below_alloc (Below.refl w.heap.size w) (.cells #[.string col,.int .i64 2,.int .i64 0,.string s] 78))
 clear hh
 go_enter Tryz.func54,Tryz.ntmps54
 go_wp2
 refine bodyPost_ret (v:=.agg #[.string col,.int .i64 2,.int .i64 0,.string s]) (by simp[results,Tryz.results54,go_sem,g0,g1,g2,g3]) rfl ?_
 exact ⟨rfl,HB.out⟩
set_option maxRecDepth 100000 in
theorem eqA_cell (d:Nat) (w:World) (x0 y0:ByteArray) (x1 y1:Int) (x2 y2:Int) (x3 y3:ByteArray) :
  (Op.equalIn (d+2) 78 (.agg #[.string x0,.int .i64 x1,.int .i64 x2,.string x3]) (.agg #[.string y0,.int .i64 y1,.int .i64 y2,.string y3])).run Tryz.prog w = .ok (x0.toList==y0.toList && (x1==y1 && (x2==y2 && (x3.toList==y3.toList)))) w:=by
 refine eqA_of Tryz.underlying78 (by kernel_rfl) ?_
 refine eqf_cons (by rfl) (by go_simp;rfl) (by go_simp;rfl) (by go_simp) ?_
 refine eqf_cons (by rfl) (by go_simp;rfl) (by go_simp;rfl) (by go_simp) ?_
 refine eqf_cons (by rfl) (by go_simp;rfl) (by go_simp;rfl) (by go_simp) ?_
 exact eqf_last (by rfl) (by go_simp;rfl) (by go_simp;rfl) (by go_simp)
attribute [local go_sem high] eqA_cell
def eqC (x y:CellM):Bool:=x.col.toList==y.col.toList && (x.kind==y.kind && (x.n==y.n && (x.s.toList==y.s.toList)))
def eqCs:List CellM→List CellM→Bool
 | [],[]=>true
 | x :: a,y :: b=>eqC x y && eqCs a b
 | _,_=>false
theorem eqCs_len:∀ {a b:List CellM},eqCs a b=true→a.length=b.length
 | [],[],_=>rfl
 | x :: a,y :: b,h=>by
  rw[eqCs,Bool.and_eq_true] at h
  rw[List.length_cons,List.length_cons,eqCs_len h.2]
 | [],_ :: _,h=>by cases h
 | _ :: _,[],h=>by cases h
theorem eqC_bool (x y:CellM):(!x.col.toList==y.col.toList || (!x.kind==y.kind || (!x.n==y.n || !x.s.toList==y.s.toList))) = !eqC x y:=by
 unfold eqC
 rw[Bool.not_and,Bool.not_and,Bool.not_and]
set_option maxHeartbeats 1600000 in
set_option maxRecDepth 100000 in
theorem keep_Cells (A B:Option Addr) (ca cb:Nat) (l l':List CellM) (w:World) (ha:kc.C w A l.length l) (hb:kc.C w B l'.length l') (hl:l.length≤1099511627776) (hl':l'.length≤1099511627776) :
  Calls Tryz.prog 83 #[.slice A l.length ca,.slice B l'.length cb] w fun e w'=>e = .returned (.bool (eqCs l l'))∧Below w.heap.size w w':=by
 have HA:=mk0 ha
 have HB:=mk0 hb
 have hli:(l.length:Int)≤1099511627776:=by omega
 have hli':(l'.length:Int)≤1099511627776:=by omega
 have HB0:=mk0 (Below.refl w.heap.size w)
 obtain ⟨R,hR⟩:∃ R,R=eqCs l l':=⟨_,rfl⟩
 rw[← hR]
 have HRR:=mk0 hR
 clear ha hb hR
 by_cases hn:l.length=l'.length
 ·have hnb:((l.length:Int)==l'.length)=true:=by rw[beq_iff_eq];omega
  have HN:=mk0 hn
  clear hn
  go_enter Tryz.func83,Tryz.ntmps83
  go_wp2_with fail
  go_loopw[5] (fun v5 wr=>∃ (k:Nat),k≤l.length∧v5 = .int .i64 k∧Aside0 (eqCs (l.drop k) (l'.drop k)=R)∧Aside0 (Below w.heap.size w wr)) (fun i _=>l.length-(intOf i).toNat)
  case atStart=>exact ⟨0,by omega,rfl,⟨HRR.out.symm⟩,HB0⟩
  case round=>
   clear HB0
   obtain ⟨k,hk,rfl,HE,HBW⟩:=hrel
   by_cases hlt:k<l.length
   ·have hlt2:(k:Int)<l.length:=by omega
    have hlt3:k<l'.length:=by have:=HN.out;omega
    have hlt4:(k:Int)<l'.length:=by omega
    obtain ⟨b,o,rfl,hx⟩:=kc_open (Kd.C_below HA.out HBW.out) (by omega)
    obtain ⟨b',o',rfl,hy⟩:=kc_open (Kd.C_below HB.out HBW.out) (by omega)
    obtain ⟨x0,x1,x2,x3⟩:=hx k hlt
    obtain ⟨y0,y1,y2,y3⟩:=hy k hlt3
    obtain ⟨x,hxx⟩:∃ x,x=l[k]:=⟨_,rfl⟩
    obtain ⟨y,hyy⟩:∃ y,y=l'[k]:=⟨_,rfl⟩
    rw[← hxx] at x0 x1 x2 x3
    rw[← hyy] at y0 y1 y2 y3
    have HE2:=mk0 (show (eqC x y && eqCs (l.drop (k+1)) (l'.drop (k+1)))=R by
     have:=HE.out
     rw[List.drop_eq_getElem_cons hlt,List.drop_eq_getElem_cons hlt3,eqCs,← hxx,← hyy] at this
     exact this)
    clear hx hy hxx hyy HE
    go_wp2_with fail
    go_region_held3 (fun w'=>w'.cell? ⟨b,o+k*4,none⟩=some (.string x.col)∧w'.cell? ⟨b,o+k*4+1,none⟩=some (.int .i64 x.kind)∧w'.cell? ⟨b,o+k*4+2,none⟩=some (.int .i64 x.n)∧w'.cell? ⟨b,o+k*4+3,none⟩=some (.string x.s)∧w'.cell? ⟨b',o'+k*4,none⟩=some (.string y.col)∧w'.cell? ⟨b',o'+k*4+1,none⟩=some (.int .i64 y.kind)∧w'.cell? ⟨b',o'+k*4+2,none⟩=some (.int .i64 y.n)∧w'.cell? ⟨b',o'+k*4+3,none⟩=some (.string y.s)) (go_keep) (first | (fail))
    rw[eqC_bool x y]
    have HB1:=mk0 (HBW.out.trans (below_drew _ _))
    clear x0 x1 x2 x3 y0 y1 y2 y3
    obtain ⟨q,hq⟩:∃ q,q=eqC x y:=⟨_,rfl⟩
    rw[← hq] at HE2 ⊢
    clear hq
    cases q
    ·have HE3:=mk0 (show R=false from HE2.out.symm)
     simp only[Bool.not_false]
     go_wp2
     go_ret
     exact ⟨by rw[HE3.out];rfl,HB1.out⟩
    ·have HE3:=mk0 (show eqCs (l.drop (k+1)) (l'.drop (k+1))=R by rw[← HE2.out];rfl)
     simp only[Bool.not_true]
     go_wp2
     go_roundw
     case rel=>exact ⟨k+1,by omega,by go_num,HE3,HB1⟩
     case measure=>simp[intOf];omega
   ·have hk2:k=l.length:=by omega
    subst hk2
    have HE3:=mk0 (show R=true by rw[← HE.out,List.drop_length,HN.out,List.drop_length];rfl)
    go_wp2
    go_ret
    exact ⟨by rw[HE3.out];rfl,HBW.out⟩
 ·have hnb:((l.length:Int)==l'.length)=false:=by rw[beq_eq_false_iff_ne];omega
  have HE3:=mk0 (show R=false by
   rw[HRR.out]
   cases hh:eqCs l l'
   ·rfl
   ·exact absurd (eqCs_len hh) hn)
  go_enter Tryz.func83,Tryz.ntmps83
  go_wp2
  go_ret
  exact ⟨by rw[HE3.out];rfl,HB0.out⟩
end Go.Proofs.YtcmffaejcnbheaaGreat.Lib0
namespace Go.Proofs.YtcmffaejcnbheaaGreat.Lib0
open Go.RowKit Go.Proofs.YtcmffaejcnbheaaGreatW.PrintWords Go.ChangeMaps
def eqM (a b:RowM):Bool:=a.t==b.t && (a.s==b.s && eqCs a.cs b.cs)
def eqMs:List RowM→List RowM→Bool
 | [],[]=>true
 | a :: x,b :: y=>eqM a b && eqMs x y
 | _,_=>false
theorem eqMs_len:∀ {a b:List RowM},eqMs a b=true→a.length=b.length
 | [],[],_=>rfl
 | x :: a,y :: b,h=>by
  rw[eqMs,Bool.and_eq_true] at h
  rw[List.length_cons,List.length_cons,eqMs_len h.2]
 | [],_ :: _,h=>by cases h
 | _ :: _,[],h=>by cases h
set_option maxHeartbeats 1600000 in
set_option maxRecDepth 100000 in
theorem keep_Row (t s t' s':Int) (A B:Option Addr) (ca cb:Nat) (l l':List CellM) (w:World) (ha:kc.C w A l.length l) (hb:kc.C w B l'.length l') (hl:l.length≤1099511627776) (hl':l'.length≤1099511627776) :
  Calls Tryz.prog 42 #[.agg #[.int .i64 t,.int .i64 s,.slice A l.length ca],.agg #[.int .i64 t',.int .i64 s',.slice B l'.length cb]] w fun e w'=>e = .returned (.bool (eqM ⟨t,s,l⟩ ⟨t',s',l'⟩))∧Below w.heap.size w w':=by
 have b1:=below_alloc (Below.refl w.heap.size w) (.cells #[.int .i64 t,.int .i64 s,.slice A l.length ca] 76)
 have b2:=b1.trans ((below_alloc (Below.refl _ (w.alloc (.cells #[.int .i64 t,.int .i64 s,.slice A l.length ca] 76))) (.cells #[.int .i64 t',.int .i64 s',.slice B l'.length cb] 76)).mono b1.size)
 have HB2:=mk0 b2
 have HCE:=mk0 (keep_Cells A B ca cb l l' _ (Kd.C_below ha b2) (Kd.C_below hb b2) hl hl')
 have HR:Aside0 (eqM ⟨t,s,l⟩ ⟨t',s',l'⟩=(t==t' && (s==s' && eqCs l l'))):=⟨rfl⟩
 generalize eqM ⟨t,s,l⟩ ⟨t',s',l'⟩=r at *
 generalize eqCs l l'=r2 at *
 clear ha hb hl hl' b1 b2
 by_cases ht:t=t'
 ·have htb:(t==t')=true:=by rw[beq_iff_eq];exact ht
  rw[htb] at HR
  subst ht
  by_cases hs:s=s'
  ·have hsb:(s==s')=true:=by rw[beq_iff_eq];exact hs
   rw[hsb] at HR
   subst hs
   have HR2:=mk0 (show r=r2 by rw[HR.out];simp)
   go_enter Tryz.func42,Tryz.ntmps42
   go_wp2_with fail
   (with_reducible refine HCE.out.mono ?_)
   rintro e w3 ⟨rfl,hb3⟩
   have HB3:=mk0 (HB2.out.trans (hb3.mono HB2.out.size))
   clear hb3
   go_wp2
   go_ret
   exact ⟨by rw[HR2.out];rfl,HB3.out⟩
  ·have hsb:(s==s')=false:=by rw[beq_eq_false_iff_ne];exact hs
   have HR2:=mk0 (show r=false by rw[HR.out,hsb];simp)
   go_enter Tryz.func42,Tryz.ntmps42
   go_wp2
   go_ret
   exact ⟨by rw[HR2.out];rfl,HB2.out⟩
 ·have htb:(t==t')=false:=by rw[beq_eq_false_iff_ne];exact ht
  have HR2:=mk0 (show r=false by rw[HR.out,htb];simp)
  go_enter Tryz.func42,Tryz.ntmps42
  go_wp2
  go_ret
  exact ⟨by rw[HR2.out];rfl,HB2.out⟩
theorem rowsM_drop (H:List RowH) (L:List (List CellM)) (k:Nat) (h1:k<H.length) (h2:k<L.length):(rowsM H L).drop k=⟨H[k].t,H[k].s,L[k]⟩ :: (rowsM H L).drop (k+1):=by
 by_cases h:k<(rowsM H L).length
 ·rw[List.drop_eq_getElem_cons h,rowsM_get H L k h1 h2 h]
 ·exact absurd (rowsM_lt H L k h1 h2) h
set_option maxHeartbeats 1600000 in
set_option maxRecDepth 100000 in
theorem keep_Rows (A B:Option Addr) (ca cb:Nat) (H H':List RowH) (L L':List (List CellM)) (w:World) (ha:kr.C w A H.length H) (hb:kr.C w B H'.length H') (hL:RowsOn w H L) (hL':RowsOn w H' L')
  (hl:H.length≤1099511627776) (hl':H'.length≤1099511627776) (hc:∀ c ∈ L,c.length≤1099511627776) (hc':∀ c ∈ L',c.length≤1099511627776) :
  Calls Tryz.prog 13 #[.slice A H.length ca,.slice B H'.length cb] w fun e w'=>e = .returned (.bool (eqMs (rowsM H L) (rowsM H' L')))∧Below w.heap.size w w':=by
 have HA:=mk0 ha
 have HB:=mk0 hb
 have HL:=mk0 hL
 have HL':=mk0 hL'
 have HC:=mk0 (And.intro hc hc')
 have hli:(H.length:Int)≤1099511627776:=by omega
 have hli':(H'.length:Int)≤1099511627776:=by omega
 have HB0:=mk0 (Below.refl w.heap.size w)
 obtain ⟨R,hR⟩:∃ R,R=eqMs (rowsM H L) (rowsM H' L'):=⟨_,rfl⟩
 rw[← hR]
 have HRR:=mk0 hR
 clear ha hb hL hL' hc hc' hR
 by_cases hn:H.length=H'.length
 ·have hnb:((H.length:Int)==H'.length)=true:=by rw[beq_iff_eq];omega
  have hnb2:((H.length:Int) != H'.length)=false:=by rw[bne_eq_false_iff_eq];omega
  have HN:=mk0 hn
  clear hn
  go_enter Tryz.func13,Tryz.ntmps13
  go_wp2_with fail
  go_loopw[5] (fun v5 wr=>∃ (k:Nat),k≤H.length∧v5 = .int .i64 k∧Aside0 (eqMs ((rowsM H L).drop k) ((rowsM H' L').drop k)=R)∧Aside0 (Below w.heap.size w wr)) (fun i _=>H.length-(intOf i).toNat)
  case atStart=>exact ⟨0,by omega,rfl,⟨HRR.out.symm⟩,HB0⟩
  case round=>
   clear HB0
   obtain ⟨k,hk,rfl,HE,HBW⟩:=hrel
   by_cases hlt:k<H.length
   ·have hlt2:(k:Int)<H.length:=by omega
    have hlt3:k<H'.length:=by have:=HN.out;omega
    have hlt4:(k:Int)<H'.length:=by omega
    have hm1:k<L.length:=by rw[← HL.out.1];exact hlt
    have hm2:k<L'.length:=by rw[← HL'.out.1];exact hlt3
    obtain ⟨b,o,rfl,hx⟩:=kr_open (Kd.C_below HA.out HBW.out) (by omega)
    obtain ⟨b',o',rfl,hy⟩:=kr_open (Kd.C_below HB.out HBW.out) (by omega)
    obtain ⟨x0,x1,x2⟩:=hx k hlt
    obtain ⟨y0,y1,y2⟩:=hy k hlt3
    obtain ⟨q1,q2,q3⟩:=(HL.out.below HBW.out).2 k hlt hm1
    obtain ⟨q1',q2',q3'⟩:=(HL'.out.below HBW.out).2 k hlt3 hm2
    have hcc:=HC.out.1 _ (List.getElem_mem hm1)
    have hcc':=HC.out.2 _ (List.getElem_mem hm2)
    have HE2:=mk0 (show (eqM ⟨H[k].t,H[k].s,L[k]⟩ ⟨H'[k].t,H'[k].s,L'[k]⟩ && eqMs ((rowsM H L).drop (k+1)) ((rowsM H' L').drop (k+1)))=R by
     have:=HE.out
     rw[rowsM_drop H L k hlt hm1,rowsM_drop H' L' k hlt3 hm2,eqMs] at this
     exact this)
    generalize H[k]=x at *
    generalize H'[k]=y at *
    generalize L[k]=cx at *
    generalize L'[k]=cy at *
    obtain ⟨xt,xs,xA,xn,xc⟩:=x
    obtain ⟨yt,ys,yA,yn,yc⟩:=y
    dsimp only at *
    subst q1 q1'
    have HRW:=mk0 (keep_Row xt xs yt ys xA yA xc yc cx cy wr.drew (Kd.C_drew q3) (Kd.C_drew q3') hcc hcc')
    clear hx hy HE q2 q2' q3 q3' hcc hcc'
    go_wp2_with fail
    go_region_held3 (fun w'=>w'.cell? ⟨b,o+k*3,none⟩=some (.int .i64 xt)∧w'.cell? ⟨b,o+k*3+1,none⟩=some (.int .i64 xs)∧w'.cell? ⟨b,o+k*3+2,none⟩=some (.slice xA cx.length xc)∧w'.cell? ⟨b',o'+k*3,none⟩=some (.int .i64 yt)∧w'.cell? ⟨b',o'+k*3+1,none⟩=some (.int .i64 ys)∧w'.cell? ⟨b',o'+k*3+2,none⟩=some (.slice yA cy.length yc)) (go_keep) (first
     | (go_at_call 42;(with_reducible refine HRW.out.mono ?_);rintro e w5 ⟨rfl,b5⟩;have HB5:=mk0 ((below_drew wr.heap.size wr).trans b5);have z0:w5.cell? ⟨b,o+k*3,none⟩=some (.int .i64 xt):=(HB5.out.cell (World.block_lt_of_cell? wr _ x0)).trans x0;have z1:w5.cell? ⟨b,o+k*3+1,none⟩=some (.int .i64 xs):=(HB5.out.cell (World.block_lt_of_cell? wr _ x1)).trans x1;have z2:w5.cell? ⟨b,o+k*3+2,none⟩=some (.slice xA cx.length xc):=(HB5.out.cell (World.block_lt_of_cell? wr _ x2)).trans x2;have u0:w5.cell? ⟨b',o'+k*3,none⟩=some (.int .i64 yt):=(HB5.out.cell (World.block_lt_of_cell? wr _ y0)).trans y0;have u1:w5.cell? ⟨b',o'+k*3+1,none⟩=some (.int .i64 ys):=(HB5.out.cell (World.block_lt_of_cell? wr _ y1)).trans y1;have u2:w5.cell? ⟨b',o'+k*3+2,none⟩=some (.slice yA cy.length yc):=(HB5.out.cell (World.block_lt_of_cell? wr _ y2)).trans y2;clear b5))
    have HB6:=mk0 (HBW.out.trans (HB5.out.mono HBW.out.size))
    clear x0 x1 x2 y0 y1 y2 z0 z1 z2 u0 u1 u2 HB5 HRW
    generalize eqM ⟨xt,xs,cx⟩ ⟨yt,ys,cy⟩=q at *
    cases q
    ·have HE3:=mk0 (show R=false from HE2.out.symm)
     simp only[Bool.not_false]
     go_wp2
     go_ret
     exact ⟨by rw[HE3.out];rfl,HB6.out⟩
    ·have HE3:=mk0 (show eqMs ((rowsM H L).drop (k+1)) ((rowsM H' L').drop (k+1))=R by rw[← HE2.out];rfl)
     simp only[Bool.not_true]
     go_wp2
     go_roundw
     case rel=>exact ⟨k+1,by omega,by go_num,HE3,HB6⟩
     case measure=>simp[intOf];omega
   ·have hk2:k=H.length:=by omega
    subst hk2
    have HE3:=mk0 (show R=true by
     rw[← HE.out,List.drop_of_length_le (by rw[rowsM_len H L HL.out.1];exact Nat.le_refl _),List.drop_of_length_le (by rw[rowsM_len H' L' HL'.out.1,HN.out];exact Nat.le_refl _)];rfl)
    go_wp2
    go_ret
    exact ⟨by rw[HE3.out];rfl,HBW.out⟩
 ·have hnb:((H.length:Int)==H'.length)=false:=by rw[beq_eq_false_iff_ne];omega
  have HE3:=mk0 (show R=false by
   rw[HRR.out]
   cases hh:eqMs (rowsM H L) (rowsM H' L')
   ·rfl
   ·have:=eqMs_len hh
    rw[rowsM_len H L HL.out.1,rowsM_len H' L' HL'.out.1] at this
    exact absurd this hn)
  go_enter Tryz.func13,Tryz.ntmps13
  go_wp2
  go_ret
  exact ⟨by rw[HE3.out];rfl,HB0.out⟩
end Go.Proofs.YtcmffaejcnbheaaGreat.Lib0
namespace Go.Proofs.YtcmffaejcnbheaaGreat.Lib0
open Go.RowKit Go.Proofs.YtcmffaejcnbheaaGreatW.PrintWords Go.ChangeMaps
theorem set3 {W:World} {rb:Nat} {T:TypeId} {a b c:Value} (h:W.heap[rb]?=some (.cells #[a,b,c] T (0,0))) (a' b' c':Value) :
  (((W.setCell ⟨rb,0,none⟩ a').setCell ⟨rb,1,none⟩ b').setCell ⟨rb,2,none⟩ c').heap[rb]?=some (.cells #[a',b',c'] T (0,0)):=by
 rw[heap_at_setCell (heap_at_setCell (heap_at_setCell h))]
 rfl
def AtS (w:World) (t s:Int) (l:List CellM) (e:Ending) (w':World):Prop:=
 ∃ A' c',e = .returned (.agg #[.int .i64 t,.int .i64 s,.slice A' l.length c'])∧l.length≤c'∧kc.R 78 w' w.heap.size (fun _=>True) (.slice A' l.length c') l∧Below w.heap.size w w'
set_option maxHeartbeats 1600000 in
set_option maxRecDepth 100000 in
theorem keep_At1 (t s:Int) (ad:Addr) (c:Nat) (l:List CellM) (w:World) (h:kc.C w (some ad) l.length l) (hl:l.length≤1099511627776) :
  Calls Tryz.prog 34 #[.int .i64 t,.int .i64 s,.slice (some ad) l.length c] w (AtS w t s l):=by
 have HC:=mk0 h
 have HL:=mk0 hl
 obtain ⟨w0,hw0⟩:∃ w0,w0=w.alloc (.cells #[.int .i64 0,.int .i64 0,.slice none 0 0] 76):=⟨_,rfl⟩
 have hn0:=heap_alloc_new w (.cells #[.int .i64 0,.int .i64 0,.slice none 0 0] 76)
 have hb0:=below_alloc (Below.refl w.heap.size w) (.cells #[.int .i64 0,.int .i64 0,.slice none 0 0] 76)
 have hs0:(w.alloc (.cells #[.int .i64 0,.int .i64 0,.slice none 0 0] 76)).heap.size=w.heap.size+1:=by simp
 rw[← hw0] at hn0 hb0 hs0
 have HB0:=mk0 hb0
 have hb1:=below_alloc (Below.refl w0.heap.size w0) (.cells #[] 78)
 have HN:=mk0 (heap_alloc_new w0 (.cells #[] 78))
 have HB1:=mk0 hb1
 have HN0:=mk0 ((hb1.block w.heap.size (by omega)).trans hn0)
 have HC1:=mk0 (Kd.C_below h (hb0.trans (hb1.mono hb0.size)))
 have HS0:=mk0 hs0
 rw[hs0] at HN
 clear h hl hn0 hb0 hb1 hs0
 subst hw0
 go_enter Tryz.func34,Tryz.ntmps34
 go_wp2_with (at_builtin;go_loud (refine kc_flat.append_new _ (w.heap.size+1) (.tmp 9) (.tmp 10) 74 78 _ _ c ad l rfl rfl Tryz.underlying74 info_cell rfl rfl rfl HN.out (Nat.le_of_eq HS0.out) HC1.out ?c2 ?_))
 case c2=>have:=HL.out;omega
 intro v1 w2 hr2 hb2
 obtain ⟨A2,c2,rfl,hc2,_⟩:=Kd.R_reads hr2
 have hlt:=(Array.getElem?_eq_some_iff.1 HN0.out).1
 have hn2:=(hb2.block w.heap.size (by omega)).trans HN0.out
 have d0:=cell_of_heap (i:=0) hn2 rfl
 have d1:=cell_of_heap (i:=1) hn2 rfl
 have d2:=cell_of_heap (i:=2) hn2 rfl
 have e0:=frozen_of_heap (i:=0) hn2
 have e1:=frozen_of_heap (i:=1) hn2
 have e2:=frozen_of_heap (i:=2) hn2
 have s3:=set3 hn2 (.int .i64 t) (.int .i64 s) (.slice A2 l.length c2)
 have G:=mk0 (And.intro (cell_of_heap (i:=0) s3 rfl) (And.intro (cell_of_heap (i:=1) s3 rfl) (cell_of_heap (i:=2) s3 rfl)))
 have HBF:=mk0 (((((HB0.out.trans (HB1.out.mono HB0.out.size)).trans (hb2.mono (by omega))).setCell (p:=⟨w.heap.size,0,none⟩) (Nat.le_refl _) (.int .i64 t)).setCell (p:=⟨w.heap.size,1,none⟩) (Nat.le_refl _) (.int .i64 s)).setCell (p:=⟨w.heap.size,2,none⟩) (Nat.le_refl _) (.slice A2 l.length c2))
 have HRF:=mk0 (R_set_ne rfl (R_set_ne rfl (R_set_ne rfl (Kd.R_lower (base':=w.heap.size) hr2 (by omega)) hn2 (by decide) 0 (.int .i64 t)) (heap_at_setCell hn2) (by decide) 1 (.int .i64 s)) (heap_at_setCell (heap_at_setCell hn2)) (by decide) 2 (.slice A2 l.length c2))
 have HC2:=mk0 hc2
 clear hr2 hb2 hn2 s3 hc2 hlt
 go_wp2
 generalize ((w2.setCell ⟨w.heap.size,0,none⟩ (.int .i64 t)).setCell ⟨w.heap.size,1,none⟩ (.int .i64 s)).setCell ⟨w.heap.size,2,none⟩ (.slice A2 l.length c2)=Wf at *
 obtain ⟨g0,g1,g2⟩:=G.out
 refine bodyPost_ret (v:=.agg #[.int .i64 t,.int .i64 s,.slice A2 l.length c2]) (by simp[results,Tryz.results34,go_sem,g0,g1,g2]) rfl ?_
 exact ⟨A2,c2,rfl,HC2.out,HRF.out,HBF.out⟩
set_option maxHeartbeats 1600000 in
set_option maxRecDepth 100000 in
theorem keep_At0 (t s:Int) (w:World):Calls Tryz.prog 34 #[.int .i64 t,.int .i64 s,.slice none 0 0] w (AtS w t s []):=by
 have hn0:=heap_alloc_new w (.cells #[.int .i64 t,.int .i64 s,.slice (some ⟨w.heap.size+1,0,none⟩) 0 0] 76)
 have b0:=below_alloc (Below.refl w.heap.size w) (.cells #[.int .i64 t,.int .i64 s,.slice (some ⟨w.heap.size+1,0,none⟩) 0 0] 76)
 have hs0:(w.alloc (.cells #[.int .i64 t,.int .i64 s,.slice (some ⟨w.heap.size+1,0,none⟩) 0 0] 76)).heap.size=w.heap.size+1:=by simp
 have b1:=below_alloc (Below.refl _ (w.alloc (.cells #[.int .i64 t,.int .i64 s,.slice (some ⟨w.heap.size+1,0,none⟩) 0 0] 76))) (.cells #[] 78)
 have hn1:=(b1.block w.heap.size (by omega)).trans hn0
 have hn2:=heap_alloc_new (w.alloc (.cells #[.int .i64 t,.int .i64 s,.slice (some ⟨w.heap.size+1,0,none⟩) 0 0] 76)) (.cells #[] 78)
 rw[hs0] at hn2
 have g0:=cell_of_heap (i:=0) hn1 rfl
 have g1:=cell_of_heap (i:=1) hn1 rfl
 have g2:=cell_of_heap (i:=2) hn1 rfl
 have HR:=mk0 (kc_flat.R_new (base:=w.heap.size) (xs:=[]) (by omega) hn2 (Nat.le_refl _) (by unfold maxLen;simp) (by simp) (by simp[flatF]))
 have HB:=mk0 (b0.trans (b1.mono (by omega)))
 clear hn0 b0 b1 hn1 hn2 hs0
 go_enter Tryz.func34,Tryz.ntmps34
 go_wp2
 generalize (w.alloc (.cells #[.int .i64 t,.int .i64 s,.slice (some ⟨w.heap.size+1,0,none⟩) 0 0] 76)).alloc (.cells #[] 78)=Wf at *
 refine bodyPost_ret (v:=.agg #[.int .i64 t,.int .i64 s,.slice (some ⟨w.heap.size+1,0,none⟩) 0 0]) (by simp[results,Tryz.results34,go_sem,g0,g1,g2]) rfl ?_
 exact ⟨_,_,rfl,Nat.le_refl _,HR.out,HB.out⟩
end Go.Proofs.YtcmffaejcnbheaaGreat.Lib0

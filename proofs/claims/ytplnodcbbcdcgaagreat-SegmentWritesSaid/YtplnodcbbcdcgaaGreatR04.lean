import Derived.Test.YtplnodcbbcdcgaaGreatR01
set_option linter.unusedVariables false
set_option linter.unusedSimpArgs false
namespace Go.Proofs.YtplnodcbbcdcgaaGreat.Lib0
open Go.RowKit Go.Proofs.YtplnodcbbcdcgaaGreatW.PrintWords Go.ChangeMaps
set_option maxHeartbeats 1600000 in
set_option maxRecDepth 100000 in
theorem ref_Name (s:ByteArray) (w:World) (hs:s.size≤1099511627776) :
  Calls Tryz.prog 61 #[.string s] w fun e w'=>e = .returned (.bool (nameB s))∧w=w':=by
 obtain ⟨r,hr⟩:∃ r,r=nameB s:=⟨_,rfl⟩
 rw[← hr]
 have HR:=mk0 hr
 clear hr
 go_enter Tryz.func61,Tryz.ntmps61
 go_wp2_with fail
 go_loopw[3] (fun v3 wr=>∃ (k:Nat),k≤s.size∧v3 = .int .i64 k∧Aside0 (∀ i (h:i<(byt s).length),i<k→letterB (byt s)[i]=true)∧wr=w) (fun i _=>s.size-(intOf i).toNat)
 case atStart=>exact ⟨0,by omega,rfl,⟨fun i h1 h2=>by omega⟩,rfl⟩
 case round=>
  obtain ⟨k,hk,rfl,HA,rfl⟩:=hrel
  by_cases hlt:k<s.size
  ·have hlt2:(k:Int)<s.size:=by omega
   have hkb:k<(byt s).length:=by rw[byt_length];exact hlt
   have hgy:(byt s)[k]=s[k]:=by simp[byt];rfl
   have HALL:=mk0 (show letterB s[k]=false→r=false from fun hf=>by
    rw[HR.out,nameB]
    have:(byt s).all letterB=false:=by
     rw[List.all_eq_false]
     exact ⟨(byt s)[k],List.getElem_mem hkb,by rw[hgy,hf];simp⟩
    rw[this,Bool.and_false])
   have HNX:=mk0 (show letterB s[k]=true→∀ i (h:i<(byt s).length),i<k+1→letterB (byt s)[i]=true from fun ht i h1 h2=>by
    by_cases hik:i=k
    ·subst hik;rw[hgy];exact ht
    ·exact HA.out i h1 (by omega))
   clear hgy
   rcases (show s[k].toNat<97∨122<s[k].toNat∨(¬ s[k].toNat<97∧¬ 122<s[k].toNat) by omega) with h1 | h1 | ⟨h1,h2⟩
   ·have h1i:(s[k].toNat:Int)<97:=by omega
    have HS:=mk0 (HALL.out (by unfold letterB;rw[decide_eq_true h1];rfl))
    go_wp2
    go_ret
    exact ⟨by rw[HS.out];rfl,rfl⟩
   ·have h1i:(122:Int)<(s[k].toNat:Int):=by omega
    have h2i:¬ (s[k].toNat:Int)<97:=by omega
    have HS:=mk0 (HALL.out (by unfold letterB;rw[decide_eq_true h1,Bool.or_true];rfl))
    go_wp2
    go_ret
    exact ⟨by rw[HS.out];rfl,rfl⟩
   ·have h1i:¬ (s[k].toNat:Int)<97:=by omega
    have h2i:¬ (122:Int)<(s[k].toNat:Int):=by omega
    have HS:=mk0 (HNX.out (by unfold letterB;rw[decide_eq_false h1,decide_eq_false h2];rfl))
    go_wp2
    go_roundw
    case rel=>exact ⟨k+1,by omega,by go_num,HS,by first | rfl | trivial⟩
    case measure=>simp[intOf];omega
  ·obtain rfl:k=s.size:=by omega
   have HALL:=mk0 (show (byt s).all letterB=true by
    rw[List.all_eq_true]
    intro x hx
    obtain ⟨i,hi,rfl⟩:=List.mem_iff_getElem.1 hx
    exact HA.out i hi (by rw[byt_length] at hi;exact hi))
   by_cases h0:1≤s.size
   ·have h0i:(1:Int)≤s.size:=by omega
    by_cases h12:s.size≤12
    ·have h12i:(s.size:Int)≤12:=by omega
     have HS:=mk0 (show r=true by rw[HR.out,nameB,decide_eq_true (show 0<s.size by omega),decide_eq_true h12,HALL.out];rfl)
     go_wp2
     go_ret
     exact ⟨by rw[HS.out];rfl,rfl⟩
    ·have h12i:¬ (s.size:Int)≤12:=by omega
     have HS:=mk0 (show r=false by rw[HR.out,nameB,decide_eq_true (show 0<s.size by omega),decide_eq_false h12];rfl)
     go_wp2
     go_ret
     exact ⟨by rw[HS.out];rfl,rfl⟩
   ·have h0i:¬ (1:Int)≤s.size:=by omega
    have HS:=mk0 (show r=false by rw[HR.out,nameB,decide_eq_false (show ¬ 0<s.size by omega)];rfl)
    go_wp2
    go_ret
    exact ⟨by rw[HS.out];rfl,rfl⟩
theorem lessH_ref (t s t' s':Int):decide (cmpR t s t' s'<0)=(decide (t<t') || (decide (t=t') && decide (s<s'))):=by
 unfold cmpR orZ cmpZ
 rw[Bool.eq_iff_iff]
 simp only[decide_eq_true_eq,Bool.or_eq_true,Bool.and_eq_true]
 split<;>(try split)<;>(try split)<;>(try split)<;>(try split)<;>omega
set_option maxHeartbeats 1600000 in
set_option maxRecDepth 100000 in
theorem ref_Less (t s t' s':Int) (V V':Value) (w:World) :
  Calls Tryz.prog 37 #[.agg #[.int .i64 t,.int .i64 s,V],.agg #[.int .i64 t',.int .i64 s',V']] w fun e w'=>e = .returned (.bool (decide (cmpR t s t' s'<0)))∧∃ q os',w'=Go.Sort.grow (w.drewN q) os':=by
 rw[lessH_ref]
 have HB:=mk0 (show ∃ q os',(w.alloc (.cells #[.int .i64 t,.int .i64 s,V] 37)).alloc (.cells #[.int .i64 t',.int .i64 s',V'] 37)=Go.Sort.grow (w.drewN q) os' from ⟨0,#[_,_],by simp only[Go.Sort.alloc_eq_grow,Go.Sort.grow_grow];rfl⟩)
 by_cases h1:t<t'
 ·have e1:decide (t<t')=true:=decide_eq_true h1
  rw[e1]
  go_enter Tryz.func37,Tryz.ntmps37
  go_wp2
  go_ret
  exact ⟨rfl,HB.out⟩
 ·have e1:decide (t<t')=false:=decide_eq_false h1
  rw[e1]
  by_cases h2:t=t'
  ·have e2:(t==t')=true:=by simp[h2]
   have e3:decide (t=t')=true:=decide_eq_true h2
   rw[e3]
   clear h2
   by_cases h3:s<s'
   ·have e4:decide (s<s')=true:=decide_eq_true h3
    rw[e4]
    clear e3
    go_enter Tryz.func37,Tryz.ntmps37
    go_wp2
    go_ret
    exact ⟨rfl,HB.out⟩
   ·have e4:decide (s<s')=false:=decide_eq_false h3
    rw[e4]
    clear e3
    go_enter Tryz.func37,Tryz.ntmps37
    go_wp2
    go_ret
    exact ⟨rfl,HB.out⟩
  ·have e2:(t==t')=false:=by simp[h2]
   have e3:decide (t=t')=false:=decide_eq_false h2
   rw[e3]
   clear e3
   go_enter Tryz.func37,Tryz.ntmps37
   go_wp2
   go_ret
   exact ⟨rfl,HB.out⟩
end Go.Proofs.YtplnodcbbcdcgaaGreat.Lib0
namespace Go.Proofs.YtplnodcbbcdcgaaGreat.Lib0
open Go.RowKit Go.Proofs.YtplnodcbbcdcgaaGreatW.PrintWords Go.ChangeMaps
def okK (c:CellM):Bool:=(decide (c.kind=1) && decide (c.s.size=0)) || (decide (c.kind=2) && (decide (c.n=0) && decide (c.s.size≤40)))
theorem fine_ok (c:CellM):fineB c=(nameB c.col && okK c):=by
 unfold fineB okK
 by_cases h1:c.kind=1
 ·have h2:¬ c.kind=2:=by omega
  rw[if_pos h1,decide_eq_true h1,decide_eq_false h2]
  simp
 ·rw[if_neg h1,decide_eq_false h1]
  by_cases h2:c.kind=2
  ·rw[if_pos h2,decide_eq_true h2];simp
  ·rw[if_neg h2,decide_eq_false h2];simp
theorem size0_empty {s:ByteArray} (h:s.size=0):s.toList.isEmpty=true:=by rw[List.isEmpty_iff,ByteArray.toList_eq];exact List.eq_nil_of_length_eq_zero h
theorem size0_full {s:ByteArray} (h:¬ s.size=0):s.toList.isEmpty=false:=by rw[← Bool.not_eq_true,List.isEmpty_iff,ByteArray.toList_eq];exact fun h2=>h (by have:=congrArg List.length h2;simpa using this)
attribute [local irreducible] wpQuiet
set_option maxHeartbeats 3200000 in
set_option maxRecDepth 100000 in
theorem ref_Right (t s:Int) (A:Option Addr) (cap:Nat) (l:List CellM) (w:World) (h:kc.C w A l.length l) (hsz:∀ c ∈ l,c.col.size≤1099511627776) :
  Calls Tryz.prog 36 #[.agg #[.int .i64 t,.int .i64 s,.slice A l.length cap]] w fun e w'=>e = .returned (.bool (rowB t s l))∧Below w.heap.size w w':=by
 have mixed:Tryz.prog.follows .mixedOrders=true:=by kernel_rfl
 obtain ⟨r,hr⟩:∃ r,r=rowB t s l:=⟨_,rfl⟩
 rw[← hr]
 have HR:=mk0 hr
 clear hr
 have HC:=mk0 h
 have HSZ:=mk0 hsz
 have hl63:=h.2.1
 clear h hsz
 have HF:=mk0 ref_Name
 have HB:=mk0 (below_alloc (Below.refl w.heap.size w) (.cells #[.int .i64 t,.int .i64 s,.slice A l.length cap] 37))
 have hnew:=heap_alloc_new w (.cells #[.int .i64 t,.int .i64 s,.slice A l.length cap] 37)
 by_cases h1:-1099511627776≤t
 case neg=>
  have HS:=mk0 (show r=false by rw[HR.out,rowB,headRB,decide_eq_false h1];simp)
  clear hnew
  have h1b:decide (t < -1099511627776)=true:=decide_eq_true (by omega)
  go_enter Tryz.func36,Tryz.ntmps36
  go_wp2
  go_ret
  exact ⟨by rw[HS.out];rfl,HB.out⟩
 by_cases h2:t≤1099511627776
 case neg=>
  have HS:=mk0 (show r=false by rw[HR.out,rowB,headRB,decide_eq_false h2];simp)
  clear hnew
  have h1b:decide (t < -1099511627776)=false:=decide_eq_false (by omega)
  have h2b:decide (1099511627776<t)=true:=decide_eq_true (by omega)
  go_enter Tryz.func36,Tryz.ntmps36
  go_wp2
  go_ret
  exact ⟨by rw[HS.out];rfl,HB.out⟩
 by_cases h3:0≤s
 case neg=>
  have HS:=mk0 (show r=false by rw[HR.out,rowB,headRB,decide_eq_false h3];simp)
  clear hnew
  have h1b:decide (t < -1099511627776)=false:=decide_eq_false (by omega)
  have h2b:decide (1099511627776<t)=false:=decide_eq_false (by omega)
  have h3b:decide (s<0)=true:=decide_eq_true (by omega)
  go_enter Tryz.func36,Tryz.ntmps36
  go_wp2
  go_ret
  exact ⟨by rw[HS.out];rfl,HB.out⟩
 by_cases h4:s≤1073741824
 case neg=>
  have HS:=mk0 (show r=false by rw[HR.out,rowB,headRB,decide_eq_false h4];simp)
  clear hnew
  have h1b:decide (t < -1099511627776)=false:=decide_eq_false (by omega)
  have h2b:decide (1099511627776<t)=false:=decide_eq_false (by omega)
  have h3b:decide (s<0)=false:=decide_eq_false (by omega)
  have h4b:decide (1073741824<s)=true:=decide_eq_true (by omega)
  go_enter Tryz.func36,Tryz.ntmps36
  go_wp2
  go_ret
  exact ⟨by rw[HS.out];rfl,HB.out⟩
 have h1b:decide (t < -1099511627776)=false:=decide_eq_false (by omega)
 have h2b:decide (1099511627776<t)=false:=decide_eq_false (by omega)
 have h3b:decide (s<0)=false:=decide_eq_false (by omega)
 have h4b:decide (1073741824<s)=false:=decide_eq_false (by omega)
 by_cases h5:l.length≤8
 case neg=>
  have HS:=mk0 (show r=false by rw[HR.out,rowB,headRB,decide_eq_false h5];simp)
  clear hnew
  have h5b:decide ((8:Int)<l.length)=true:=decide_eq_true (by omega)
  have h5c:decide (8<l.length)=true:=decide_eq_true (by omega)
  go_enter Tryz.func36,Tryz.ntmps36
  go_wp2
  go_ret
  exact ⟨by rw[HS.out];rfl,HB.out⟩
 have h5b:decide ((8:Int)<l.length)=false:=decide_eq_false (by omega)
 have h5c:decide (8<l.length)=false:=decide_eq_false (by omega)
 have HR2:=mk0 (show r=cellsRB (aheadC l 0) (l.drop 0) by rw[HR.out,rowB,headRB,decide_eq_true h1,decide_eq_true h2,decide_eq_true h3,decide_eq_true h4,decide_eq_true h5];rfl)
 clear HR
 have HN:=mk0 hnew
 go_enter Tryz.func36,Tryz.ntmps36
 go_wp2_with fail
 clear hnew h1b h2b h3b h4b h5b h5c
 go_loopw[3] (fun v3 wr=>∃ (k:Nat),k≤l.length∧v3 = .int .i64 k∧Aside0 (r=cellsRB (aheadC l k) (l.drop k))∧Aside0 (Below w.heap.size w wr)∧wr.heap[w.heap.size]?=some (.cells #[.int .i64 t,.int .i64 s,.slice A l.length cap] 37)) (fun i _=>l.length-(intOf i).toNat)
 case atStart=>exact ⟨0,by omega,rfl,HR2,HB,HN.out⟩
 case round=>
  clear HR2 HN
  obtain ⟨k,hk,rfl,HA,HB1,hbox⟩:=hrel
  have hd2:wr.cell? ⟨w.heap.size,2,none⟩=some (.slice A l.length cap):=cell_of_heap (i:=2) hbox rfl
  have HBX:=mk0 hbox
  clear hbox
  by_cases hlt:k<l.length
  case neg=>
   have HS:=mk0 (show r=true by rw[HA.out,List.drop_eq_nil_of_le (by omega)];rfl)
   have hlt2:¬ (k:Int)<l.length:=by omega
   go_wp2
   go_ret
   exact ⟨by rw[HS.out];rfl,HB1.out⟩
  obtain ⟨b,o,rfl,hx⟩:=kc_open (Kd.C_below HC.out HB1.out) (by omega)
  obtain ⟨z0,z1,z2,z3⟩:=hx k hlt
  have hlt2:(k:Int)<l.length:=by omega
  have HK:=mk0 (cellsRB_at l k hlt)
  have hcs:=HSZ.out l[k] (List.getElem_mem hlt)
  obtain ⟨c,hc⟩:∃ c,c=l[k]:=⟨_,rfl⟩
  rw[← hc] at z0 z1 z2 z3 HK hcs
  rw[fine_ok] at HK
  have HX:=mk0 hx
  clear hx hc
  go_wp2_with fail
  have hW:∃ W,W=wr.alloc (.cells #[.string c.col,.int .i64 c.kind,.int .i64 c.n,.string c.s] 39):=⟨_,rfl⟩
  obtain ⟨W,hW⟩:=hW
  rw[← hW]
  have BW:Below wr.heap.size wr W:=by rw[hW];exact below_alloc (Below.refl _ _) _
  have hnw:=heap_alloc_new wr (.cells #[.string c.col,.int .i64 c.kind,.int .i64 c.n,.string c.s] 39)
  rw[← hW] at hnw
  have hw0:w.heap.size<wr.heap.size:=(Array.getElem?_eq_some_iff.1 HBX.out).1
  have hbl:b<wr.heap.size:=World.block_lt_of_cell? wr _ z0
  have HB2:=mk0 (HB1.out.trans (BW.mono (Nat.le_of_lt hw0)))
  have c0:W.cell? ⟨wr.heap.size,0,none⟩=some (.string c.col):=cell_of_heap (i:=0) hnw rfl
  have c1:W.cell? ⟨wr.heap.size,1,none⟩=some (.int .i64 c.kind):=cell_of_heap (i:=1) hnw rfl
  have c2:W.cell? ⟨wr.heap.size,2,none⟩=some (.int .i64 c.n):=cell_of_heap (i:=2) hnw rfl
  have c3:W.cell? ⟨wr.heap.size,3,none⟩=some (.string c.s):=cell_of_heap (i:=3) hnw rfl
  have hbx:=(BW.block _ hw0).trans HBX.out
  have d2:W.cell? ⟨w.heap.size,2,none⟩=some (.slice (some ⟨b,o,none⟩) l.length cap):=cell_of_heap (i:=2) hbx rfl
  have HBX2:=mk0 hbx
  have HFc:=mk0 (fun W=>(HF.out c.col W hcs).mono (fun e w' h=>(⟨h.1,h.2.symm⟩:e = .returned (.bool (nameB c.col))∧w'=W)))
  clear z0 z1 z2 z3 hbx hnw hW HBX hd2
  cases hf:nameB c.col with
  | false=>
   have HS:=mk0 (show r=false by rw[HA.out,HK.out,hf];rfl)
   rw[hf] at HFc
   clear HX HA HK hf HF HBX2
   go_quiet ((go_at_call 61;refine Calls.quiet_of_same (HFc.out _)))
   have HB3:=mk0 (HB2.out.trans ((Drawn0.below (Drawn0.step (Drawn0.refl W) nq)).mono HB2.out.size))
   generalize W.drewN nq=W2 at *
   clear c0 c1 c2 c3 d2
   go_wp2
   go_ret
   exact ⟨by rw[HS.out];rfl,HB3.out⟩
  | true=>
   rw[hf] at HFc
   rcases Nat.eq_zero_or_pos k with rfl | hk0
   ·have HOK:=mk0 (show okK c=true→r=cellsRB (aheadC l (0+1)) (l.drop (0+1)) from fun hh=>by rw[HA.out,HK.out,hf,hh];simp[aheadC])
    have HNO:=mk0 (show okK c=false→r=false from fun hh=>by rw[HA.out,HK.out,hf,hh];rfl)
    clear HX HA HK hf HF
    go_quiet ((go_at_call 61;refine Calls.quiet_of_same (HFc.out _)))
    have HB3:=mk0 (HB2.out.trans ((Drawn0.below (Drawn0.step (Drawn0.refl W) nq)).mono HB2.out.size))
    have g1:(W.drewN nq).cell? ⟨wr.heap.size,1,none⟩=some (.int .i64 c.kind):=c1
    have g2:(W.drewN nq).cell? ⟨wr.heap.size,2,none⟩=some (.int .i64 c.n):=c2
    have g3:(W.drewN nq).cell? ⟨wr.heap.size,3,none⟩=some (.string c.s):=c3
    clear c0 c1 c2 c3 d2
    have HB4:=mk0 (show (W.drewN nq).heap[w.heap.size]?=_ from HBX2.out)
    generalize W.drewN nq=W2 at *
    clear HBX2
    by_cases e1:c.kind=1
    ·have b1:(c.kind==1)=true:=by simp[e1]
     have b2:(c.kind==2)=false:=by simp[e1]
     by_cases e2:c.s.size=0
     ·have he:=size0_empty e2
      have HS:=mk0 (HOK.out (by simp[okK, *]))
      clear HOK HNO HFc
      go_wp2
      go_roundw
      case rel=>exact ⟨0+1,by omega,by go_num,HS,HB3,HB4.out⟩
      case measure=>simp[intOf];omega
     ·have he:=size0_full e2
      have HS:=mk0 (HNO.out (by simp[okK, *]))
      clear HOK HNO HFc
      go_wp2
      go_ret
      exact ⟨by rw[HS.out];rfl,HB3.out⟩
    ·have b1:(c.kind==1)=false:=by simp[e1]
     by_cases e2:c.kind=2
     ·have b2:(c.kind==2)=true:=by simp[e2]
      by_cases e3:c.n=0
      ·have b3:(c.n==0)=true:=by simp[e3]
       by_cases e4:c.s.size≤40
       ·have h40:(c.s.size:Int)≤40:=by omega
        have HS:=mk0 (HOK.out (by simp[okK, *]))
        clear HOK HNO HFc
        go_wp2
        go_roundw
        case rel=>exact ⟨0+1,by omega,by go_num,HS,HB3,HB4.out⟩
        case measure=>simp[intOf];omega
       ·have h40:¬ (c.s.size:Int)≤40:=by omega
        have HS:=mk0 (HNO.out (by simp[okK, *]))
        clear HOK HNO HFc
        go_wp2
        go_ret
        exact ⟨by rw[HS.out];rfl,HB3.out⟩
      ·have b3:(c.n==0)=false:=by simp[e3]
       have HS:=mk0 (HNO.out (by simp[okK, *]))
       clear HOK HNO HFc
       go_wp2
       go_ret
       exact ⟨by rw[HS.out];rfl,HB3.out⟩
     ·have b2:(c.kind==2)=false:=by simp[e2]
      have HS:=mk0 (HNO.out (by simp[okK, *]))
      clear HOK HNO HFc
      go_wp2
      go_ret
      exact ⟨by rw[HS.out];rfl,HB3.out⟩
   ·obtain ⟨j,rfl⟩:∃ j,k=j+1:=⟨k-1,by omega⟩
    have p0:=(HX.out j (by omega)).1
    obtain ⟨y,hy⟩:∃ y,y=l[j].col:=⟨_,rfl⟩
    rw[← hy] at p0
    have ep:aheadC l (j+1)=some y:=by unfold aheadC;rw[if_neg (by omega),Nat.add_sub_cancel,List.getElem?_eq_getElem (by omega),hy];rfl
    have e0:W.cell? ⟨b,o+j*4,none⟩=some (.string y):=(BW.cell hbl).trans p0
    have hk1:decide (((j+1:Nat):Int)>0)=true:=decide_eq_true (by omega)
    have hjw:IntKind.i64.wrap (((j+1:Nat):Int)-1)=(j:Int):=by rw[IntWalk.i64_in _ (by omega)];omega
    have hjw2:wrap64 (((j+1:Nat):Int)-1)=(j:Int):=by unfold wrap64;omega
    have hjw3:((j+1:Nat):Int)-1=(j:Int):=by omega
    have hjl:(j:Int)<l.length:=by omega
    have hjw4:IntKind.i64.wrap (j:Int)=(j:Int):=IntWalk.i64_in _ (by omega)
    have hlt3:(j:Int)+1<l.length:=by omega
    have hge3:(0:Int)≤(j:Int)+1:=by omega
    have hto3:((j:Int)+1).toNat=j+1:=by omega
    have hj63:(j:Int)+1<9223372036854775807:=by omega
    rw[ep] at HK
    cases hv:lessS y c.col with
    | false=>
     have HS:=mk0 (show r=false by rw[HA.out,ep,HK.out,hf];show ((true && okK c) && lessS y c.col && _)=_;rw[hv];simp)
     unfold lessS at hv
     have hv2:(!Op.bytesLess y.toList c.col.toList)=true:=by rw[hv];rfl
     clear HX HA HK hf HF HBX2 p0 hy ep hv
     go_quiet ((go_at_call 61;refine Calls.quiet_of_same (HFc.out _)))
     have HB3:=mk0 (HB2.out.trans ((Drawn0.below (Drawn0.step (Drawn0.refl W) nq)).mono HB2.out.size))
     generalize W.drewN nq=W2 at *
     clear c0 c1 c2 c3 d2 e0
     go_wp2
     go_ret
     exact ⟨by rw[HS.out];rfl,HB3.out⟩
    | true=>
     have HOK:=mk0 (show okK c=true→r=cellsRB (aheadC l (j+1+1)) (l.drop (j+1+1)) from fun hh=>by rw[HA.out,ep,HK.out,hf,hh];show ((true && true) && lessS y c.col && _)=_;rw[hv];rfl)
     have HNO:=mk0 (show okK c=false→r=false from fun hh=>by rw[HA.out,ep,HK.out,hf,hh];rfl)
     unfold lessS at hv
     have hv2:(!Op.bytesLess y.toList c.col.toList)=false:=by rw[hv];rfl
     clear HX HA HK hf HF p0 hy ep hv
     go_quiet ((go_at_call 61;refine Calls.quiet_of_same (HFc.out _)))
     have HB3:=mk0 (HB2.out.trans ((Drawn0.below (Drawn0.step (Drawn0.refl W) nq)).mono HB2.out.size))
     clear e0
     have g1:(W.drewN nq).cell? ⟨wr.heap.size,1,none⟩=some (.int .i64 c.kind):=c1
     have g2:(W.drewN nq).cell? ⟨wr.heap.size,2,none⟩=some (.int .i64 c.n):=c2
     have g3:(W.drewN nq).cell? ⟨wr.heap.size,3,none⟩=some (.string c.s):=c3
     clear c0 c1 c2 c3 d2
     have HB4:=mk0 (show (W.drewN nq).heap[w.heap.size]?=_ from HBX2.out)
     generalize W.drewN nq=W2 at *
     clear HBX2
     by_cases e1:c.kind=1
     ·have b1:(c.kind==1)=true:=by simp[e1]
      have b2:(c.kind==2)=false:=by simp[e1]
      by_cases e2:c.s.size=0
      ·have he:=size0_empty e2
       have HS:=mk0 (HOK.out (by simp[okK, *]))
       clear HOK HNO HFc
       go_wp2
       go_roundw
       case rel=>exact ⟨j+1+1,by omega,by go_num,HS,HB3,HB4.out⟩
       case measure=>simp[intOf];omega
      ·have he:=size0_full e2
       have HS:=mk0 (HNO.out (by simp[okK, *]))
       clear HOK HNO HFc
       go_wp2
       go_ret
       exact ⟨by rw[HS.out];rfl,HB3.out⟩
     ·have b1:(c.kind==1)=false:=by simp[e1]
      by_cases e2:c.kind=2
      ·have b2:(c.kind==2)=true:=by simp[e2]
       by_cases e3:c.n=0
       ·have b3:(c.n==0)=true:=by simp[e3]
        by_cases e4:c.s.size≤40
        ·have h40:(c.s.size:Int)≤40:=by omega
         have HS:=mk0 (HOK.out (by simp[okK, *]))
         clear HOK HNO HFc
         go_wp2
         go_roundw
         case rel=>exact ⟨j+1+1,by omega,by go_num,HS,HB3,HB4.out⟩
         case measure=>simp[intOf];omega
        ·have h40:¬ (c.s.size:Int)≤40:=by omega
         have HS:=mk0 (HNO.out (by simp[okK, *]))
         clear HOK HNO HFc
         go_wp2
         go_ret
         exact ⟨by rw[HS.out];rfl,HB3.out⟩
       ·have b3:(c.n==0)=false:=by simp[e3]
        have HS:=mk0 (HNO.out (by simp[okK, *]))
        clear HOK HNO HFc
        go_wp2
        go_ret
        exact ⟨by rw[HS.out];rfl,HB3.out⟩
      ·have b2:(c.kind==2)=false:=by simp[e2]
       have HS:=mk0 (HNO.out (by simp[okK, *]))
       clear HOK HNO HFc
       go_wp2
       go_ret
       exact ⟨by rw[HS.out];rfl,HB3.out⟩
end Go.Proofs.YtplnodcbbcdcgaaGreat.Lib0

import Derived.Shelf.SlSortCmp.QuietGrown
import Derived.Test.YtpiobnfakmmpdaaGreatP19
set_option linter.unusedVariables false
set_option linter.unusedSimpArgs false
namespace Go.Proofs.YtpiobnfakmmpdaaGreat.Lib0
open Go.RowKit Go.Proofs.YtpiobnfakmmpdaaGreatW.PrintWords Go.ChangeMaps
theorem ChkAt.raw {w:World} {cp:Nat} {l:List UInt8} {form:Nat} {cs:List CellM} (h:ChkAt w cp l form cs):w.cell? ⟨cp,1,none⟩=some (.int .i64 form)∧w.cell? ⟨cp,2,none⟩=some (.int .i64 cs.length):=by
 obtain ⟨Ab,cb,Ad,nd,cd,At,nt,ct,on,v8,hh,_⟩:=h
 exact ⟨cell_of_heap hh rfl,cell_of_heap hh rfl⟩
theorem ChkOn.off {w w':World} {cp:Nat} {l:List UInt8} {form:Nat} {cs:List CellM} {A1:Option Addr} {c1:Nat} (h:ChkOn w cp l form cs A1 c1) {q:Nat} (hk:Keep1 q w w') (hc:cp≠q) (h8:∀ o x,w.cell? ⟨q,o,none⟩≠some (.int .u8 x)) (hA:∀ ad,A1=some ad→0<cs.length→ad.block≠q):ChkOn w' cp l form cs A1 c1:=by
 obtain ⟨Ab,cb,Ad,nd,cd,At,nt,ct,h1,h2,h3,h4,h5⟩:=h
 refine ⟨Ab,cb,Ad,nd,cd,At,nt,ct,(hk.block cp (Array.getElem?_eq_some_iff.1 h1).1 hc).trans h1,h2,C_keep1 sc_Kw h3 (fun ad e hn=>⟨?_,C_lt (by decide) h3 ad e hn⟩) hk,h4,C_keep1 kc_Kw h5 (fun ad e hn=>⟨hA ad e hn,C_lt (by decide) h5 ad e hn⟩) hk⟩
 subst e
 obtain ⟨b,o,e,hx⟩:=sc_open h3 hn
 cases e
 rintro rfl
 exact h8 _ _ (hx 0 hn)
def CellS (w:World) (cp:Nat) (l:List UInt8) (form:Nat) (cs:List CellM) (c:CellM) (e:Ending) (w':World):Prop:=
 e = .returned (.agg #[.string c.col,.int .i64 c.kind,.int .i64 c.n,.string c.s])∧ChkAt w' cp l form cs∧Keep1 cp w w'∧∀ q,SubAt w' cp q→SubAt w cp q∨w.heap.size≤q
set_option maxHeartbeats 1600000 in
set_option maxRecDepth 100000 in
theorem ck_Cell {w:World} {cp:Nat} {l:List UInt8} {form:Nat} {cs:List CellM} (h:ChkAt w cp l form cs) (hcs:cs=(readR l).cells) (hl:l.length≤1073741824) (i:Nat) (hi:i<cs.length) :
  Calls Tryz.prog 113 #[.pointer (some ⟨cp,0,none⟩),.int .i64 i] w (CellS w cp l form cs cs[i]):=by
 obtain ⟨y,hy⟩:∃ y,y=cs[i]:=⟨_,rfl⟩
 rw[← hy]
 have HY:=mk0 hy
 clear hy
 have hlt:=h.lt
 have BO:=below_alloc (Below.refl w.heap.size w) (.cells #[.string ⟨#[]⟩,.int .i64 0,.int .i64 0,.string ⟨#[]⟩] 37)
 have hnew:=heap_alloc_new w (.cells #[.string ⟨#[]⟩,.int .i64 0,.int .i64 0,.string ⟨#[]⟩] 37)
 have hck:=h.below BO
 have x2:=hck.raw.2
 have HAL:=mk0 (ck_all h BO hcs hl)
 have hne:w.heap.size≠cp:=by omega
 have hii:(i:Int)<cs.length:=by omega
 have hid:decide ((i:Int)<0)=false:=decide_eq_false (by omega)
 have HI:=mk0 hi
 have HN:=mk0 hnew
 have HB:=mk0 BO
 have hcl:(cs.length:Int)≤65536:=by have:=readR_len l;rw[← hcs] at this;omega
 clear h hcs hl BO hnew hck
 go_enter Tryz.func113,Tryz.ntmps113
 go_wp2_with fail
 (with_reducible refine HAL.out.mono ?_)
 rintro e w2 ⟨A1,c1,rfl,q1,q2,q3,q4,q5,q6⟩
 have hq5:∀ ad,A1=some ad→0<cs.length→ad.block≠w.heap.size:=fun ad e hn=>by have:=q5 ad e hn;simp at this;omega
 obtain ⟨b,o,rfl,hx⟩:=kc_open q2 (by omega)
 obtain ⟨z0,z1,z2,z3⟩:=hx i HI.out
 rw[← HY.out] at z0 z1 z2 z3
 have hv6:=(q4.block w.heap.size (by simp) hne).trans HN.out
 have c0:=cell_of_heap (i:=0) hv6 rfl
 have c1':=cell_of_heap (i:=1) hv6 rfl
 have c2:=cell_of_heap (i:=2) hv6 rfl
 have c3:=cell_of_heap (i:=3) hv6 rfl
 have e0:=frozen_of_heap (i:=0) hv6
 have e1:=frozen_of_heap (i:=1) hv6
 have e2:=frozen_of_heap (i:=2) hv6
 have e3:=frozen_of_heap (i:=3) hv6
 have s4:=set4 hv6 (.string y.col) (.int .i64 y.kind) (.int .i64 y.n) (.string y.s)
 have g0:=cell_of_heap (i:=0) s4 rfl
 have g1:=cell_of_heap (i:=1) s4 rfl
 have g2:=cell_of_heap (i:=2) s4 rfl
 have g3:=cell_of_heap (i:=3) s4 rfl
 have kr:Keep1 w.heap.size w2 ((((w2.setCell ⟨w.heap.size,0,none⟩ (.string y.col)).setCell ⟨w.heap.size,1,none⟩ (.int .i64 y.kind)).setCell ⟨w.heap.size,2,none⟩ (.int .i64 y.n)).setCell ⟨w.heap.size,3,none⟩ (.string y.s)):=((((Keep1.refl _ w2).set 0 _).set 1 _).set 2 _).set 3 _
 have KF:=mk0 ((((( (Keep1.of_below (b:=cp) HB.out).trans q4).far (p:=⟨w.heap.size,0,none⟩) (Nat.le_refl _) (.string y.col)).far (p:=⟨w.heap.size,1,none⟩) (Nat.le_refl _) (.int .i64 y.kind)).far (p:=⟨w.heap.size,2,none⟩) (Nat.le_refl _) (.int .i64 y.n)).far (p:=⟨w.heap.size,3,none⟩) (Nat.le_refl _) (.string y.s))
 have CF:=mk0 (q3.off kr hne.symm (fun o x=>by
  unfold World.cell?
  simp only[hv6]
  rcases o with _ | _ | _ | _ | o<;>simp) hq5).at_
 have SF:=mk0 (show ∀ q,_→SubAt w cp q∨w.heap.size≤q from fun q (hq:SubAt ((((w2.setCell ⟨w.heap.size,0,none⟩ (.string y.col)).setCell ⟨w.heap.size,1,none⟩ (.int .i64 y.kind)).setCell ⟨w.heap.size,2,none⟩ (.int .i64 y.n)).setCell ⟨w.heap.size,3,none⟩ (.string y.s)) cp q)=>by
  have e:=hq.same (w:=w2) (by rw[Below.heap_setCell _ _ _ _ hne.symm,Below.heap_setCell _ _ _ _ hne.symm,Below.heap_setCell _ _ _ _ hne.symm,Below.heap_setCell _ _ _ _ hne.symm])
  rcases q6 q e with h | h
  ·exact Or.inl (h.same (HB.out.block cp hlt))
  ·exact Or.inr (Nat.le_trans (Nat.le_succ _) (by simpa using h)))
 have G:=mk0 (And.intro g0 (And.intro g1 (And.intro g2 g3)))
 clear hx q2 q3 q4 q5 q6 hq5 hv6 s4 g0 g1 g2 g3 kr
 go_wp2
 generalize (((w2.setCell ⟨w.heap.size,0,none⟩ (.string y.col)).setCell ⟨w.heap.size,1,none⟩ (.int .i64 y.kind)).setCell ⟨w.heap.size,2,none⟩ (.int .i64 y.n)).setCell ⟨w.heap.size,3,none⟩ (.string y.s)=Wf at *
 obtain ⟨g0,g1,g2,g3⟩:=G.out
 refine bodyPost_ret (v:=.agg #[.string y.col,.int .i64 y.kind,.int .i64 y.n,.string y.s]) (by simp[results,Tryz.results113,go_sem,g0,g1,g2,g3]) rfl ?_
 exact ⟨rfl,CF.out,KF.out,SF.out⟩
set_option maxRecDepth 100000 in
theorem ck_Rows {w:World} {cp:Nat} {l:List UInt8} {form:Nat} {cs:List CellM} (h:ChkAt w cp l form cs) :
  Calls Tryz.prog 60 #[.pointer (some ⟨cp,0,none⟩)] w fun e w'=>e = .returned (.int .i64 cs.length)∧w=w':=by
 have x2:=h.raw.2
 clear h
 go_enter Tryz.func60,Tryz.ntmps60
 go_wp2
 go_ret
 exact ⟨rfl,rfl⟩
end Go.Proofs.YtpiobnfakmmpdaaGreat.Lib0
namespace Go.Proofs.YtpiobnfakmmpdaaGreat.Lib0
open Go.RowKit Go.Proofs.YtpiobnfakmmpdaaGreatW.PrintWords Go.ChangeMaps
set_option maxHeartbeats 1600000 in
set_option maxRecDepth 100000 in
theorem row_fine_g (c:CellM) (w:World) :
  Calls Tryz.prog 143 #[.agg c.cells.toArray] w fun e w'=>e = .returned (.bool (fineB c))∧∃ q os',w'=Go.Sort.grow (w.drewN q) os':=by
 obtain ⟨col,kind,n,s⟩:=c
 obtain ⟨r,hr⟩:∃ r,r=fineB ⟨col,kind,n,s⟩:=⟨_,rfl⟩
 rw[← hr]
 have HR:=mk0 hr
 clear hr
 have HN:=mk0 (fun W=>row_Name col W)
 unfold CellM.cells
 have he:=empty_size s
 generalize hz:s.toList.isEmpty=z at *
 have HB:=mk0 (show ∃ q os',w.alloc (.cells #[.string col,.int .i64 kind,.int .i64 n,.string s] 37)=Go.Sort.grow (w.drewN q) os' from ⟨0,#[_],Go.Sort.alloc_eq_grow _ _⟩)
 by_cases h1:kind=1
 ·subst h1
  have HS:=mk0 (show r=(nameB col && z) by rw[HR.out,fineB,if_pos rfl,he])
  clear he
  go_enter Tryz.func143,Tryz.ntmps143
  go_wp2_with fail
  refine (HN.out _).mono ?_
  rintro e w' ⟨rfl,rfl⟩
  cases hnb:nameB col
  ·have HS2:=mk0 (show r=false by rw[HS.out,hnb];rfl)
   clear hnb
   go_wp2
   go_ret
   exact ⟨by rw[HS2.out];rfl,HB.out⟩
  ·have HS2:=mk0 (show r=z by rw[HS.out,hnb];rfl)
   clear hnb
   go_wp2
   go_ret
   exact ⟨by rw[HS2.out];rfl,HB.out⟩
 ·have h1b:(kind==1)=false:=by rw[beq_eq_false_iff_ne];exact h1
  by_cases h2:kind=2
  ·subst h2
   have HS:=mk0 (show r=(nameB col && (decide (n=0) && decide (s.size≤40))) by rw[HR.out,fineB,if_neg (show ¬ (2:Int)=1 by decide),if_pos rfl])
   clear he h1b h1
   go_enter Tryz.func143,Tryz.ntmps143
   go_wp2_with fail
   refine (HN.out _).mono ?_
   rintro e w' ⟨rfl,rfl⟩
   cases hnb:nameB col
   ·have HS2:=mk0 (show r=false by rw[HS.out,hnb];rfl)
    clear hnb
    go_wp2
    go_ret
    exact ⟨by rw[HS2.out];rfl,HB.out⟩
   ·by_cases hn0:n=0
    ·subst hn0
     by_cases h40:s.size≤40
     ·have h40i:(s.size:Int)≤40:=by omega
      have HS2:=mk0 (show r=true by rw[HS.out,hnb,decide_eq_true h40];rfl)
      clear hnb
      go_wp2
      go_ret
      exact ⟨by rw[HS2.out];rfl,HB.out⟩
     ·have h40i:¬ (s.size:Int)≤40:=by omega
      have HS2:=mk0 (show r=false by rw[HS.out,hnb,decide_eq_false h40];rfl)
      clear hnb
      go_wp2
      go_ret
      exact ⟨by rw[HS2.out];exact congrArg (fun b=>Ending.returned (.bool b)) (decide_eq_false (by omega)),HB.out⟩
    ·have hn0b:(n==0)=false:=by rw[beq_eq_false_iff_ne];exact hn0
     have HS2:=mk0 (show r=false by rw[HS.out,hnb,decide_eq_false hn0];rfl)
     clear hnb
     go_wp2
     go_ret
     exact ⟨by rw[HS2.out];rfl,HB.out⟩
  ·have h2b:(kind==2)=false:=by rw[beq_eq_false_iff_ne];exact h2
   have HS:=mk0 (show r=false by rw[HR.out,fineB,if_neg h1,if_neg h2])
   clear he
   go_enter Tryz.func143,Tryz.ntmps143
   go_wp2
   go_ret
   exact ⟨by rw[HS.out];rfl,HB.out⟩
def cellsRB (p:Option ByteArray):List CellM→Bool
 | []=>true
 | c :: t=>fineB c && (match p with | none=>true | some q=>lessS q c.col) && cellsRB (some c.col) t
def headRB (t s:Int) (n:Nat):Bool:=decide (-1099511627776≤t) && decide (t≤1099511627776) && decide (0≤s) && decide (s≤1073741824) && decide (n≤8)
def rowB (t s:Int) (l:List CellM):Bool:=headRB t s l.length && cellsRB none l
def aheadC (l:List CellM) (k:Nat):Option ByteArray:=if k=0 then none else (l[k-1]?).map (·.col)
theorem cellsRB_at (l:List CellM) (k:Nat) (hk:k<l.length):cellsRB (aheadC l k) (l.drop k)=(fineB l[k] && (match aheadC l k with | none=>true | some q=>lessS q l[k].col) && cellsRB (aheadC l (k+1)) (l.drop (k+1))):=by
 rw[List.drop_eq_getElem_cons hk,cellsRB.eq_def]
 dsimp only
 have:aheadC l (k+1)=some l[k].col:=by unfold aheadC;rw[if_neg (by omega),Nat.add_sub_cancel,List.getElem?_eq_getElem hk];rfl
 rw[this]
theorem below_grow {w w':World} (h:Below w.heap.size w w') (n:Nat) (os:Array Obj):Below w.heap.size w (Go.Sort.grow (w'.drewN n) os):=by
 refine h.trans ⟨rfl,rfl,rfl,by simp[Go.Sort.grow],fun i hi=>?_⟩
 exact Go.Sort.heap_grow_old (w'.drewN n) os (show i<w'.heap.size from Nat.lt_of_lt_of_le hi h.size)
attribute [local irreducible] wpQuiet
set_option maxHeartbeats 3200000 in
set_option maxRecDepth 100000 in
theorem row_Right (t s:Int) (A:Option Addr) (cap:Nat) (l:List CellM) (w:World) (h:kc.C w A l.length l) :
  Calls Tryz.prog 89 #[.agg #[.int .i64 t,.int .i64 s,.slice A l.length cap]] w fun e w'=>e = .returned (.bool (rowB t s l))∧Below w.heap.size w w':=by
 have mixed:Tryz.prog.follows .mixedOrders=true:=by kernel_rfl
 obtain ⟨r,hr⟩:∃ r,r=rowB t s l:=⟨_,rfl⟩
 rw[← hr]
 have HR:=mk0 hr
 clear hr
 have HC:=mk0 h
 have hl63:=h.2.1
 clear h
 have HF:=mk0 row_fine_g
 have HB:=mk0 (below_alloc (Below.refl w.heap.size w) (.cells #[.int .i64 t,.int .i64 s,.slice A l.length cap] 35))
 have hnew:=heap_alloc_new w (.cells #[.int .i64 t,.int .i64 s,.slice A l.length cap] 35)
 by_cases h1:-1099511627776≤t
 case neg=>
  have HS:=mk0 (show r=false by rw[HR.out,rowB,headRB,decide_eq_false h1];rfl)
  clear hnew
  have h1b:decide (t < -1099511627776)=true:=decide_eq_true (by omega)
  go_enter Tryz.func89,Tryz.ntmps89
  go_wp2
  go_ret
  exact ⟨by rw[HS.out];rfl,HB.out⟩
 by_cases h2:t≤1099511627776
 case neg=>
  have HS:=mk0 (show r=false by rw[HR.out,rowB,headRB,decide_eq_false h2];simp)
  clear hnew
  have h1b:decide (t < -1099511627776)=false:=decide_eq_false (by omega)
  have h2b:decide (1099511627776<t)=true:=decide_eq_true (by omega)
  go_enter Tryz.func89,Tryz.ntmps89
  go_wp2
  go_ret
  exact ⟨by rw[HS.out];rfl,HB.out⟩
 by_cases h3:0≤s
 case neg=>
  have HS:=mk0 (show r=false by rw[HR.out,rowB,headRB,decide_eq_false h3];simp)
  clear hnew
  have h1b:decide (t < -1099511627776)=false:=decide_eq_false (by omega)
  have h2b:decide (1099511627776<t)=false:=decide_eq_false (by omega)
  have h3b:decide (s<0)=true:=decide_eq_true (by omega)
  go_enter Tryz.func89,Tryz.ntmps89
  go_wp2
  go_ret
  exact ⟨by rw[HS.out];rfl,HB.out⟩
 by_cases h4:s≤1073741824
 case neg=>
  have HS:=mk0 (show r=false by rw[HR.out,rowB,headRB,decide_eq_false h4];simp)
  clear hnew
  have h1b:decide (t < -1099511627776)=false:=decide_eq_false (by omega)
  have h2b:decide (1099511627776<t)=false:=decide_eq_false (by omega)
  have h3b:decide (s<0)=false:=decide_eq_false (by omega)
  have h4b:decide (1073741824<s)=true:=decide_eq_true (by omega)
  go_enter Tryz.func89,Tryz.ntmps89
  go_wp2
  go_ret
  exact ⟨by rw[HS.out];rfl,HB.out⟩
 have h1b:decide (t < -1099511627776)=false:=decide_eq_false (by omega)
 have h2b:decide (1099511627776<t)=false:=decide_eq_false (by omega)
 have h3b:decide (s<0)=false:=decide_eq_false (by omega)
 have h4b:decide (1073741824<s)=false:=decide_eq_false (by omega)
 by_cases h5:l.length≤8
 case neg=>
  have HS:=mk0 (show r=false by rw[HR.out,rowB,headRB,decide_eq_false h5];simp)
  clear hnew
  have h5b:decide ((8:Int)<l.length)=true:=decide_eq_true (by omega)
  have h5c:decide (8<l.length)=true:=decide_eq_true (by omega)
  go_enter Tryz.func89,Tryz.ntmps89
  go_wp2
  go_ret
  exact ⟨by rw[HS.out];rfl,HB.out⟩
 have h5b:decide ((8:Int)<l.length)=false:=decide_eq_false (by omega)
 have h5c:decide (8<l.length)=false:=decide_eq_false (by omega)
 have HR2:=mk0 (show r=cellsRB (aheadC l 0) (l.drop 0) by rw[HR.out,rowB,headRB,decide_eq_true h1,decide_eq_true h2,decide_eq_true h3,decide_eq_true h4,decide_eq_true h5];rfl)
 clear HR
 have HN:=mk0 hnew
 go_enter Tryz.func89,Tryz.ntmps89
 go_wp2_with fail
 clear hnew h1b h2b h3b h4b h5b h5c
 go_loopw[32] (fun v3 wr=>∃ (k:Nat),k≤l.length∧v3 = .int .i64 k∧Aside0 (r=cellsRB (aheadC l k) (l.drop k))∧Aside0 (Below w.heap.size w wr)∧wr.heap[w.heap.size]?=some (.cells #[.int .i64 t,.int .i64 s,.slice A l.length cap] 35)) (fun i _=>l.length-(intOf i).toNat)
 case atStart=>exact ⟨0,by omega,rfl,HR2,HB,HN.out⟩
 case round=>
  clear HR2 HN
  obtain ⟨k,hk,rfl,HA,HB1,hbox⟩:=hrel
  by_cases hlt:k<l.length
  case neg=>
   have HS:=mk0 (show r=true by rw[HA.out,List.drop_eq_nil_of_le (by omega)];rfl)
   have hlt2:¬ (k:Int)<l.length:=by omega
   clear hbox
   go_wp2
   go_ret
   exact ⟨by rw[HS.out];rfl,HB1.out⟩
  obtain ⟨b,o,rfl,hx⟩:=kc_open (Kd.C_below HC.out HB1.out) (by omega)
  obtain ⟨z0,z1,z2,z3⟩:=hx k hlt
  have hlt2:(k:Int)<l.length:=by omega
  have HK:=mk0 (cellsRB_at l k hlt)
  obtain ⟨c,hc⟩:∃ c,c=l[k]:=⟨_,rfl⟩
  rw[← hc] at z0 z1 z2 z3 HK
  have HCC:=mk0 hc
  clear hc
  have HX:=mk0 hx
  clear hx
  have HBX:=mk0 hbox
  clear hbox
  go_wp2_with fail
  have hW:∃ W,W=wr.alloc (.cells #[.string c.col,.int .i64 c.kind,.int .i64 c.n,.string c.s] 37):=⟨_,rfl⟩
  obtain ⟨W,hW⟩:=hW
  rw[← hW]
  have BW:Below wr.heap.size wr W:=by rw[hW];exact below_alloc (Below.refl _ _) _
  have hnw:=heap_alloc_new wr (.cells #[.string c.col,.int .i64 c.kind,.int .i64 c.n,.string c.s] 37)
  rw[← hW] at hnw
  have hWs:wr.heap.size<W.heap.size:=by rw[hW];simp
  have hw0:w.heap.size<wr.heap.size:=(Array.getElem?_eq_some_iff.1 HBX.out).1
  have HB2:=mk0 (HB1.out.trans (BW.mono (Nat.le_of_lt hw0)))
  have c0:∀ n os,(Go.Sort.grow (W.drewN n) os).cell? ⟨wr.heap.size,0,none⟩=some (.string c.col):=fun n os=>cell_grown (w:=W) (a:=⟨wr.heap.size,0,none⟩) hWs (cell_of_heap (i:=0) hnw rfl) n os
  have c1:∀ n os,(Go.Sort.grow (W.drewN n) os).cell? ⟨wr.heap.size,1,none⟩=some (.int .i64 c.kind):=fun n os=>cell_grown (w:=W) (a:=⟨wr.heap.size,1,none⟩) hWs (cell_of_heap (i:=1) hnw rfl) n os
  have c2:∀ n os,(Go.Sort.grow (W.drewN n) os).cell? ⟨wr.heap.size,2,none⟩=some (.int .i64 c.n):=fun n os=>cell_grown (w:=W) (a:=⟨wr.heap.size,2,none⟩) hWs (cell_of_heap (i:=2) hnw rfl) n os
  have c3:∀ n os,(Go.Sort.grow (W.drewN n) os).cell? ⟨wr.heap.size,3,none⟩=some (.string c.s):=fun n os=>cell_grown (w:=W) (a:=⟨wr.heap.size,3,none⟩) hWs (cell_of_heap (i:=3) hnw rfl) n os
  have hbx:W.heap[w.heap.size]?=some (.cells #[.int .i64 t,.int .i64 s,.slice (some ⟨b,o,none⟩) l.length cap] 35):=(BW.block _ hw0).trans HBX.out
  have d2:∀ n os,(Go.Sort.grow (W.drewN n) os).cell? ⟨w.heap.size,2,none⟩=some (.slice (some ⟨b,o,none⟩) l.length cap):=fun n os=>cell_grown (w:=W) (a:=⟨w.heap.size,2,none⟩) (Nat.lt_trans hw0 hWs) (cell_of_heap (i:=2) hbx rfl) n os
  have HBX2:=mk0 (fun n os=>(Go.Sort.heap_grow_old (W.drewN n) os (show w.heap.size<(W.drewN n).heap.size from Nat.lt_trans hw0 hWs)).trans hbx)
  have hbl:b<wr.heap.size:=World.block_lt_of_cell? wr _ z0
  have HFc:=mk0 (fun n os=>HF.out c (Go.Sort.grow (W.drewN n) os))
  unfold CellM.cells at HFc
  clear z0 z1 z2 z3 hbx hnw hW HBX
  cases hf:fineB c with
  | false=>
   have HS:=mk0 (show r=false by rw[HA.out,HK.out,hf];rfl)
   rw[hf] at HFc
   clear HX HA HK HCC hf HF HBX2
   go_quiet_grown ((go_at_call 143;refine Calls.grown_of (HFc.out _ _)))
   have HB3:=mk0 (below_grow HB2.out nq osq)
   generalize Go.Sort.grow (W.drewN nq) osq=W2 at *
   clear c0 c1 c2 c3 d2
   go_wp2
   go_ret
   exact ⟨by rw[HS.out];rfl,HB3.out⟩
  | true=>
   rw[hf] at HFc
   rcases Nat.eq_zero_or_pos k with rfl | hk0
   ·have HS:=mk0 (show r=cellsRB (aheadC l (0+1)) (l.drop (0+1)) by rw[HA.out,HK.out,hf];simp[aheadC])
    clear HX HA HK HCC hf HF
    go_quiet_grown ((go_at_call 143;refine Calls.grown_of (HFc.out _ _)))
    have HB3:=mk0 (below_grow HB2.out nq osq)
    have hb4:=HBX2.out nq osq
    generalize Go.Sort.grow (W.drewN nq) osq=W2 at *
    clear c0 c1 c2 c3 d2 HBX2 HFc
    have HB4:=mk0 hb4
    clear hb4
    go_wp2
    go_roundw
    case rel=>exact ⟨0+1,by omega,by go_num,HS,HB3,HB4.out⟩
    case measure=>simp[intOf];omega
   ·obtain ⟨j,rfl⟩:∃ j,k=j+1:=⟨k-1,by omega⟩
    have p0:=(HX.out j (by omega)).1
    obtain ⟨y,hy⟩:∃ y,y=l[j].col:=⟨_,rfl⟩
    rw[← hy] at p0
    have ep:aheadC l (j+1)=some y:=by unfold aheadC;rw[if_neg (by omega),Nat.add_sub_cancel,List.getElem?_eq_getElem (by omega),hy];rfl
    have e0:∀ n os,(Go.Sort.grow (W.drewN n) os).cell? ⟨b,o+j*4,none⟩=some (.string y):=fun n os=>cell_grown (w:=W) (a:=⟨b,o+j*4,none⟩) (Nat.lt_trans hbl hWs) ((BW.cell hbl).trans p0) n os
    have hk1:decide (((j+1:Nat):Int)>0)=true:=decide_eq_true (by omega)
    have hjw:IntKind.i64.wrap (((j+1:Nat):Int)-1)=(j:Int):=by rw[IntWalk.i64_in _ (by omega)];omega
    have hjw2:wrap64 (((j+1:Nat):Int)-1)=(j:Int):=by unfold wrap64;omega
    have hjw3:((j+1:Nat):Int)-1=(j:Int):=by omega
    have hjl:(j:Int)<l.length:=by omega
    have hjw4:IntKind.i64.wrap (j:Int)=(j:Int):=IntWalk.i64_in _ (by omega)
    have hlt3:(j:Int)+1<l.length:=by omega
    have hge3:(0:Int)≤(j:Int)+1:=by omega
    have hto3:((j:Int)+1).toNat=j+1:=by omega
    have hj63:(j:Int)+1<9223372036854775807:=by omega
    rw[ep] at HK
    cases hv:lessS y c.col with
    | false=>
     have HS:=mk0 (show r=false by rw[HA.out,ep,HK.out,hf];show (true && lessS y c.col && _)=_;rw[hv];rfl)
     unfold lessS at hv
     have hv2:(!Op.bytesLess y.toList c.col.toList)=true:=by rw[hv];rfl
     clear HX HA HK HCC hf HF HBX2 p0 hy ep hv
     go_quiet_grown ((go_at_call 143;refine Calls.grown_of (HFc.out _ _)))
     have HB3:=mk0 (below_grow HB2.out nq osq)
     generalize Go.Sort.grow (W.drewN nq) osq=W2 at *
     clear c0 c1 c2 c3 d2 e0
     go_wp2
     go_ret
     exact ⟨by rw[HS.out];rfl,HB3.out⟩
    | true=>
     have HS:=mk0 (show r=cellsRB (aheadC l (j+1+1)) (l.drop (j+1+1)) by rw[HA.out,ep,HK.out,hf];show (true && lessS y c.col && _)=_;rw[hv];rfl)
     unfold lessS at hv
     have hv2:(!Op.bytesLess y.toList c.col.toList)=false:=by rw[hv];rfl
     clear HX HA HK HCC hf HF p0 hy ep hv
     go_quiet_grown ((go_at_call 143;refine Calls.grown_of (HFc.out _ _)))
     have HB3:=mk0 (below_grow HB2.out nq osq)
     have hb4:=HBX2.out nq osq
     generalize Go.Sort.grow (W.drewN nq) osq=W2 at *
     clear c0 c1 c2 c3 d2 e0 HBX2 HFc
     have HB4:=mk0 hb4
     clear hb4
     go_wp2
     go_roundw
     case rel=>exact ⟨j+1+1,by omega,by go_num,HS,HB3,HB4.out⟩
     case measure=>simp[intOf];omega
end Go.Proofs.YtpiobnfakmmpdaaGreat.Lib0

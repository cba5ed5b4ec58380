import Derived.Test.YtpiobnfakmmpdaaGreatP20
set_option linter.unusedVariables false
set_option linter.unusedSimpArgs false
namespace Go.Proofs.YtpiobnfakmmpdaaGreat.Lib0
open Go.RowKit Go.Proofs.YtpiobnfakmmpdaaGreatW.PrintWords Go.ChangeMaps
def cmpZ (a b:Int):Int:=if a<b then -1 else if b<a then 1 else 0
set_option maxHeartbeats 400000 in
set_option maxRecDepth 100000 in
theorem nan_i64 (a:Int) (w:World):Calls Tryz.prog 243 #[.int .i64 a] w fun e w'=>e = .returned (.bool false)∧w=w':=by
 go_enter Tryz.func243,Tryz.ntmps243
 go_wp2
 go_ret
 exact ⟨rfl,rfl⟩
set_option maxHeartbeats 400000 in
set_option maxRecDepth 100000 in
theorem nan_int (a:Int) (w:World):Calls Tryz.prog 244 #[.int .i64 a] w fun e w'=>e = .returned (.bool false)∧w=w':=by
 go_enter Tryz.func244,Tryz.ntmps244
 go_wp2
 go_ret
 exact ⟨rfl,rfl⟩
set_option maxHeartbeats 1600000 in
set_option maxRecDepth 100000 in
theorem cmp_i64 (a b:Int) (w:World):Calls Tryz.prog 214 #[.int .i64 a,.int .i64 b] w fun e w'=>e = .returned (.int .i64 (cmpZ a b))∧w=w':=by
 have HN:=mk0 (fun x W=>nan_i64 x W)
 by_cases h1:a<b
 ·have h:cmpZ a b = -1:=if_pos h1
  have HS:=mk0 h
  clear h
  have h2:decide (a<b)=true:=decide_eq_true h1
  go_enter Tryz.func214,Tryz.ntmps214
  go_wp2_with fail
  refine (HN.out _ _).mono ?_
  rintro e w' ⟨rfl,rfl⟩
  go_wp2_with fail
  refine (HN.out _ _).mono ?_
  rintro e w' ⟨rfl,rfl⟩
  go_wp2
  go_ret
  exact ⟨by rw[HS.out];rfl,rfl⟩
 by_cases h2:b<a
 ·have h:cmpZ a b=1:=by unfold cmpZ;rw[if_neg h1,if_pos h2]
  have HS:=mk0 h
  clear h
  have h3:decide (a<b)=false:=decide_eq_false h1
  have h4:decide (b<a)=true:=decide_eq_true h2
  go_enter Tryz.func214,Tryz.ntmps214
  go_wp2_with fail
  refine (HN.out _ _).mono ?_
  rintro e w' ⟨rfl,rfl⟩
  go_wp2_with fail
  refine (HN.out _ _).mono ?_
  rintro e w' ⟨rfl,rfl⟩
  go_wp2
  go_ret
  exact ⟨by rw[HS.out];rfl,rfl⟩
 ·have h:cmpZ a b=0:=by unfold cmpZ;rw[if_neg h1,if_neg h2]
  have HS:=mk0 h
  clear h
  have h3:decide (a<b)=false:=decide_eq_false h1
  have h4:decide (b<a)=false:=decide_eq_false h2
  go_enter Tryz.func214,Tryz.ntmps214
  go_wp2_with fail
  refine (HN.out _ _).mono ?_
  rintro e w' ⟨rfl,rfl⟩
  go_wp2_with fail
  refine (HN.out _ _).mono ?_
  rintro e w' ⟨rfl,rfl⟩
  go_wp2
  go_ret
  exact ⟨by rw[HS.out];rfl,rfl⟩
set_option maxHeartbeats 1600000 in
set_option maxRecDepth 100000 in
theorem cmp_int (a b:Int) (w:World):Calls Tryz.prog 215 #[.int .i64 a,.int .i64 b] w fun e w'=>e = .returned (.int .i64 (cmpZ a b))∧w=w':=by
 have HN:=mk0 (fun x W=>nan_int x W)
 by_cases h1:a<b
 ·have h:cmpZ a b = -1:=if_pos h1
  have HS:=mk0 h
  clear h
  have h2:decide (a<b)=true:=decide_eq_true h1
  go_enter Tryz.func215,Tryz.ntmps215
  go_wp2_with fail
  refine (HN.out _ _).mono ?_
  rintro e w' ⟨rfl,rfl⟩
  go_wp2_with fail
  refine (HN.out _ _).mono ?_
  rintro e w' ⟨rfl,rfl⟩
  go_wp2
  go_ret
  exact ⟨by rw[HS.out];rfl,rfl⟩
 by_cases h2:b<a
 ·have h:cmpZ a b=1:=by unfold cmpZ;rw[if_neg h1,if_pos h2]
  have HS:=mk0 h
  clear h
  have h3:decide (a<b)=false:=decide_eq_false h1
  have h4:decide (b<a)=true:=decide_eq_true h2
  go_enter Tryz.func215,Tryz.ntmps215
  go_wp2_with fail
  refine (HN.out _ _).mono ?_
  rintro e w' ⟨rfl,rfl⟩
  go_wp2_with fail
  refine (HN.out _ _).mono ?_
  rintro e w' ⟨rfl,rfl⟩
  go_wp2
  go_ret
  exact ⟨by rw[HS.out];rfl,rfl⟩
 ·have h:cmpZ a b=0:=by unfold cmpZ;rw[if_neg h1,if_neg h2]
  have HS:=mk0 h
  clear h
  have h3:decide (a<b)=false:=decide_eq_false h1
  have h4:decide (b<a)=false:=decide_eq_false h2
  go_enter Tryz.func215,Tryz.ntmps215
  go_wp2_with fail
  refine (HN.out _ _).mono ?_
  rintro e w' ⟨rfl,rfl⟩
  go_wp2_with fail
  refine (HN.out _ _).mono ?_
  rintro e w' ⟨rfl,rfl⟩
  go_wp2
  go_ret
  exact ⟨by rw[HS.out];rfl,rfl⟩
def orZ:Int→Int→Int:=fun a b=>if a≠0 then a else b
set_option maxHeartbeats 1600000 in
set_option maxRecDepth 100000 in
theorem cmp_Or (A:Nat) (c:Nat) (x y:Int) (w:World) (h:w.cell? ⟨A,0,none⟩=some (.int .i64 x)∧w.cell? ⟨A,1,none⟩=some (.int .i64 y)) :
  Calls Tryz.prog 213 #[.slice (some ⟨A,0,none⟩) 2 c] w fun e w'=>e = .returned (.int .i64 (orZ x y))∧w=w':=by
 obtain ⟨h0,h1⟩:=h
 obtain ⟨r,hr⟩:∃ r,r=orZ x y:=⟨_,rfl⟩
 rw[← hr]
 have HR:=mk0 hr
 clear hr
 go_enter Tryz.func213,Tryz.ntmps213
 go_wp2_with fail
 go_loopw[8] (fun v8 wr=>∃ (k:Nat),k≤2∧v8 = .int .i64 k∧Aside0 (0<k→x=0)∧Aside0 (1<k→y=0)∧wr=w) (fun i _=>2-(intOf i).toNat)
 case atStart=>exact ⟨0,by omega,rfl,⟨fun h=>by omega⟩,⟨fun h=>by omega⟩,rfl⟩
 case round=>
  obtain ⟨k,hk,rfl,HX,HY,rfl⟩:=hrel
  rcases (show k=0∨k=1∨k=2 by omega) with rfl | rfl | rfl
  ·by_cases hx:x=0
   ·have hxb:(x != 0)=false:=by simp[hx]
    have HX2:=mk0 (fun (_:0<0+1)=>hx)
    have HY2:=mk0 (show 1<0+1→y=0 from fun h=>by omega)
    clear hx
    go_wp2
    go_roundw
    case rel=>exact ⟨0+1,by omega,by go_num,HX2,HY2,by first | rfl | trivial⟩
    case measure=>simp[intOf]
   ·have hxb:(x != 0)=true:=by simp[hx]
    have HS:=mk0 (show r=x by rw[HR.out,orZ,if_pos hx])
    clear hx
    go_wp2
    go_ret
    exact ⟨by rw[HS.out];rfl,rfl⟩
  ·by_cases hy:y=0
   ·have hyb:(y != 0)=false:=by simp[hy]
    have HY2:=mk0 (fun (_:1<1+1)=>hy)
    have HX2:=mk0 (show 0<1+1→x=0 from fun _=>HX.out (by omega))
    clear hy
    go_wp2
    go_roundw
    case rel=>exact ⟨1+1,by omega,by go_num,HX2,HY2,by first | rfl | trivial⟩
    case measure=>simp[intOf]
   ·have hyb:(y != 0)=true:=by simp[hy]
    have HS:=mk0 (show r=y by rw[HR.out,orZ,if_neg (by simp[HX.out (by omega)])])
    clear hy
    go_wp2
    go_ret
    exact ⟨by rw[HS.out];rfl,rfl⟩
  ·have HS:=mk0 (show r=0 by rw[HR.out,orZ,if_neg (by simp[HX.out (by omega)]),HY.out (by omega)])
   go_wp2
   go_ret
   exact ⟨by rw[HS.out];rfl,rfl⟩
def cmpR (t s t' s':Int):Int:=orZ (cmpZ t t') (cmpZ s s')
set_option maxHeartbeats 1600000 in
set_option maxRecDepth 100000 in
theorem row_compare (t s t' s':Int) (V V':Value) (w:World) :
  Calls Tryz.prog 187 #[.agg #[.int .i64 t,.int .i64 s,V],.agg #[.int .i64 t',.int .i64 s',V']] w fun e w'=>e = .returned (.int .i64 (cmpR t s t' s'))∧∃ q os',w'=Go.Sort.grow (w.drewN q) os':=by
 have H64:=mk0 cmp_i64
 have HI:=mk0 cmp_int
 have HO:=mk0 cmp_Or
 go_enter Tryz.func187,Tryz.ntmps187
 go_wp2_with fail
 obtain ⟨W,hW⟩:∃ W,W=(w.alloc (.cells #[.int .i64 t,.int .i64 s,V] 35)).alloc (.cells #[.int .i64 t',.int .i64 s',V'] 35):=⟨_,rfl⟩
 rw[← hW]
 have n0:W.heap[w.heap.size]?=some (.cells #[.int .i64 t,.int .i64 s,V] 35):=by
  rw[hW]
  have:=heap_alloc_new w (.cells #[.int .i64 t,.int .i64 s,V] 35)
  rwa [← (below_alloc (Below.refl _ (w.alloc (.cells #[.int .i64 t,.int .i64 s,V] 35))) (.cells #[.int .i64 t',.int .i64 s',V'] 35)).block w.heap.size (by simp)] at this
 have n1:W.heap[w.heap.size+1]?=some (.cells #[.int .i64 t',.int .i64 s',V'] 35):=by
  rw[hW]
  have:=heap_alloc_new (w.alloc (.cells #[.int .i64 t,.int .i64 s,V] 35)) (.cells #[.int .i64 t',.int .i64 s',V'] 35)
  simpa using this
 have a0:W.drew.cell? ⟨w.heap.size,0,none⟩=some (.int .i64 t):=cell_of_heap (w:=W) (i:=0) n0 rfl
 have a1:W.drew.cell? ⟨w.heap.size,1,none⟩=some (.int .i64 s):=cell_of_heap (w:=W) (i:=1) n0 rfl
 have b0:W.drew.cell? ⟨w.heap.size+1,0,none⟩=some (.int .i64 t'):=cell_of_heap (w:=W) (i:=0) n1 rfl
 have b1:W.drew.cell? ⟨w.heap.size+1,1,none⟩=some (.int .i64 s'):=cell_of_heap (w:=W) (i:=1) n1 rfl
 have hz0:w.heap.size<W.heap.size:=(Array.getElem?_eq_some_iff.1 n0).1
 have hz1:w.heap.size+1<W.heap.size:=(Array.getElem?_eq_some_iff.1 n1).1
 have k0:∀ o,(W.alloc o).drew.cell? ⟨w.heap.size,0,none⟩=some (.int .i64 t):=fun o=>(World.cell?_alloc_lt W o ⟨w.heap.size,0,none⟩ hz0).trans a0
 have k1:∀ o,(W.alloc o).drew.cell? ⟨w.heap.size,1,none⟩=some (.int .i64 s):=fun o=>(World.cell?_alloc_lt W o ⟨w.heap.size,1,none⟩ hz0).trans a1
 have k2:∀ o,(W.alloc o).drew.cell? ⟨w.heap.size+1,0,none⟩=some (.int .i64 t'):=fun o=>(World.cell?_alloc_lt W o ⟨w.heap.size+1,0,none⟩ hz1).trans b0
 have k3:∀ o,(W.alloc o).drew.cell? ⟨w.heap.size+1,1,none⟩=some (.int .i64 s'):=fun o=>(World.cell?_alloc_lt W o ⟨w.heap.size+1,1,none⟩ hz1).trans b1
 clear hz0 hz1
 have HW:=mk0 hW
 clear hW n0 n1
 obtain ⟨z1,hz1⟩:∃ z,z=cmpZ t t':=⟨_,rfl⟩
 obtain ⟨z2,hz2⟩:∃ z,z=cmpZ s s':=⟨_,rfl⟩
 have H1:=mk0 (H64.out t t')
 have H2:=mk0 (HI.out s s')
 rw[← hz1] at H1
 rw[← hz2] at H2
 have HZ:=mk0 (And.intro hz1 hz2)
 clear hz1 hz2 H64 HI
 go_region_held3 (fun w'=>w'.cell? ⟨w.heap.size,0,none⟩=some (.int .i64 t)∧w'.cell? ⟨w.heap.size,1,none⟩=some (.int .i64 s)∧w'.cell? ⟨w.heap.size+1,0,none⟩=some (.int .i64 t')∧w'.cell? ⟨w.heap.size+1,1,none⟩=some (.int .i64 s')) (go_keep)
  (first
  | (go_at_call 214;refine (H1.out _).mono ?_;rintro e w' ⟨rfl,rfl⟩)
  | (go_at_call 215;refine (H2.out _).mono ?_;rintro e w' ⟨rfl,rfl⟩)
  | (go_at_call 213;refine (HO.out _ _ z1 z2 _ ⟨by simp[go_sem],by simp[go_sem]⟩).mono ?_;rintro e w' ⟨rfl,rfl⟩))
 have HG:=mk0 (show ∃ q os',(W.alloc (.cells #[.int .i64 z1,.int .i64 z2] 3)).drew=Go.Sort.grow (w.drewN q) os' from ⟨1,#[_,_,_],by rw[HW.out];simp only[Go.Sort.alloc_eq_grow,Go.Sort.grow_grow];rfl⟩)
 clear a0 a1 b0 b1 k0 k1 k2 k3
 go_wp2
 go_ret
 exact ⟨by rw[cmpR,← HZ.out.1,← HZ.out.2];rfl,HG.out⟩
theorem grow2 {w w1:World} {o o':Obj} (h:∃ q os',w1=Go.Sort.grow (((w.alloc o).alloc o').drewN q) os'):∃ q os',w1=Go.Sort.grow (w.drewN q) os':=by
 obtain ⟨q,os',rfl⟩:=h
 exact ⟨q,#[o,o']++os',by simp only[Go.Sort.alloc_eq_grow,Go.Sort.grow_grow];show Go.Sort.grow (Go.Sort.grow (w.drewN q) _) _=_;rw[Go.Sort.grow_grow];rfl⟩
set_option maxHeartbeats 1600000 in
set_option maxRecDepth 100000 in
theorem row_Less (t s t' s':Int) (V V':Value) (w:World) :
  Calls Tryz.prog 149 #[.agg #[.int .i64 t,.int .i64 s,V],.agg #[.int .i64 t',.int .i64 s',V']] w fun e w'=>e = .returned (.bool (decide (cmpR t s t' s'<0)))∧∃ q os',w'=Go.Sort.grow (w.drewN q) os':=by
 obtain ⟨z,hz⟩:∃ z,z=cmpR t s t' s':=⟨_,rfl⟩
 have HC:=mk0 (fun W=>row_compare t s t' s' V V' W)
 rw[← hz] at HC ⊢
 clear hz
 obtain ⟨r,hr⟩:∃ r,r=decide (z<0):=⟨_,rfl⟩
 rw[← hr]
 go_enter Tryz.func149,Tryz.ntmps149
 go_wp2_with fail
 refine (HC.out _).mono ?_
 rintro e w' ⟨rfl,hg⟩
 have HG:=mk0 (grow2 hg)
 clear hg
 have hr2:decide (z<0)=r:=hr.symm
 clear hr
 go_wp2
 go_ret
 exact ⟨rfl,HG.out⟩
structure RowH where
 t:Int
 s:Int
 A:Option Addr
 n:Nat
 c:Nat
def kr:Kd RowH:=Kd.iso (Kd.pair (Kd.int .i64) (Kd.pair (Kd.int .i64) kh)) (fun h=>(h.t,h.s,⟨h.A,h.n,h.c⟩))
def RowH.cells (h:RowH):List Value:=[.int .i64 h.t,.int .i64 h.s,.slice h.A h.n h.c]
theorem kr_K {w:World} {c:RowH} {cs:List Value} (h:kr.K w c cs):cs=c.cells:=by
 obtain ⟨a,b,rfl,rfl,a',b',rfl,rfl,rfl⟩:=h
 rfl
theorem kr_open {w:World} {A:Option Addr} {n:Nat} {l:List RowH} (h:kr.C w A n l) (hn:0<l.length) :
  ∃ b o,A=some ⟨b,o,none⟩∧∀ k (hk:k<l.length),w.cell? ⟨b,o+k*3,none⟩=some (.int .i64 l[k].t)∧w.cell? ⟨b,o+k*3+1,none⟩=some (.int .i64 l[k].s)∧w.cell? ⟨b,o+k*3+2,none⟩=some (.slice l[k].A l[k].n l[k].c):=by
 obtain ⟨ad,rfl,hc⟩:=h.2.2 (by have:=h.1;omega)
 have hx:∀ k (hk:k<l.length) i u,l[k].cells[i]?=some u→w.cell? (ad.add (k*3+i))=some u:=fun k hk i u hu=>by
  obtain ⟨c,hl,hk',hcell⟩:=hc k _ (List.getElem?_eq_getElem hk)
  have hk2:=kr_K hk'
  subst hk2
  exact hcell i u hu
 have hs:ad.spot=none:=by
  have:=hx 0 hn 0 _ rfl
  have e0:ad.add (0*3+0)=ad:=by simp[Addr.add]
  rw[e0] at this
  exact cell_plain this
 obtain ⟨b,o,sp⟩:=ad
 simp only at hs
 subst hs
 have e1:∀ k,(⟨b,o,none⟩:Addr).add k=⟨b,o+k,none⟩:=fun k=>by unfold Addr.add;split<;>simp_all
 refine ⟨b,o,rfl,fun k hk=>⟨?_,?_,?_⟩⟩
 ·have:=hx k hk 0 _ rfl
  rwa [e1,Nat.add_zero] at this
 ·have:=hx k hk 1 _ rfl
  rwa [e1,← Nat.add_assoc] at this
 ·have:=hx k hk 2 _ rfl
  rwa [e1,← Nat.add_assoc] at this
def lessH (a b:RowH):Bool:=decide (cmpR a.t a.s b.t b.s<0)
def risesH:List RowH→Bool
 | a :: b :: t=>lessH a b && risesH (b :: t)
 | _=>true
theorem risesH_true:∀ (d:List RowH),(∀ i (h:i+1<d.length),lessH d[i] d[i+1]=true)→risesH d=true
 | [],_=>rfl
 | [_],_=>rfl
 | a :: b :: t,h=>by
  have h0:=h 0 (by simp)
  simp only[List.getElem_cons_zero,List.getElem_cons_succ] at h0
  rw[risesH,h0,Bool.true_and]
  exact risesH_true (b :: t) (fun i hi=>by have:=h (i+1) (by simp at hi ⊢;omega);simpa using this)
theorem risesH_false:∀ (d:List RowH) (i:Nat) (h:i+1<d.length),lessH d[i] d[i+1]=false→risesH d=false
 | [],i,h,_=>by simp at h
 | [_],i,h,_=>by simp at h
 | a :: b :: t,0,h,hf=>by
  simp only[List.getElem_cons_zero,List.getElem_cons_succ] at hf
  rw[risesH,hf,Bool.false_and]
 | a :: b :: t,i+1,h,hf=>by
  have:=risesH_false (b :: t) i (by simp at h ⊢;omega) (by simpa using hf)
  rw[risesH,this,Bool.and_false]
attribute [local irreducible] wpQuiet
set_option maxHeartbeats 3200000 in
set_option maxRecDepth 100000 in
theorem row_Rises (A:Option Addr) (c:Nat) (d:List RowH) (w:World) (h:kr.C w A d.length d) :
  Calls Tryz.prog 94 #[.slice A d.length c] w fun e w'=>e = .returned (.bool (risesH d))∧Below w.heap.size w w':=by
 have mixed:Tryz.prog.follows .mixedOrders=true:=by kernel_rfl
 have HC:=mk0 h
 have hl63:=h.2.1
 clear h
 have HL:=mk0 row_Less
 obtain ⟨r,hr⟩:∃ r,r=risesH d:=⟨_,rfl⟩
 rw[← hr]
 have HRR:=mk0 hr
 clear hr
 go_enter Tryz.func94,Tryz.ntmps94
 go_wp2_with fail
 go_loopw[3] (fun v3 wr=>∃ (k:Nat),1≤k∧(k≤d.length∨d.length=0)∧v3 = .int .i64 k∧Aside0 (∀ i (h:i+1<d.length),i+1<k→lessH d[i] d[i+1]=true)∧Aside0 (Below w.heap.size w wr)) (fun i _=>d.length-(intOf i).toNat)
 case atStart=>exact ⟨1,by omega,by omega,rfl,⟨fun i h1 h2=>by omega⟩,⟨Below.refl _ _⟩⟩
 case round=>
  obtain ⟨k,hk1,hk,rfl,HA,HB⟩:=hrel
  by_cases hlt:k<d.length
  ·obtain ⟨b,o,rfl,hx⟩:=kr_open (Kd.C_below HC.out HB.out) (by omega)
   obtain ⟨j,rfl⟩:∃ j,k=j+1:=⟨k-1,by omega⟩
   obtain ⟨y0,y1,y2⟩:=hx j (by omega)
   obtain ⟨z0,z1,z2⟩:=hx (j+1) hlt
   have hlt2:((j+1:Nat):Int)<d.length:=by omega
   have hjw:IntKind.i64.wrap (((j+1:Nat):Int)-1)=(j:Int):=by rw[IntWalk.i64_in _ (by omega)];omega
   have hjw2:wrap64 (((j+1:Nat):Int)-1)=(j:Int):=by unfold wrap64;omega
   have hjw3:((j+1:Nat):Int)-1=(j:Int):=by omega
   have hjl:(j:Int)<d.length:=by omega
   have hjw4:IntKind.i64.wrap (j:Int)=(j:Int):=IntWalk.i64_in _ (by omega)
   have hlt3:(j:Int)+1<d.length:=by omega
   have hge3:(0:Int)≤(j:Int)+1:=by omega
   have hto3:((j:Int)+1).toNat=j+1:=by omega
   have hj63:(j:Int)+1<9223372036854775807:=by omega
   clear hx
   obtain ⟨q,hq⟩:∃ q,q=lessH d[j] d[j+1]:=⟨_,rfl⟩
   have HL2:=mk0 (fun V V' W=>HL.out d[j].t d[j].s d[j+1].t d[j+1].s V V' W)
   have HQ:=mk0 hq
   unfold lessH at hq
   rw[← hq] at HL2
   clear hq HL
   obtain ⟨x,hxx⟩:∃ x,x=d[j]:=⟨_,rfl⟩
   obtain ⟨y,hyy⟩:∃ y,y=d[j+1]:=⟨_,rfl⟩
   rw[← hxx] at y0 y1 y2 HL2
   rw[← hyy] at z0 z1 z2 HL2
   clear hxx hyy
   have hb:=World.block_lt_of_cell? wr _ y0
   have Y0:∀ n os,(Go.Sort.grow (wr.drewN n) os).cell? ⟨b,o+j*3,none⟩=some (.int .i64 x.t):=fun n os=>cell_grown (by exact hb) y0 n os
   have Y1:∀ n os,(Go.Sort.grow (wr.drewN n) os).cell? ⟨b,o+j*3+1,none⟩=some (.int .i64 x.s):=fun n os=>cell_grown (by exact hb) y1 n os
   have Y2:∀ n os,(Go.Sort.grow (wr.drewN n) os).cell? ⟨b,o+j*3+2,none⟩=some (.slice x.A x.n x.c):=fun n os=>cell_grown (by exact hb) y2 n os
   have Z0:∀ n os,(Go.Sort.grow (wr.drewN n) os).cell? ⟨b,o+(j+1)*3,none⟩=some (.int .i64 y.t):=fun n os=>cell_grown (by exact hb) z0 n os
   have Z1:∀ n os,(Go.Sort.grow (wr.drewN n) os).cell? ⟨b,o+(j+1)*3+1,none⟩=some (.int .i64 y.s):=fun n os=>cell_grown (by exact hb) z1 n os
   have Z2:∀ n os,(Go.Sort.grow (wr.drewN n) os).cell? ⟨b,o+(j+1)*3+2,none⟩=some (.slice y.A y.n y.c):=fun n os=>cell_grown (by exact hb) z2 n os
   have HB1:=mk0 (fun n os=>HB.out.trans ((below_grow (Below.refl _ wr) n os).mono HB.out.size))
   clear y0 y1 y2 z0 z1 z2
   go_wp2_with fail
   go_quiet_grown ((go_at_call 149;refine Calls.grown_of (HL2.out _ _ _)))
   have HB2:=mk0 (HB1.out nq osq)
   generalize Go.Sort.grow (wr.drewN nq) osq=w2 at *
   clear Y0 Y1 Y2 Z0 Z1 Z2 HB1 HL2
   cases q
   ·have HS:=mk0 (show r=false by rw[HRR.out];exact risesH_false d j hlt HQ.out.symm)
    simp only[Bool.not_false,Bool.not_true]
    go_wp2
    go_ret
    exact ⟨by rw[HS.out];rfl,HB2.out⟩
   ·have HA2:=mk0 (show ∀ i (h:i+1<d.length),i+1<j+1+1→lessH d[i] d[i+1]=true from fun i h1 h2=>by
     by_cases hij:i=j
     ·subst hij;exact HQ.out.symm
     ·exact HA.out i h1 (by omega))
    clear HQ
    simp only[Bool.not_false,Bool.not_true]
    go_wp2
    go_roundw
    case rel=>exact ⟨j+1+1,by omega,by omega,by go_num,HA2,HB2⟩
    case measure=>simp[intOf];omega
  ·have HS:=mk0 (show r=true by rw[HRR.out];exact risesH_true d (fun i h=>HA.out i h (by omega)))
   have hlt2:¬ (k:Int)<d.length:=by omega
   go_wp2
   go_ret
   exact ⟨by rw[HS.out];rfl,HB.out⟩
end Go.Proofs.YtpiobnfakmmpdaaGreat.Lib0

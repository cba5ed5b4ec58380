import Derived.Shelf.SlicesG.CompactS
import Derived.Shelf.SortM.Plain
import Derived.Shelf.SortM.SortNone
import Derived.Shelf.SlicesQ.IndexFunc
import Derived.Shelf.SlicesE.IndexFunc
import Derived.Sort.OwnSorted
import Derived.Lib.SliceRun
import Derived.Test.YtpiobnfakmmpdaaGreatP10
set_option linter.unusedVariables false
set_option linter.unusedSimpArgs false
namespace Go.Proofs.YtpiobnfakmmpdaaGreat.Lib0
open Go.RowKit Go.Proofs.YtpiobnfakmmpdaaGreatW.PrintWords Go.ChangeMaps
theorem isNaN_c (a:ByteArray) (w:World):Calls Tryz.prog 184 #[.string a] w fun e w'=>e = .returned (.bool false)∧w=w':=by
 have h:(a.toList==a.toList)=true:=by simp
 go_enter Tryz.func184,Tryz.ntmps184
 go_wp2
 go_ret
 exact ⟨by first | rfl | simp,rfl⟩
theorem isNaN_s (a:ByteArray) (w:World):Calls Tryz.prog 258 #[.string a] w fun e w'=>e = .returned (.bool false)∧w=w':=by
 have h:(a.toList==a.toList)=true:=by simp
 go_enter Tryz.func258,Tryz.ntmps258
 go_wp2
 go_ret
 exact ⟨by first | rfl | simp,rfl⟩
set_option maxRecDepth 100000 in
theorem cmp_LessS (a b:ByteArray) (w:World):Calls Tryz.prog 226 #[.string a,.string b] w fun e w'=>e = .returned (.bool (lessS a b))∧w=w':=by
 have HN:=mk0 (isNaN_c a)
 unfold lessS
 go_enter Tryz.func226,Tryz.ntmps226
 go_wp2_with fail
 refine (HN.out _).mono ?_
 rintro e w' ⟨rfl,rfl⟩
 go_wp2
 go_ret
 exact ⟨rfl,rfl⟩
def bsS (d:List ByteArray) (s:ByteArray):Nat→Nat→Nat→Nat
 | 0,i,_=>i
 | f+1,i,j=>if i<j then (if lessS (d.getD ((i+j)/2) ByteArray.empty) s then bsS d s f ((i+j)/2+1) j else bsS d s f i ((i+j)/2)) else i
def findB (d:List ByteArray) (s:ByteArray):Nat × Bool:=(bsS d s d.length 0 d.length,decide (bsS d s d.length 0 d.length<d.length) && decide (d.getD (bsS d s d.length 0 d.length) ByteArray.empty=s))
def findS (d:List ByteArray) (s:ByteArray):Nat × Bool:=if (findB d s).2 then ((findB d s).1,true) else (0,false)
set_option maxHeartbeats 3200000 in
set_option maxRecDepth 100000 in
theorem slices_BinarySearchS (A:Option Addr) (c:Nat) (d:List ByteArray) (s:ByteArray) (w:World) (h:Kd.string.C w A d.length d) (hl:d.length≤1099511627776) :
  Calls Tryz.prog 231 #[.slice A d.length c,.string s] w fun e w'=>e = .returned (.tuple #[.int .i64 (findB d s).1,.bool (findB d s).2])∧w=w':=by
 have HC:=mk0 h
 have HNS:=mk0 isNaN_s
 have hli:(d.length:Int)≤1099511627776:=by omega
 obtain ⟨r,hr⟩:∃ r,r=findB d s:=⟨_,rfl⟩
 rw[← hr]
 have HR:=mk0 hr
 clear hr h
 go_enter Tryz.func231,Tryz.ntmps231
 go_wp2_with fail
 go_loopw[7,8] (fun v7 v8 wr=>∃ (i j f:Nat),j≤d.length∧i≤d.length∧v7 = .int .i64 i∧v8 = .int .i64 j∧Aside0 (j-i≤f)∧Aside0 (bsS d s f i j=bsS d s d.length 0 d.length)∧wr=w) (fun i j _=>(intOf j).toNat-(intOf i).toNat)
 case atStart=>exact ⟨0,d.length,d.length,by omega,by omega,rfl,rfl,⟨by omega⟩,⟨rfl⟩,rfl⟩
 case round=>
  obtain ⟨i,j,f,hj,hi,rfl,rfl,HF,HE,rfl⟩:=hrel
  by_cases hlt:i<j
  ·have hlti:(i:Int)<j:=by omega
   obtain ⟨f,rfl⟩:∃ f',f=f'+1:=⟨f-1,by have:=HF.out;omega⟩
   obtain ⟨m,hm⟩:∃ m,m=(i+j)/2:=⟨_,rfl⟩
   have hml:m<d.length:=by omega
   have hmi:(m:Int)<d.length:=by omega
   have hmw:((i:Int)+j)/2=(m:Int):=by omega
   have hij:(i:Int)+j≤2199023255552:=by omega
   have hsw:IntKind.u64.wrap ((i:Int)+j)=(i:Int)+j:=by rw[IntKind.wrap_u64];omega
   have hmw2:IntKind.i64.wrap (m:Int)=(m:Int):=IntWalk.i64_in _ (by omega)
   obtain ⟨b,o,rfl,hx⟩:=str_open HC.out (by omega)
   have hx1:=hx m hml
   have HE2:=mk0 (show (if lessS d[m] s then bsS d s f (m+1) j else bsS d s f i m)=bsS d s d.length 0 d.length by
    have:=HE.out
    rw[bsS,if_pos hlt,← hm,List.getD_eq_getElem?_getD,List.getElem?_eq_getElem hml] at this
    simpa using this)
   have HM:=mk0 (show i≤m∧m<j by omega)
   clear hx hm HE
   have HL:=mk0 (cmp_LessS d[m] s)
   generalize d[m]=y at *
   go_wp2_with fail
   (with_reducible refine (HL.out _).mono ?_)
   rintro e w' ⟨rfl,rfl⟩
   cases hv:lessS y s
   ·have HE3:=mk0 HE2.out
    rw[hv,if_neg (by simp)] at HE3
    clear HE2 hv
    go_wp2
    go_roundw
    case rel=>exact ⟨i,m,f,by omega,by omega,rfl,rfl,⟨by have:=HF.out;have:=HM.out;omega⟩,HE3,by first | rfl | trivial⟩
    case measure=>have:=HM.out;simp[intOf];omega
   ·have HE3:=mk0 HE2.out
    rw[hv,if_pos rfl] at HE3
    clear HE2 hv
    go_wp2
    go_roundw
    case rel=>exact ⟨m+1,j,f,by omega,by omega,by go_num,rfl,⟨by have:=HF.out;have:=HM.out;omega⟩,HE3,by first | rfl | trivial⟩
    case measure=>have:=HM.out;simp[intOf];omega
  ·have hlti:¬ (i:Int)<j:=by omega
   have HB:=mk0 (show bsS d s d.length 0 d.length=i by
    rw[← HE.out]
    rcases f with _ | f
    ·rfl
    ·rw[bsS,if_neg hlt])
   have HR2:=mk0 (show r=(i,decide (i<d.length) && decide (d.getD i ByteArray.empty=s)) by rw[HR.out];unfold findB;rw[HB.out])
   clear HE
   by_cases hil:i<d.length
   ·have hili:(i:Int)<d.length:=by omega
    have hd1:decide ((i:Int)<(d.length:Int))=true:=decide_eq_true hili
    obtain ⟨b,o,rfl,hx⟩:=str_open HC.out (by omega)
    have hx1:=hx i hil
    have HR3:=mk0 (show r=(i,decide (d[i]=s)) by rw[HR2.out,decide_eq_true hil,List.getD_eq_getElem?_getD,List.getElem?_eq_getElem hil];simp)
    clear hx
    generalize d[i]=y at *
    by_cases hy:y=s
    ·subst hy
     have HR4:=mk0 (show r=(i,true) by rw[HR3.out,decide_eq_true rfl])
     have hyy:(y.toList==y.toList)=true:=by simp
     go_wp2
     go_ret2
     exact ⟨by rw[HR4.out];rfl,rfl⟩
    ·have HR4:=mk0 (show r=(i,false) by rw[HR3.out,decide_eq_false hy])
     have hyy:(y.toList==s.toList)=false:=by rw[beq_eq_false_iff_ne];exact fun h=>hy (toList_inj h)
     clear hy
     go_wp2_with fail
     (with_reducible refine (HNS.out y _).mono ?_)
     rintro e w' ⟨rfl,rfl⟩
     go_wp2
     go_ret2
     exact ⟨by rw[HR4.out];rfl,rfl⟩
   ·have hili:¬ (i:Int)<d.length:=by omega
    have hd1:decide ((i:Int)<(d.length:Int))=false:=decide_eq_false hili
    have hd2:decide (i<d.length)=false:=decide_eq_false hil
    have HR3:=mk0 (show r=(i,false) by rw[HR2.out,hd2,Bool.false_and])
    go_wp2
    go_ret2
    exact ⟨by rw[HR3.out];rfl,rfl⟩
set_option maxHeartbeats 3200000 in
set_option maxRecDepth 100000 in
theorem dict_Find (A:Option Addr) (c:Nat) (d:List ByteArray) (s:ByteArray) (w:World) (h:Kd.string.C w A d.length d) (hl:d.length≤1099511627776) :
  Calls Tryz.prog 194 #[.slice A d.length c,.string s] w fun e w'=>e = .returned (.tuple #[.int .i64 (findS d s).1,.bool (findS d s).2])∧w=w':=by
 have HB:=mk0 (slices_BinarySearchS A c d s w h hl)
 obtain ⟨r,hr⟩:∃ r,r=findS d s:=⟨_,rfl⟩
 rw[← hr]
 unfold findS at hr
 generalize findB d s=q at *
 obtain ⟨q1,q2⟩:=q
 clear h
 cases q2
 ·have HR:=mk0 (show r=(0,false) from hr)
  clear hr
  go_enter Tryz.func194,Tryz.ntmps194
  go_wp2_with fail
  refine HB.out.mono ?_
  rintro e w' ⟨rfl,rfl⟩
  go_wp2
  go_ret2
  exact ⟨by rw[HR.out];rfl,rfl⟩
 ·have HR:=mk0 (show r=(q1,true) from hr)
  clear hr
  go_enter Tryz.func194,Tryz.ntmps194
  go_wp2_with fail
  refine HB.out.mono ?_
  rintro e w' ⟨rfl,rfl⟩
  go_wp2
  go_ret2
  exact ⟨by rw[HR.out];rfl,rfl⟩
end Go.Proofs.YtpiobnfakmmpdaaGreat.Lib0
namespace Go.Proofs.YtpiobnfakmmpdaaGreat.Lib0
open Go.RowKit Go.Proofs.YtpiobnfakmmpdaaGreatW.PrintWords Go.ChangeMaps
def idxP {α:Type} (p:α→Bool) (l:List α):Int:=if l.any p then (l.findIdx p:Nat) else -1
theorem idxP_at {α:Type} (p:α→Bool) (l:List α) (k:Nat) (hk:k<l.length) (h1:∀ i (h:i<l.length),i<k→p l[i]=false) (h2:p l[k]=true):idxP p l=(k:Int):=by
 unfold idxP
 rw[if_pos (List.any_eq_true.2 ⟨l[k],List.getElem_mem hk,h2⟩)]
 congr 1
 rw[List.findIdx_eq hk]
 exact ⟨h2,fun j hj=>h1 j (by omega) hj⟩
theorem idxP_no {α:Type} (p:α→Bool) (l:List α) (h:∀ i (h:i<l.length),p l[i]=false):idxP p l = -1:=by
 unfold idxP
 rw[if_neg]
 rw[Bool.not_eq_true,List.any_eq_false]
 intro x hx
 obtain ⟨i,hi,rfl⟩:=List.mem_iff_getElem.1 hx
 rw[h i hi];simp
theorem idxP_ge {α:Type} (p:α→Bool) (l:List α):(0≤idxP p l)=(l.any p=true):=by
 unfold idxP
 split
 ·rename_i h;simp[h]
 ·rename_i h;simp[h]
set_option maxHeartbeats 3200000 in
set_option maxRecDepth 100000 in
theorem idx_str (A:Option Addr) (c:Nat) (l:List ByteArray) (p:ByteArray→Bool) (w:World) (h:Kd.string.C w A l.length l) (hl:l.length≤1099511627776)
  (hp:∀ W (x:ByteArray),x ∈ l→Below w.heap.size w W→Calls Tryz.prog 234 #[.string x] W fun e w'=>e = .returned (.bool (p x))∧Below W.heap.size W w') :
  Calls Tryz.prog 259 #[.slice A l.length c,.func (.func 234) #[] #[]] w fun e w'=>e = .returned (.int .i64 (idxP p l))∧Below w.heap.size w w':=by
 have HC:=mk0 h
 have HP:=mk0 hp
 have hli:(l.length:Int)≤1099511627776:=by omega
 obtain ⟨r,hr⟩:∃ r,r=idxP p l:=⟨_,rfl⟩
 rw[← hr]
 have HR:=mk0 hr
 clear hr h hp
 go_enter Tryz.func259,Tryz.ntmps259
 go_wp2_with fail
 go_loopw[8] (fun v8 wr=>∃ (k:Nat),k≤l.length∧v8 = .int .i64 k∧Aside0 (∀ i (h:i<l.length),i<k→p l[i]=false)∧Aside0 (Below w.heap.size w wr)) (fun i _=>l.length-(intOf i).toNat)
 case atStart=>exact ⟨0,by omega,rfl,⟨fun i h1 h2=>by omega⟩,⟨Below.refl _ _⟩⟩
 case round=>
  obtain ⟨k,hk,rfl,HA,HB⟩:=hrel
  by_cases hlt:k<l.length
  ·have hlti:(k:Int)<l.length:=by omega
   obtain ⟨b,o,rfl,hx⟩:=str_open (Kd.C_below HC.out HB.out) (by omega)
   obtain hx1:=hx k hlt
   have HX:=mk0 (HP.out wr l[k] (List.getElem_mem hlt) HB.out)
   have HT:=mk0 (show p l[k]=true→r=(k:Int) from fun ht=>by rw[HR.out];exact idxP_at p l k hlt HA.out ht)
   have HN:=mk0 (show p l[k]=false→∀ i (h:i<l.length),i<k+1→p l[i]=false from fun hf i h1 h2=>by
    by_cases hik:i=k
    ·subst hik;exact hf
    ·exact HA.out i h1 (by omega))
   clear hx
   generalize l[k]=x at *
   generalize p x=px at *
   go_wp2_with fail
   (with_reducible refine HX.out.mono ?_)
   rintro e w2 ⟨rfl,hb2⟩
   have HB2:=mk0 (HB.out.trans (hb2.mono HB.out.size))
   clear hb2 hx1
   cases px
   ·have HN2:=mk0 (HN.out rfl)
    go_wp2
    go_roundw
    case rel=>exact ⟨k+1,by omega,by go_num,HN2,HB2⟩
    case measure=>simp[intOf];omega
   ·have HT2:=mk0 (HT.out rfl)
    go_wp2
    go_ret
    exact ⟨by rw[HT2.out];rfl,HB2.out⟩
  ·have HT2:=mk0 (show r = -1 by rw[HR.out];exact idxP_no p l (fun i h=>HA.out i h (by omega)))
   have hlti:¬ (k:Int)<l.length:=by omega
   go_wp2
   go_ret
   exact ⟨by rw[HT2.out];rfl,HB.out⟩
set_option maxRecDepth 100000 in
theorem has_str (A:Option Addr) (c:Nat) (l:List ByteArray) (p:ByteArray→Bool) (w:World) (h:Kd.string.C w A l.length l) (hl:l.length≤1099511627776)
  (hp:∀ W (x:ByteArray),x ∈ l→Below w.heap.size w W→Calls Tryz.prog 234 #[.string x] W fun e w'=>e = .returned (.bool (p x))∧Below W.heap.size W w') :
  Calls Tryz.prog 233 #[.slice A l.length c,.func (.func 234) #[] #[]] w fun e w'=>e = .returned (.bool (l.any p))∧Below w.heap.size w w':=by
 have HI:=mk0 (idx_str A c l p w h hl hp)
 have HQ:=mk0 (idxP_ge p l)
 obtain ⟨q,hq⟩:∃ q,q=l.any p:=⟨_,rfl⟩
 rw[← hq] at HQ ⊢
 generalize idxP p l=r at *
 clear h hp hq
 cases q
 ·have hr:¬ (0:Int)≤r:=by have:=HQ.out;simp at this;omega
  go_enter Tryz.func233,Tryz.ntmps233
  go_wp2_with fail
  (with_reducible refine HI.out.mono ?_)
  rintro e w2 ⟨rfl,hb2⟩
  have HB2:=mk0 hb2
  clear hb2
  go_wp2
  go_ret
  exact ⟨by first | rfl | simp[hr],HB2.out⟩
 ·have hr:(0:Int)≤r:=by have:=HQ.out;simp at this;omega
  go_enter Tryz.func233,Tryz.ntmps233
  go_wp2_with fail
  (with_reducible refine HI.out.mono ?_)
  rintro e w2 ⟨rfl,hb2⟩
  have HB2:=mk0 hb2
  clear hb2
  go_wp2
  go_ret
  exact ⟨by first | rfl | simp[hr],HB2.out⟩
set_option maxHeartbeats 3200000 in
set_option maxRecDepth 100000 in
theorem idx_cell (A:Option Addr) (c:Nat) (l:List CellM) (kb:Nat) (p:CellM→Bool) (w:World) (h:kc.C w A l.length l) (hl:l.length≤1099511627776)
  (hp:∀ W (x:CellM),x ∈ l→Below w.heap.size w W→Calls Tryz.prog 101 #[.agg #[.string x.col,.int .i64 x.kind,.int .i64 x.n,.string x.s],.pointer (some ⟨kb,0,none⟩)] W fun e w'=>e = .returned (.bool (p x))∧Below W.heap.size W w') :
  Calls Tryz.prog 152 #[.slice A l.length c,.func (.func 101) #[] #[.pointer (some ⟨kb,0,none⟩)]] w fun e w'=>e = .returned (.int .i64 (idxP p l))∧Below w.heap.size w w':=by
 have HC:=mk0 h
 have HP:=mk0 hp
 have hli:(l.length:Int)≤1099511627776:=by omega
 obtain ⟨r,hr⟩:∃ r,r=idxP p l:=⟨_,rfl⟩
 rw[← hr]
 have HR:=mk0 hr
 clear hr h hp
 go_enter Tryz.func152,Tryz.ntmps152
 go_wp2_with fail
 go_loopw[8] (fun v8 wr=>∃ (k:Nat),k≤l.length∧v8 = .int .i64 k∧Aside0 (∀ i (h:i<l.length),i<k→p l[i]=false)∧Aside0 (Below w.heap.size w wr)) (fun i _=>l.length-(intOf i).toNat)
 case atStart=>exact ⟨0,by omega,rfl,⟨fun i h1 h2=>by omega⟩,⟨Below.refl _ _⟩⟩
 case round=>
  obtain ⟨k,hk,rfl,HA,HB⟩:=hrel
  by_cases hlt:k<l.length
  ·have hlti:(k:Int)<l.length:=by omega
   obtain ⟨b,o,rfl,hx⟩:=kc_open (Kd.C_below HC.out HB.out) (by omega)
   obtain ⟨hx1,hx2,hx3,hx4⟩:=hx k hlt
   have HX:=mk0 (HP.out wr l[k] (List.getElem_mem hlt) HB.out)
   have HT:=mk0 (show p l[k]=true→r=(k:Int) from fun ht=>by rw[HR.out];exact idxP_at p l k hlt HA.out ht)
   have HN:=mk0 (show p l[k]=false→∀ i (h:i<l.length),i<k+1→p l[i]=false from fun hf i h1 h2=>by
    by_cases hik:i=k
    ·subst hik;exact hf
    ·exact HA.out i h1 (by omega))
   clear hx
   generalize l[k]=x at *
   generalize p x=px at *
   go_wp2_with fail
   (with_reducible refine HX.out.mono ?_)
   rintro e w2 ⟨rfl,hb2⟩
   have HB2:=mk0 (HB.out.trans (hb2.mono HB.out.size))
   clear hb2 hx1 hx2 hx3 hx4
   cases px
   ·have HN2:=mk0 (HN.out rfl)
    go_wp2
    go_roundw
    case rel=>exact ⟨k+1,by omega,by go_num,HN2,HB2⟩
    case measure=>simp[intOf];omega
   ·have HT2:=mk0 (HT.out rfl)
    go_wp2
    go_ret
    exact ⟨by rw[HT2.out];rfl,HB2.out⟩
  ·have HT2:=mk0 (show r = -1 by rw[HR.out];exact idxP_no p l (fun i h=>HA.out i h (by omega)))
   have hlti:¬ (k:Int)<l.length:=by omega
   go_wp2
   go_ret
   exact ⟨by rw[HT2.out];rfl,HB.out⟩
set_option maxRecDepth 100000 in
theorem has_cell (A:Option Addr) (c:Nat) (l:List CellM) (kb:Nat) (p:CellM→Bool) (w:World) (h:kc.C w A l.length l) (hl:l.length≤1099511627776)
  (hp:∀ W (x:CellM),x ∈ l→Below w.heap.size w W→Calls Tryz.prog 101 #[.agg #[.string x.col,.int .i64 x.kind,.int .i64 x.n,.string x.s],.pointer (some ⟨kb,0,none⟩)] W fun e w'=>e = .returned (.bool (p x))∧Below W.heap.size W w') :
  Calls Tryz.prog 100 #[.slice A l.length c,.func (.func 101) #[] #[.pointer (some ⟨kb,0,none⟩)]] w fun e w'=>e = .returned (.bool (l.any p))∧Below w.heap.size w w':=by
 have HI:=mk0 (idx_cell A c l kb p w h hl hp)
 have HQ:=mk0 (idxP_ge p l)
 obtain ⟨q,hq⟩:∃ q,q=l.any p:=⟨_,rfl⟩
 rw[← hq] at HQ ⊢
 generalize idxP p l=r at *
 clear h hp hq
 cases q
 ·have hr:¬ (0:Int)≤r:=by have:=HQ.out;simp at this;omega
  go_enter Tryz.func100,Tryz.ntmps100
  go_wp2_with fail
  (with_reducible refine HI.out.mono ?_)
  rintro e w2 ⟨rfl,hb2⟩
  have HB2:=mk0 hb2
  clear hb2
  go_wp2
  go_ret
  exact ⟨by first | rfl | simp[hr],HB2.out⟩
 ·have hr:(0:Int)≤r:=by have:=HQ.out;simp at this;omega
  go_enter Tryz.func100,Tryz.ntmps100
  go_wp2_with fail
  (with_reducible refine HI.out.mono ?_)
  rintro e w2 ⟨rfl,hb2⟩
  have HB2:=mk0 hb2
  clear hb2
  go_wp2
  go_ret
  exact ⟨by first | rfl | simp[hr],HB2.out⟩
end Go.Proofs.YtpiobnfakmmpdaaGreat.Lib0

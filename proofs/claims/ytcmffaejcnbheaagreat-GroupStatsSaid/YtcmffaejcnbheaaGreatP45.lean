import Derived.Test.YtcmffaejcnbheaaGreatP26
import Derived.Test.YtcmffaejcnbheaaGreatP40
set_option linter.unusedVariables false
set_option linter.unusedSimpArgs false
namespace Go.Proofs.YtcmffaejcnbheaaGreat.Lib0
open Go.RowKit Go.Proofs.YtcmffaejcnbheaaGreatW.PrintWords Go.ChangeMaps
def ZoI (kind:Int) (z:ZoneM):Prop:=(kind=1→z.minS=⟨#[]⟩∧z.maxS=⟨#[]⟩)∧(kind=2→z.minN=0∧z.maxN=0)
theorem minT_self (a:ByteArray):minT a a=a:=by unfold minT;split<;>rfl
theorem maxT_self (a:ByteArray):maxT a a=a:=by unfold maxT;split<;>rfl
theorem minT_if (a b:ByteArray):minT a b=if lessS b a=true then b else a:=by
 unfold minT
 by_cases h:lessS b a=true
 ·rw[if_pos h,if_neg]
  rw[Bool.or_eq_true,beq_iff_eq]
  rintro (g | g)
  ·have:=lessS_trans h g
   rw[lessS_irrefl] at this
   cases this
  ·have:a=b:=ByteArray.ext (Array.ext' (by simpa [ByteArray.toList_eq] using g))
   subst this
   rw[lessS_irrefl] at h
   cases h
 ·rw[if_neg h]
  by_cases g:lessS a b=true
  ·rw[if_pos (by simp[g])]
  ·have:=lessS_tri (a:=a) (b:=b) (by simpa using g) (by simpa using h)
   subst this
   rw[if_pos (by simp)]
theorem gts_true {a b:ByteArray} (h:lessS a b=true):Op.bytesLess b.toList a.toList=false∧(b.toList==a.toList)=false:=by
 have h1:lessS b a=false:=by
  cases g:lessS b a
  ·rfl
  ·have:=lessS_trans h g
   rw[lessS_irrefl] at this
   cases this
 refine ⟨h1,?_⟩
 rw[beq_eq_false_iff_ne]
 intro e
 have h2:lessS a b=Op.bytesLess a.toList b.toList:=rfl
 rw[← e] at h2
 have h3:=lessS_irrefl b
 have h4:lessS b b=Op.bytesLess b.toList b.toList:=rfl
 rw[← h4,h3,h] at h2
 cases h2
theorem gts_false {a b:ByteArray} (h:lessS a b=false):Op.bytesLess b.toList a.toList=true∨(Op.bytesLess b.toList a.toList=false∧(b.toList==a.toList)=true):=by
 cases g:lessS b a
 ·have:=lessS_tri h g
  subst this
  exact .inr ⟨g,by simp⟩
 ·exact .inl g
theorem maxT_if (a b:ByteArray):maxT a b=if lessS a b=true then b else a:=by
 unfold maxT
 cases lessS a b<;>simp
theorem zn1t (z:ZoneM) (h:ZoI 1 z) (n:Int):z.widen ⟨1,0,0,n,n,⟨#[]⟩,⟨#[]⟩⟩ true=⟨z.kind,z.rows,z.nulls,n,n,⟨#[]⟩,⟨#[]⟩⟩:=by
 simp only[ZoneM.widen,ZoneM.widen1,if_true,Int.min_self,Int.max_self,minT_self,maxT_self]
theorem zn1f (z:ZoneM) (h:ZoI 1 z) (n:Int):z.widen ⟨1,0,0,n,n,⟨#[]⟩,⟨#[]⟩⟩ false=⟨z.kind,z.rows,z.nulls,if n<z.minN then n else z.minN,if z.maxN<n then n else z.maxN,⟨#[]⟩,⟨#[]⟩⟩:=by
 obtain ⟨h1,h2⟩:=h.1 rfl
 have e1:min z.minN n=if n<z.minN then n else z.minN:=by split<;>omega
 have e2:max z.maxN n=if z.maxN<n then n else z.maxN:=by split<;>omega
 simp only[ZoneM.widen,ZoneM.widen1,Bool.false_eq_true,if_false,h1,h2,minT_self,maxT_self,e1,e2]
theorem zn2t (z:ZoneM) (h:ZoI 2 z) (s:ByteArray):z.widen ⟨2,0,0,0,0,s,s⟩ true=⟨z.kind,z.rows,z.nulls,0,0,s,s⟩:=by
 simp only[ZoneM.widen,ZoneM.widen1,if_true,Int.min_self,Int.max_self,minT_self,maxT_self]
theorem zn2f (z:ZoneM) (h:ZoI 2 z) (s:ByteArray):z.widen ⟨2,0,0,0,0,s,s⟩ false=⟨z.kind,z.rows,z.nulls,0,0,if lessS s z.minS=true then s else z.minS,if lessS z.maxS s=true then s else z.maxS⟩:=by
 obtain ⟨h1,h2⟩:=h.2 rfl
 simp only[ZoneM.widen,ZoneM.widen1,Bool.false_eq_true,if_false,h1,h2,Int.min_self,Int.max_self,minT_if,maxT_if]
set_option maxHeartbeats 1600000 in
set_option maxRecDepth 100000 in
theorem ref_Zone (kind:Int) (hkind:kind=1∨kind=2) (A:Option Addr) (c:Nat) (l:List CellM) (w:World) (h:kc.C w A l.length l) (hl:l.length≤65536) :
  Calls Tryz.prog 50 #[.int .i64 kind,.slice A l.length c] w fun e w'=>e = .returned (.agg (zoneB kind l).cells.toArray)∧Below w.heap.size w w':=by
 have HC:=mk0 h
 have HL:=mk0 hl
 clear h
 have hl2:(l.length:Int)≤65536:=by omega
 go_enter Tryz.func50,Tryz.ntmps50
 go_wp2_with fail
 clear hl2
 have hn0:=heap_alloc_new w (.cells #[.int .i64 0,.int .i64 0,.int .i64 0,.int .i64 0,.int .i64 0,.string ⟨#[]⟩,.string ⟨#[]⟩] 63)
 have HB0:=below_alloc (Below.refl w.heap.size w) (.cells #[.int .i64 0,.int .i64 0,.int .i64 0,.int .i64 0,.int .i64 0,.string ⟨#[]⟩,.string ⟨#[]⟩] 63)
 have hsz:(w.alloc (.cells #[.int .i64 0,.int .i64 0,.int .i64 0,.int .i64 0,.int .i64 0,.string ⟨#[]⟩,.string ⟨#[]⟩] 63)).heap.size=w.heap.size+1:=by simp
 generalize w.alloc (.cells #[.int .i64 0,.int .i64 0,.int .i64 0,.int .i64 0,.int .i64 0,.string ⟨#[]⟩,.string ⟨#[]⟩] 63)=w0 at *
 have hn1:=heap_alloc_new w0 (.cells #[.int .i64 kind,.int .i64 l.length,.int .i64 0,.int .i64 0,.int .i64 0,.string ⟨#[]⟩,.string ⟨#[]⟩] 63)
 have hr1:=(heap_alloc_old w0 (.cells #[.int .i64 kind,.int .i64 l.length,.int .i64 0,.int .i64 0,.int .i64 0,.string ⟨#[]⟩,.string ⟨#[]⟩] 63) (by omega:w.heap.size<w0.heap.size)).trans hn0
 have HB1:=HB0.trans ((below_alloc (Below.refl w0.heap.size w0) (.cells #[.int .i64 kind,.int .i64 l.length,.int .i64 0,.int .i64 0,.int .i64 0,.string ⟨#[]⟩,.string ⟨#[]⟩] 63)).mono HB0.size)
 have hsz1:(w0.alloc (.cells #[.int .i64 kind,.int .i64 l.length,.int .i64 0,.int .i64 0,.int .i64 0,.string ⟨#[]⟩,.string ⟨#[]⟩] 63)).heap.size=w.heap.size+2:=by simp[hsz]
 generalize w0.alloc (.cells #[.int .i64 kind,.int .i64 l.length,.int .i64 0,.int .i64 0,.int .i64 0,.string ⟨#[]⟩,.string ⟨#[]⟩] 63)=w1 at *
 rw[hsz] at hn1
 have HR1:=mk0 (And.intro hr1 (And.intro HB1 hsz1))
 have HN1:=mk0 hn1
 clear hn0 HB0 hsz hn1 hr1 HB1 hsz1 hl
 go_loopw[6,7] (fun v6 v16 wr=>∃ (k:Nat) (z:ZoneM) (fst:Bool),k≤l.length∧v6 = .bool fst∧v16 = .int .i64 k∧Aside0 ((z,fst)=zoneF kind l.length (l.take k))∧Aside0 (wr.heap[w.heap.size+1]?=some (.cells z.cells.toArray 63))∧Aside0 (Below (w.heap.size+1) w1 wr)∧Aside0 (ZoI kind z)) (fun _ i _=>l.length-(intOf i).toNat)
 case atStart=>exact ⟨0,⟨kind,l.length,0,0,0,⟨#[]⟩,⟨#[]⟩⟩,true,by omega,rfl,rfl,⟨rfl⟩,HN1,⟨Below.refl _ _⟩,⟨⟨fun _=>⟨rfl,rfl⟩,fun _=>⟨rfl,rfl⟩⟩⟩⟩
 case round=>
  clear HN1
  obtain ⟨k,z,fst,hk,rfl,rfl,HZ,HZH,HB,HI⟩:=hrel
  have hl3:=HL.out
  by_cases hlt:k<l.length
  ·have hlt2:(k:Int)<l.length:=by omega
   have HBA:=mk0 (show Below w.heap.size w wr from HR1.out.2.1.trans (HB.out.mono (Nat.le_succ _)))
   obtain ⟨b,o,rfl,hx⟩:=kc_open (Kd.C_below HC.out HBA.out) (by omega)
   obtain ⟨x0,x1,x2,x3⟩:=hx k hlt
   clear hx
   obtain ⟨y,hy⟩:∃ y,y=l[k]:=⟨_,rfl⟩
   rw[← hy] at x0 x1 x2 x3
   have HNX:=mk0 (show zoneF kind l.length (l.take (k+1))=zoneStep kind (z,fst) y by rw[zoneF_next kind l.length l k hlt,← HZ.out,hy])
   have hnb:=zoneF_bound kind l.length (l.take k)
   rw[← HZ.out,List.length_take] at hnb
   dsimp only at hnb
   have hg2:w.heap.size+1<wr.heap.size:=(Array.getElem?_eq_some_iff.1 HZH.out).1
   clear hy
   obtain ⟨yc,yk,yn,ys⟩:=y
   obtain ⟨zk,zr,zn,za,zb,zs,zt⟩:=z
   unfold ZoneM.cells at *
   dsimp only at *
   have hw1:wrap64 (zn+1)=zn+1:=by unfold wrap64;omega
   have hne:w.heap.size+1≠wr.heap.size:=by omega
   have hne2:wr.heap.size≠w.heap.size+1:=by omega
   have z2:=cell_of_heap (i:=2) HZH.out rfl
   have z3:=cell_of_heap (i:=3) HZH.out rfl
   have z4:=cell_of_heap (i:=4) HZH.out rfl
   have z5:=cell_of_heap (i:=5) HZH.out rfl
   have z6:=cell_of_heap (i:=6) HZH.out rfl
   have q2:=frozen_of_heap (i:=2) HZH.out
   have q3:=frozen_of_heap (i:=3) HZH.out
   have q4:=frozen_of_heap (i:=4) HZH.out
   have q5:=frozen_of_heap (i:=5) HZH.out
   have q6:=frozen_of_heap (i:=6) HZH.out
   clear hnb
   rcases hkind with rfl | rfl
   ·by_cases hkd:yk=1
    ·subst hkd
     have HNW:=mk0 (show zoneF 1 l.length (l.take (k+1))=(ZoneM.widen ⟨zk,zr,zn,za,zb,zs,zt⟩ ⟨1,0,0,yn,yn,⟨#[]⟩,⟨#[]⟩⟩ fst,false) by rw[HNX.out];rfl)
     cases fst
     ·have HNV:=mk0 (HNW.out.trans (by rw[zn1f _ HI.out]))
      dsimp only at HNV
      clear HNW HNX
      obtain ⟨rfl,rfl⟩:zs=⟨#[]⟩∧zt=⟨#[]⟩:=HI.out.1 rfl
      by_cases h1:yn<za
      ·by_cases h2:zb<yn
       ·have HS5:AtZ (w.heap.size+1) (w.heap.size+1) 63 wr ((wr.setCell ⟨w.heap.size+1,3,none⟩ (.int .i64 yn)).setCell ⟨w.heap.size+1,4,none⟩ (.int .i64 yn)) #[.int .i64 zk,.int .i64 zr,.int .i64 zn,.int .i64 yn,.int .i64 yn,.string ⟨#[]⟩,.string ⟨#[]⟩]:=(((AtZ.start (base:=w.heap.size+1) HZH.out).set (Nat.le_refl _) 3 (.int .i64 yn)).set (Nat.le_refl _) 4 (.int .i64 yn))
        have hlt5:=(Array.getElem?_eq_some_iff.1 HS5.1).1
        have HZ5:=mk0 ((heap_alloc_old ((wr.setCell ⟨w.heap.size+1,3,none⟩ (.int .i64 yn)).setCell ⟨w.heap.size+1,4,none⟩ (.int .i64 yn)) (.cells #[.string yc,.int .i64 1,.int .i64 yn,.string ys] 78) hlt5).trans HS5.1)
        have HB5:=mk0 (HB.out.trans (HS5.2.2.trans ((below_alloc (Below.refl _ ((wr.setCell ⟨w.heap.size+1,3,none⟩ (.int .i64 yn)).setCell ⟨w.heap.size+1,4,none⟩ (.int .i64 yn))) (.cells #[.string yc,.int .i64 1,.int .i64 yn,.string ys] 78)).mono (Nat.le_of_lt hlt5))))
        have HE5:=mk0 (show _=zoneF 1 l.length (l.take (k+1)) by rw[HNV.out,if_pos h1,if_pos h2])
        clear HNV
        have HI5:Aside0 (ZoI 1 ⟨zk,zr,zn,yn,yn,⟨#[]⟩,⟨#[]⟩⟩):=⟨⟨fun _=>⟨rfl,rfl⟩,fun h=>absurd h (by decide)⟩⟩
        clear HS5 hlt5 HZH HB
        go_wp2
        go_roundw
        case rel=>exact ⟨k+1,⟨zk,zr,zn,yn,yn,⟨#[]⟩,⟨#[]⟩⟩,false,by omega,rfl,by go_num,HE5,HZ5,HB5,HI5⟩
        case measure=>simp[intOf];omega
       ·have HS5:AtZ (w.heap.size+1) (w.heap.size+1) 63 wr (wr.setCell ⟨w.heap.size+1,3,none⟩ (.int .i64 yn)) #[.int .i64 zk,.int .i64 zr,.int .i64 zn,.int .i64 yn,.int .i64 zb,.string ⟨#[]⟩,.string ⟨#[]⟩]:=((AtZ.start (base:=w.heap.size+1) HZH.out).set (Nat.le_refl _) 3 (.int .i64 yn))
        have hlt5:=(Array.getElem?_eq_some_iff.1 HS5.1).1
        have HZ5:=mk0 ((heap_alloc_old (wr.setCell ⟨w.heap.size+1,3,none⟩ (.int .i64 yn)) (.cells #[.string yc,.int .i64 1,.int .i64 yn,.string ys] 78) hlt5).trans HS5.1)
        have HB5:=mk0 (HB.out.trans (HS5.2.2.trans ((below_alloc (Below.refl _ (wr.setCell ⟨w.heap.size+1,3,none⟩ (.int .i64 yn))) (.cells #[.string yc,.int .i64 1,.int .i64 yn,.string ys] 78)).mono (Nat.le_of_lt hlt5))))
        have HE5:=mk0 (show _=zoneF 1 l.length (l.take (k+1)) by rw[HNV.out,if_pos h1,if_neg h2])
        clear HNV
        have HI5:Aside0 (ZoI 1 ⟨zk,zr,zn,yn,zb,⟨#[]⟩,⟨#[]⟩⟩):=⟨⟨fun _=>⟨rfl,rfl⟩,fun h=>absurd h (by decide)⟩⟩
        clear HS5 hlt5 HZH HB
        go_wp2
        go_roundw
        case rel=>exact ⟨k+1,⟨zk,zr,zn,yn,zb,⟨#[]⟩,⟨#[]⟩⟩,false,by omega,rfl,by go_num,HE5,HZ5,HB5,HI5⟩
        case measure=>simp[intOf];omega
      ·by_cases h2:zb<yn
       ·have HS5:AtZ (w.heap.size+1) (w.heap.size+1) 63 wr (wr.setCell ⟨w.heap.size+1,4,none⟩ (.int .i64 yn)) #[.int .i64 zk,.int .i64 zr,.int .i64 zn,.int .i64 za,.int .i64 yn,.string ⟨#[]⟩,.string ⟨#[]⟩]:=((AtZ.start (base:=w.heap.size+1) HZH.out).set (Nat.le_refl _) 4 (.int .i64 yn))
        have hlt5:=(Array.getElem?_eq_some_iff.1 HS5.1).1
        have HZ5:=mk0 ((heap_alloc_old (wr.setCell ⟨w.heap.size+1,4,none⟩ (.int .i64 yn)) (.cells #[.string yc,.int .i64 1,.int .i64 yn,.string ys] 78) hlt5).trans HS5.1)
        have HB5:=mk0 (HB.out.trans (HS5.2.2.trans ((below_alloc (Below.refl _ (wr.setCell ⟨w.heap.size+1,4,none⟩ (.int .i64 yn))) (.cells #[.string yc,.int .i64 1,.int .i64 yn,.string ys] 78)).mono (Nat.le_of_lt hlt5))))
        have HE5:=mk0 (show _=zoneF 1 l.length (l.take (k+1)) by rw[HNV.out,if_neg h1,if_pos h2])
        clear HNV
        have HI5:Aside0 (ZoI 1 ⟨zk,zr,zn,za,yn,⟨#[]⟩,⟨#[]⟩⟩):=⟨⟨fun _=>⟨rfl,rfl⟩,fun h=>absurd h (by decide)⟩⟩
        clear HS5 hlt5 HZH HB
        go_wp2
        go_roundw
        case rel=>exact ⟨k+1,⟨zk,zr,zn,za,yn,⟨#[]⟩,⟨#[]⟩⟩,false,by omega,rfl,by go_num,HE5,HZ5,HB5,HI5⟩
        case measure=>simp[intOf];omega
       ·have HS5:AtZ (w.heap.size+1) (w.heap.size+1) 63 wr wr #[.int .i64 zk,.int .i64 zr,.int .i64 zn,.int .i64 za,.int .i64 zb,.string ⟨#[]⟩,.string ⟨#[]⟩]:=(AtZ.start (base:=w.heap.size+1) HZH.out)
        have hlt5:=(Array.getElem?_eq_some_iff.1 HS5.1).1
        have HZ5:=mk0 ((heap_alloc_old wr (.cells #[.string yc,.int .i64 1,.int .i64 yn,.string ys] 78) hlt5).trans HS5.1)
        have HB5:=mk0 (HB.out.trans (HS5.2.2.trans ((below_alloc (Below.refl _ wr) (.cells #[.string yc,.int .i64 1,.int .i64 yn,.string ys] 78)).mono (Nat.le_of_lt hlt5))))
        have HE5:=mk0 (show _=zoneF 1 l.length (l.take (k+1)) by rw[HNV.out,if_neg h1,if_neg h2])
        clear HNV
        have HI5:Aside0 (ZoI 1 ⟨zk,zr,zn,za,zb,⟨#[]⟩,⟨#[]⟩⟩):=⟨⟨fun _=>⟨rfl,rfl⟩,fun h=>absurd h (by decide)⟩⟩
        clear HS5 hlt5 HZH HB
        go_wp2
        go_roundw
        case rel=>exact ⟨k+1,⟨zk,zr,zn,za,zb,⟨#[]⟩,⟨#[]⟩⟩,false,by omega,rfl,by go_num,HE5,HZ5,HB5,HI5⟩
        case measure=>simp[intOf];omega
     ·have HNV:=mk0 (HNW.out.trans (show _=(⟨zk,zr,zn,yn,yn,⟨#[]⟩,⟨#[]⟩⟩,false) by rw[zn1t _ HI.out]))
      obtain ⟨rfl,rfl⟩:zs=⟨#[]⟩∧zt=⟨#[]⟩:=HI.out.1 rfl
      have HS5:AtZ (w.heap.size+1) (w.heap.size+1) 63 wr ((wr.setCell ⟨w.heap.size+1,3,none⟩ (.int .i64 yn)).setCell ⟨w.heap.size+1,4,none⟩ (.int .i64 yn)) #[.int .i64 zk,.int .i64 zr,.int .i64 zn,.int .i64 yn,.int .i64 yn,.string ⟨#[]⟩,.string ⟨#[]⟩]:=(((AtZ.start (base:=w.heap.size+1) HZH.out).set (Nat.le_refl _) 3 (.int .i64 yn)).set (Nat.le_refl _) 4 (.int .i64 yn))
      have hlt5:=(Array.getElem?_eq_some_iff.1 HS5.1).1
      have HZ5:=mk0 ((heap_alloc_old ((wr.setCell ⟨w.heap.size+1,3,none⟩ (.int .i64 yn)).setCell ⟨w.heap.size+1,4,none⟩ (.int .i64 yn)) (.cells #[.string yc,.int .i64 1,.int .i64 yn,.string ys] 78) hlt5).trans HS5.1)
      have HB5:=mk0 (HB.out.trans (HS5.2.2.trans ((below_alloc (Below.refl _ ((wr.setCell ⟨w.heap.size+1,3,none⟩ (.int .i64 yn)).setCell ⟨w.heap.size+1,4,none⟩ (.int .i64 yn))) (.cells #[.string yc,.int .i64 1,.int .i64 yn,.string ys] 78)).mono (Nat.le_of_lt hlt5))))
      have HE5:=mk0 HNV.out.symm
      clear HNV
      have HI5:Aside0 (ZoI 1 ⟨zk,zr,zn,yn,yn,⟨#[]⟩,⟨#[]⟩⟩):=⟨⟨fun _=>⟨rfl,rfl⟩,fun h=>absurd h (by decide)⟩⟩
      clear HS5 hlt5 HZH HB
      go_wp2
      go_roundw
      case rel=>exact ⟨k+1,⟨zk,zr,zn,yn,yn,⟨#[]⟩,⟨#[]⟩⟩,false,by omega,rfl,by go_num,HE5,HZ5,HB5,HI5⟩
      case measure=>simp[intOf];omega
    ·have HNX:=mk0 (show zoneF 1 l.length (l.take (k+1))=(⟨zk,zr,zn+1,za,zb,zs,zt⟩,fst) by rw[HNX.out];unfold zoneStep;rw[if_pos (.inl hkd)])
     have k1:(yk==1)=false:=by rw[beq_eq_false_iff_ne];exact hkd
     have HS5:AtZ (w.heap.size+1) (w.heap.size+1) 63 wr (wr.setCell ⟨w.heap.size+1,2,none⟩ (.int .i64 (zn+1))) #[.int .i64 zk,.int .i64 zr,.int .i64 (zn+1),.int .i64 za,.int .i64 zb,.string zs,.string zt]:=((AtZ.start (base:=w.heap.size+1) HZH.out).set (Nat.le_refl _) 2 (.int .i64 (zn+1)))
     have hlt5:=(Array.getElem?_eq_some_iff.1 HS5.1).1
     have HZ5:=mk0 ((heap_alloc_old (wr.setCell ⟨w.heap.size+1,2,none⟩ (.int .i64 (zn+1))) (.cells #[.string yc,.int .i64 yk,.int .i64 yn,.string ys] 78) hlt5).trans HS5.1)
     have HB5:=mk0 (HB.out.trans (HS5.2.2.trans ((below_alloc (Below.refl _ (wr.setCell ⟨w.heap.size+1,2,none⟩ (.int .i64 (zn+1)))) (.cells #[.string yc,.int .i64 yk,.int .i64 yn,.string ys] 78)).mono (Nat.le_of_lt hlt5))))
     have HE5:=mk0 HNX.out.symm
     clear HNX
     have HI5:Aside0 (ZoI 1 ⟨zk,zr,(zn+1),za,zb,zs,zt⟩):=HI
     clear HS5 hlt5 HZH HB
     go_wp2
     go_roundw
     case rel=>exact ⟨k+1,⟨zk,zr,(zn+1),za,zb,zs,zt⟩,fst,by omega,rfl,by go_num,HE5,HZ5,HB5,HI5⟩
     case measure=>simp[intOf];omega
   ·by_cases hkd:yk=2
    ·subst hkd
     have HNW:=mk0 (show zoneF 2 l.length (l.take (k+1))=(ZoneM.widen ⟨zk,zr,zn,za,zb,zs,zt⟩ ⟨2,0,0,0,0,ys,ys⟩ fst,false) by rw[HNX.out];rfl)
     cases fst
     ·have HNV:=mk0 (HNW.out.trans (by rw[zn2f _ HI.out]))
      dsimp only at HNV
      clear HNW HNX
      obtain ⟨rfl,rfl⟩:za=0∧zb=0:=HI.out.2 rfl
      by_cases h1:lessS ys zs=true
      ·by_cases h2:lessS zt ys=true
       ·have HS5:AtZ (w.heap.size+1) (w.heap.size+1) 63 wr ((wr.setCell ⟨w.heap.size+1,5,none⟩ (.string ys)).setCell ⟨w.heap.size+1,6,none⟩ (.string ys)) #[.int .i64 zk,.int .i64 zr,.int .i64 zn,.int .i64 0,.int .i64 0,.string ys,.string ys]:=(((AtZ.start (base:=w.heap.size+1) HZH.out).set (Nat.le_refl _) 5 (.string ys)).set (Nat.le_refl _) 6 (.string ys))
        have hlt5:=(Array.getElem?_eq_some_iff.1 HS5.1).1
        have HZ5:=mk0 ((heap_alloc_old ((wr.setCell ⟨w.heap.size+1,5,none⟩ (.string ys)).setCell ⟨w.heap.size+1,6,none⟩ (.string ys)) (.cells #[.string yc,.int .i64 2,.int .i64 yn,.string ys] 78) hlt5).trans HS5.1)
        have HB5:=mk0 (HB.out.trans (HS5.2.2.trans ((below_alloc (Below.refl _ ((wr.setCell ⟨w.heap.size+1,5,none⟩ (.string ys)).setCell ⟨w.heap.size+1,6,none⟩ (.string ys))) (.cells #[.string yc,.int .i64 2,.int .i64 yn,.string ys] 78)).mono (Nat.le_of_lt hlt5))))
        have n1:Op.bytesLess ys.toList zs.toList=true:=h1
        obtain ⟨m1,m2⟩:=gts_true h2
        have HE5:=mk0 (show _=zoneF 2 l.length (l.take (k+1)) by rw[HNV.out,if_pos h1,if_pos h2])
        clear HNV
        have HI5:Aside0 (ZoI 2 ⟨zk,zr,zn,0,0,ys,ys⟩):=⟨⟨fun h=>absurd h (by decide),fun _=>⟨rfl,rfl⟩⟩⟩
        clear HS5 hlt5 HZH HB
        go_wp2
        go_roundw
        case rel=>exact ⟨k+1,⟨zk,zr,zn,0,0,ys,ys⟩,false,by omega,rfl,by go_num,HE5,HZ5,HB5,HI5⟩
        case measure=>simp[intOf];omega
       ·rcases gts_false (Bool.eq_false_iff.2 h2) with m1 | ⟨m1,m2⟩
        ·have HS5:AtZ (w.heap.size+1) (w.heap.size+1) 63 wr (wr.setCell ⟨w.heap.size+1,5,none⟩ (.string ys)) #[.int .i64 zk,.int .i64 zr,.int .i64 zn,.int .i64 0,.int .i64 0,.string ys,.string zt]:=((AtZ.start (base:=w.heap.size+1) HZH.out).set (Nat.le_refl _) 5 (.string ys))
         have hlt5:=(Array.getElem?_eq_some_iff.1 HS5.1).1
         have HZ5:=mk0 ((heap_alloc_old (wr.setCell ⟨w.heap.size+1,5,none⟩ (.string ys)) (.cells #[.string yc,.int .i64 2,.int .i64 yn,.string ys] 78) hlt5).trans HS5.1)
         have HB5:=mk0 (HB.out.trans (HS5.2.2.trans ((below_alloc (Below.refl _ (wr.setCell ⟨w.heap.size+1,5,none⟩ (.string ys))) (.cells #[.string yc,.int .i64 2,.int .i64 yn,.string ys] 78)).mono (Nat.le_of_lt hlt5))))
         have n1:Op.bytesLess ys.toList zs.toList=true:=h1
         have h2:lessS zt ys=false:=by simpa using h2
         have HE5:=mk0 (show _=zoneF 2 l.length (l.take (k+1)) by rw[HNV.out,if_pos h1,if_neg (by rw[h2];decide)])
         clear HNV
         have HI5:Aside0 (ZoI 2 ⟨zk,zr,zn,0,0,ys,zt⟩):=⟨⟨fun h=>absurd h (by decide),fun _=>⟨rfl,rfl⟩⟩⟩
         clear HS5 hlt5 HZH HB
         go_wp2
         go_roundw
         case rel=>exact ⟨k+1,⟨zk,zr,zn,0,0,ys,zt⟩,false,by omega,rfl,by go_num,HE5,HZ5,HB5,HI5⟩
         case measure=>simp[intOf];omega
        ·have HS5:AtZ (w.heap.size+1) (w.heap.size+1) 63 wr (wr.setCell ⟨w.heap.size+1,5,none⟩ (.string ys)) #[.int .i64 zk,.int .i64 zr,.int .i64 zn,.int .i64 0,.int .i64 0,.string ys,.string zt]:=((AtZ.start (base:=w.heap.size+1) HZH.out).set (Nat.le_refl _) 5 (.string ys))
         have hlt5:=(Array.getElem?_eq_some_iff.1 HS5.1).1
         have HZ5:=mk0 ((heap_alloc_old (wr.setCell ⟨w.heap.size+1,5,none⟩ (.string ys)) (.cells #[.string yc,.int .i64 2,.int .i64 yn,.string ys] 78) hlt5).trans HS5.1)
         have HB5:=mk0 (HB.out.trans (HS5.2.2.trans ((below_alloc (Below.refl _ (wr.setCell ⟨w.heap.size+1,5,none⟩ (.string ys))) (.cells #[.string yc,.int .i64 2,.int .i64 yn,.string ys] 78)).mono (Nat.le_of_lt hlt5))))
         have n1:Op.bytesLess ys.toList zs.toList=true:=h1
         have h2:lessS zt ys=false:=by simpa using h2
         have HE5:=mk0 (show _=zoneF 2 l.length (l.take (k+1)) by rw[HNV.out,if_pos h1,if_neg (by rw[h2];decide)])
         clear HNV
         have HI5:Aside0 (ZoI 2 ⟨zk,zr,zn,0,0,ys,zt⟩):=⟨⟨fun h=>absurd h (by decide),fun _=>⟨rfl,rfl⟩⟩⟩
         clear HS5 hlt5 HZH HB
         go_wp2
         go_roundw
         case rel=>exact ⟨k+1,⟨zk,zr,zn,0,0,ys,zt⟩,false,by omega,rfl,by go_num,HE5,HZ5,HB5,HI5⟩
         case measure=>simp[intOf];omega
      ·by_cases h2:lessS zt ys=true
       ·have HS5:AtZ (w.heap.size+1) (w.heap.size+1) 63 wr (wr.setCell ⟨w.heap.size+1,6,none⟩ (.string ys)) #[.int .i64 zk,.int .i64 zr,.int .i64 zn,.int .i64 0,.int .i64 0,.string zs,.string ys]:=((AtZ.start (base:=w.heap.size+1) HZH.out).set (Nat.le_refl _) 6 (.string ys))
        have hlt5:=(Array.getElem?_eq_some_iff.1 HS5.1).1
        have HZ5:=mk0 ((heap_alloc_old (wr.setCell ⟨w.heap.size+1,6,none⟩ (.string ys)) (.cells #[.string yc,.int .i64 2,.int .i64 yn,.string ys] 78) hlt5).trans HS5.1)
        have HB5:=mk0 (HB.out.trans (HS5.2.2.trans ((below_alloc (Below.refl _ (wr.setCell ⟨w.heap.size+1,6,none⟩ (.string ys))) (.cells #[.string yc,.int .i64 2,.int .i64 yn,.string ys] 78)).mono (Nat.le_of_lt hlt5))))
        have n1:Op.bytesLess ys.toList zs.toList=false:=by simpa [lessS] using h1
        obtain ⟨m1,m2⟩:=gts_true h2
        have h1:lessS ys zs=false:=by simpa using h1
        have HE5:=mk0 (show _=zoneF 2 l.length (l.take (k+1)) by rw[HNV.out,if_neg (by rw[h1];decide),if_pos h2])
        clear HNV
        have HI5:Aside0 (ZoI 2 ⟨zk,zr,zn,0,0,zs,ys⟩):=⟨⟨fun h=>absurd h (by decide),fun _=>⟨rfl,rfl⟩⟩⟩
        clear HS5 hlt5 HZH HB
        go_wp2
        go_roundw
        case rel=>exact ⟨k+1,⟨zk,zr,zn,0,0,zs,ys⟩,false,by omega,rfl,by go_num,HE5,HZ5,HB5,HI5⟩
        case measure=>simp[intOf];omega
       ·rcases gts_false (Bool.eq_false_iff.2 h2) with m1 | ⟨m1,m2⟩
        ·have HS5:AtZ (w.heap.size+1) (w.heap.size+1) 63 wr wr #[.int .i64 zk,.int .i64 zr,.int .i64 zn,.int .i64 0,.int .i64 0,.string zs,.string zt]:=(AtZ.start (base:=w.heap.size+1) HZH.out)
         have hlt5:=(Array.getElem?_eq_some_iff.1 HS5.1).1
         have HZ5:=mk0 ((heap_alloc_old wr (.cells #[.string yc,.int .i64 2,.int .i64 yn,.string ys] 78) hlt5).trans HS5.1)
         have HB5:=mk0 (HB.out.trans (HS5.2.2.trans ((below_alloc (Below.refl _ wr) (.cells #[.string yc,.int .i64 2,.int .i64 yn,.string ys] 78)).mono (Nat.le_of_lt hlt5))))
         have n1:Op.bytesLess ys.toList zs.toList=false:=by simpa [lessS] using h1
         have h1:lessS ys zs=false:=by simpa using h1
         have h2:lessS zt ys=false:=by simpa using h2
         have HE5:=mk0 (show _=zoneF 2 l.length (l.take (k+1)) by rw[HNV.out,if_neg (by rw[h1];decide),if_neg (by rw[h2];decide)])
         clear HNV
         have HI5:Aside0 (ZoI 2 ⟨zk,zr,zn,0,0,zs,zt⟩):=⟨⟨fun h=>absurd h (by decide),fun _=>⟨rfl,rfl⟩⟩⟩
         clear HS5 hlt5 HZH HB
         go_wp2
         go_roundw
         case rel=>exact ⟨k+1,⟨zk,zr,zn,0,0,zs,zt⟩,false,by omega,rfl,by go_num,HE5,HZ5,HB5,HI5⟩
         case measure=>simp[intOf];omega
        ·have HS5:AtZ (w.heap.size+1) (w.heap.size+1) 63 wr wr #[.int .i64 zk,.int .i64 zr,.int .i64 zn,.int .i64 0,.int .i64 0,.string zs,.string zt]:=(AtZ.start (base:=w.heap.size+1) HZH.out)
         have hlt5:=(Array.getElem?_eq_some_iff.1 HS5.1).1
         have HZ5:=mk0 ((heap_alloc_old wr (.cells #[.string yc,.int .i64 2,.int .i64 yn,.string ys] 78) hlt5).trans HS5.1)
         have HB5:=mk0 (HB.out.trans (HS5.2.2.trans ((below_alloc (Below.refl _ wr) (.cells #[.string yc,.int .i64 2,.int .i64 yn,.string ys] 78)).mono (Nat.le_of_lt hlt5))))
         have n1:Op.bytesLess ys.toList zs.toList=false:=by simpa [lessS] using h1
         have h1:lessS ys zs=false:=by simpa using h1
         have h2:lessS zt ys=false:=by simpa using h2
         have HE5:=mk0 (show _=zoneF 2 l.length (l.take (k+1)) by rw[HNV.out,if_neg (by rw[h1];decide),if_neg (by rw[h2];decide)])
         clear HNV
         have HI5:Aside0 (ZoI 2 ⟨zk,zr,zn,0,0,zs,zt⟩):=⟨⟨fun h=>absurd h (by decide),fun _=>⟨rfl,rfl⟩⟩⟩
         clear HS5 hlt5 HZH HB
         go_wp2
         go_roundw
         case rel=>exact ⟨k+1,⟨zk,zr,zn,0,0,zs,zt⟩,false,by omega,rfl,by go_num,HE5,HZ5,HB5,HI5⟩
         case measure=>simp[intOf];omega
     ·have HNV:=mk0 (HNW.out.trans (show _=(⟨zk,zr,zn,0,0,ys,ys⟩,false) by rw[zn2t _ HI.out]))
      obtain ⟨rfl,rfl⟩:za=0∧zb=0:=HI.out.2 rfl
      have HS5:AtZ (w.heap.size+1) (w.heap.size+1) 63 wr ((wr.setCell ⟨w.heap.size+1,5,none⟩ (.string ys)).setCell ⟨w.heap.size+1,6,none⟩ (.string ys)) #[.int .i64 zk,.int .i64 zr,.int .i64 zn,.int .i64 0,.int .i64 0,.string ys,.string ys]:=(((AtZ.start (base:=w.heap.size+1) HZH.out).set (Nat.le_refl _) 5 (.string ys)).set (Nat.le_refl _) 6 (.string ys))
      have hlt5:=(Array.getElem?_eq_some_iff.1 HS5.1).1
      have HZ5:=mk0 ((heap_alloc_old ((wr.setCell ⟨w.heap.size+1,5,none⟩ (.string ys)).setCell ⟨w.heap.size+1,6,none⟩ (.string ys)) (.cells #[.string yc,.int .i64 2,.int .i64 yn,.string ys] 78) hlt5).trans HS5.1)
      have HB5:=mk0 (HB.out.trans (HS5.2.2.trans ((below_alloc (Below.refl _ ((wr.setCell ⟨w.heap.size+1,5,none⟩ (.string ys)).setCell ⟨w.heap.size+1,6,none⟩ (.string ys))) (.cells #[.string yc,.int .i64 2,.int .i64 yn,.string ys] 78)).mono (Nat.le_of_lt hlt5))))
      have HE5:=mk0 HNV.out.symm
      clear HNV
      have HI5:Aside0 (ZoI 2 ⟨zk,zr,zn,0,0,ys,ys⟩):=⟨⟨fun h=>absurd h (by decide),fun _=>⟨rfl,rfl⟩⟩⟩
      clear HS5 hlt5 HZH HB
      go_wp2
      go_roundw
      case rel=>exact ⟨k+1,⟨zk,zr,zn,0,0,ys,ys⟩,false,by omega,rfl,by go_num,HE5,HZ5,HB5,HI5⟩
      case measure=>simp[intOf];omega
    ·have HNX:=mk0 (show zoneF 2 l.length (l.take (k+1))=(⟨zk,zr,zn+1,za,zb,zs,zt⟩,fst) by rw[HNX.out];unfold zoneStep;rw[if_pos (.inl hkd)])
     have k1:(yk==2)=false:=by rw[beq_eq_false_iff_ne];exact hkd
     have HS5:AtZ (w.heap.size+1) (w.heap.size+1) 63 wr (wr.setCell ⟨w.heap.size+1,2,none⟩ (.int .i64 (zn+1))) #[.int .i64 zk,.int .i64 zr,.int .i64 (zn+1),.int .i64 za,.int .i64 zb,.string zs,.string zt]:=((AtZ.start (base:=w.heap.size+1) HZH.out).set (Nat.le_refl _) 2 (.int .i64 (zn+1)))
     have hlt5:=(Array.getElem?_eq_some_iff.1 HS5.1).1
     have HZ5:=mk0 ((heap_alloc_old (wr.setCell ⟨w.heap.size+1,2,none⟩ (.int .i64 (zn+1))) (.cells #[.string yc,.int .i64 yk,.int .i64 yn,.string ys] 78) hlt5).trans HS5.1)
     have HB5:=mk0 (HB.out.trans (HS5.2.2.trans ((below_alloc (Below.refl _ (wr.setCell ⟨w.heap.size+1,2,none⟩ (.int .i64 (zn+1)))) (.cells #[.string yc,.int .i64 yk,.int .i64 yn,.string ys] 78)).mono (Nat.le_of_lt hlt5))))
     have HE5:=mk0 HNX.out.symm
     clear HNX
     have HI5:Aside0 (ZoI 2 ⟨zk,zr,(zn+1),za,zb,zs,zt⟩):=HI
     clear HS5 hlt5 HZH HB
     go_wp2
     go_roundw
     case rel=>exact ⟨k+1,⟨zk,zr,(zn+1),za,zb,zs,zt⟩,fst,by omega,rfl,by go_num,HE5,HZ5,HB5,HI5⟩
     case measure=>simp[intOf];omega
  ·have hk2:k=l.length:=by omega
   subst hk2
   rw[List.take_length] at HZ
   have HZ2:=mk0 (show zoneB kind l=z by unfold zoneB;rw[← HZ.out])
   obtain ⟨zk,zr,zn,za,zb,zs,zt⟩:=z
   unfold ZoneM.cells at *
   dsimp only at *
   have c0:=cell_of_heap (i:=0) HZH.out rfl
   have c1:=cell_of_heap (i:=1) HZH.out rfl
   have c2:=cell_of_heap (i:=2) HZH.out rfl
   have c3:=cell_of_heap (i:=3) HZH.out rfl
   have c4:=cell_of_heap (i:=4) HZH.out rfl
   have c5:=cell_of_heap (i:=5) HZH.out rfl
   have c6:=cell_of_heap (i:=6) HZH.out rfl
   have hv:=(HB.out.block w.heap.size (Nat.lt_succ_self _)).trans HR1.out.1
   have d0:=cell_of_heap (i:=0) hv rfl
   have d1:=cell_of_heap (i:=1) hv rfl
   have d2:=cell_of_heap (i:=2) hv rfl
   have d3:=cell_of_heap (i:=3) hv rfl
   have d4:=cell_of_heap (i:=4) hv rfl
   have d5:=cell_of_heap (i:=5) hv rfl
   have d6:=cell_of_heap (i:=6) hv rfl
   have e0:=frozen_of_heap (i:=0) hv
   have e1:=frozen_of_heap (i:=1) hv
   have e2:=frozen_of_heap (i:=2) hv
   have e3:=frozen_of_heap (i:=3) hv
   have e4:=frozen_of_heap (i:=4) hv
   have e5:=frozen_of_heap (i:=5) hv
   have e6:=frozen_of_heap (i:=6) hv
   have HBF:=mk0 (HR1.out.2.1.trans (HB.out.mono (Nat.le_succ _)))
   have HSF:=mk0 (((((((AtZ.start (base:=w.heap.size) hv).set (Nat.le_refl _) 0 (.int .i64 zk)).set (Nat.le_refl _) 1 (.int .i64 zr)).set (Nat.le_refl _) 2 (.int .i64 zn)).set (Nat.le_refl _) 3 (.int .i64 za)).set (Nat.le_refl _) 4 (.int .i64 zb)).set (Nat.le_refl _) 5 (.string zs) |>.set (Nat.le_refl _) 6 (.string zt))
   have HSF:=mk0 (show AtZ w.heap.size w.heap.size 63 wr _ #[.int .i64 zk,.int .i64 zr,.int .i64 zn,.int .i64 za,.int .i64 zb,.string zs,.string zt] from HSF.out)
   clear hv
   go_wp2
   generalize ((((((wr.setCell ⟨w.heap.size,0,none⟩ (.int .i64 zk)).setCell ⟨w.heap.size,1,none⟩ (.int .i64 zr)).setCell ⟨w.heap.size,2,none⟩ (.int .i64 zn)).setCell ⟨w.heap.size,3,none⟩ (.int .i64 za)).setCell ⟨w.heap.size,4,none⟩ (.int .i64 zb)).setCell ⟨w.heap.size,5,none⟩ (.string zs)).setCell ⟨w.heap.size,6,none⟩ (.string zt)=Wf at *
   have g0:=cell_of_heap (i:=0) HSF.out.1 rfl
   have g1:=cell_of_heap (i:=1) HSF.out.1 rfl
   have g2:=cell_of_heap (i:=2) HSF.out.1 rfl
   have g3:=cell_of_heap (i:=3) HSF.out.1 rfl
   have g4:=cell_of_heap (i:=4) HSF.out.1 rfl
   have g5:=cell_of_heap (i:=5) HSF.out.1 rfl
   have g6:=cell_of_heap (i:=6) HSF.out.1 rfl
   refine bodyPost_ret (v:=.agg #[.int .i64 zk,.int .i64 zr,.int .i64 zn,.int .i64 za,.int .i64 zb,.string zs,.string zt]) (by simp[results,Tryz.results50,go_sem,g0,g1,g2,g3,g4,g5,g6]) rfl ?_
   exact ⟨by rw[HZ2.out];rfl,HBF.out.trans HSF.out.2.2⟩
end Go.Proofs.YtcmffaejcnbheaaGreat.Lib0

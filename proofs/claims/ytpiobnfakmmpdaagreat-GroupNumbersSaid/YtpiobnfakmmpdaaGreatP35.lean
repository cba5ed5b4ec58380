import Derived.Test.YtpiobnfakmmpdaaGreatP32
import Derived.Test.YtpiobnfakmmpdaaGreatP34
set_option linter.unusedVariables false
set_option linter.unusedSimpArgs false
namespace Go.Proofs.YtpiobnfakmmpdaaGreat.Lib0
open Go.RowKit Go.Proofs.YtpiobnfakmmpdaaGreatW.PrintWords Go.ChangeMaps
def bitsF:Nat→Nat→Nat→Nat
 | 0,b,_=>b
 | f+1,b,n=>if b<65536∧b<8*n then bitsF f (2*b) n else b
def bloomBits (n:Nat):Nat:=bitsF 10 64 n
def setBit (out:List UInt8) (k:Int):List UInt8:=out.set (k.toNat/8) (out.getD (k.toNat/8) 0 ||| UInt8.ofNat (2 ^ (k.toNat%8)))
def bloomF (n:Nat) (d:List ByteArray) (out:List UInt8):List UInt8:=d.foldl (fun o s=>(spotsL s n).foldl setBit o) out
def bloomB (l:List ByteArray):List UInt8:=bloomF (bloomBits (dictL l).length) (dictL l) (List.replicate (bloomBits (dictL l).length/8) 0)
theorem bitsF_ok:∀ (f b n:Nat),b*2 ^ f=65536→64≤b→b%64=0→64≤bitsF f b n∧bitsF f b n≤65536∧bitsF f b n%64=0
 | 0,b,n,h,h1,h2=>by rw[bitsF];simp at h;omega
 | f+1,b,n,h,h1,h2=>by
  rw[bitsF]
  split
  ·exact bitsF_ok f (2*b) n (by rw[← h,Nat.pow_succ];simp only[Nat.mul_comm,Nat.mul_left_comm,Nat.mul_assoc]) (by omega) (by omega)
  ·refine ⟨h1,?_,h2⟩
   have:1≤2 ^ (f+1):=Nat.one_le_two_pow
   calc b=b*1:=(Nat.mul_one b).symm
    _≤b*2 ^ (f+1):=Nat.mul_le_mul_left b this
    _=65536:=h
theorem bloomBits_ok (n:Nat):64≤bloomBits n∧bloomBits n≤65536∧bloomBits n%64=0:=bitsF_ok 10 64 n (by decide) (by decide) (by decide)
theorem compact_mem {zs:List (List UInt8)} {x:List UInt8} (h:x ∈ Lib.compact zs):x ∈ zs:=by
 unfold Lib.compact Lib.compactUpTo at h
 obtain ⟨j,hj,rfl⟩:=List.mem_map.1 h
 have hj2:j<zs.length:=by
  have:=(List.mem_filter.1 hj).1
  simpa using this
 simp[List.getD_eq_getElem?_getD,List.getElem?_eq_getElem hj2]
theorem dictL_mem {l:List ByteArray} {s:ByteArray} (h:s ∈ dictL l):s ∈ l:=by
 unfold dictL compL sortL at h
 obtain ⟨x,hx,rfl⟩:=List.mem_map.1 h
 have h2:=compact_mem hx
 rw[List.mem_map] at h2
 obtain ⟨y,hy,rfl⟩:=h2
 obtain ⟨z,hz,rfl⟩:=List.mem_map.1 hy
 have h3:=(List.mem_mergeSort).1 hz
 obtain ⟨u,hu,rfl⟩:=List.mem_map.1 h3
 rw[str_byt,str_byt]
 exact hu
structure BlS (g M b m:Nat) (w V:World) (out:List UInt8):Prop where
 R:u8.R 5 V M (fun _=>True) (.slice (some ⟨M,0,none⟩) m m) out
 H:V.heap[g]?=some (.cells #[.int .i64 b,.slice (some ⟨M,0,none⟩) m m] 150)
 B:Below g w V
 L:out.length=m
set_option maxHeartbeats 3200000 in
set_option maxRecDepth 100000 in
theorem bloom_Build (A:Option Addr) (c:Nat) (l:List ByteArray) (w:World) (h:Kd.string.C w A l.length l) (hl:l.length≤65536) (hs:∀ s ∈ l,s.size≤1099511627776) :
  Calls Tryz.prog 116 #[.slice A l.length c] w fun e w'=>
   ∃ A' c',e = .returned (.agg #[.int .i64 (bloomBits (dictL l).length),.slice A' (bloomB l).length c'])∧(bloomB l).length≤c'∧u8.R 5 w' w.heap.size (fun _=>True) (.slice A' (bloomB l).length c') (bloomB l)∧Below w.heap.size w w':=by
 have HC:=mk0 h
 have HL:=mk0 hl
 have HS:=mk0 (show ∀ s ∈ dictL l,s.size≤1099511627776 from fun s hm=>hs s (dictL_mem hm))
 obtain ⟨w0,hw0⟩:∃ w0,w0=w.alloc (.cells #[.int .i64 0,.slice none 0 0] 150):=⟨_,rfl⟩
 have hn0:=heap_alloc_new w (.cells #[.int .i64 0,.slice none 0 0] 150)
 have hb0:=below_alloc (Below.refl w.heap.size w) (.cells #[.int .i64 0,.slice none 0 0] 150)
 rw[← hw0] at hn0 hb0
 have HN0:=mk0 hn0
 have HB0:=mk0 hb0
 have HC1:=mk0 (clone_str A c l w0 (Kd.C_below h hb0) (by omega))
 have HDL:=mk0 (show (dictL l).length≤l.length by unfold dictL;have:=compL_len (sortL l);rw[sortL_len] at this;exact this)
 have HBB:=mk0 (Eq.refl (bloomB l))
 obtain ⟨d,hd⟩:∃ d,d=dictL l:=⟨_,rfl⟩
 have HD:=mk0 hd
 have HE:=mk0 (show bloomB l=bloomF (bloomBits d.length) d (List.replicate (bloomBits d.length/8) 0) by rw[hd];rfl)
 rw[← hd] at HDL HS ⊢
 generalize bloomB l=R at *
 clear h hl hd hn0 hb0 hs HBB
 go_enter Tryz.func116,Tryz.ntmps116
 go_wp2_with fail
 rw[← hw0]
 clear hw0
 (with_reducible refine HC1.out.mono ?_)
 rintro e w1 ⟨v1,rfl,hr1,hb1⟩
 have R1:=mk0 hr1
 have B1:=mk0 hb1
 clear hr1 hb1
 go_wp2_with fail
 (with_reducible refine (sort_str R1.out B1.out.size (by have:=HL.out;omega)).mono ?_)
 rintro e w2 ⟨rfl,hr2,hb2⟩
 have R2:=mk0 hr2
 have B2:=mk0 (B1.out.trans hb2)
 clear hr2 hb2
 go_wp2_with fail
 (with_reducible refine (compact_str R2.out B2.out.size (by rw[sortL_len];have:=HL.out;omega)).mono ?_)
 rintro e w3 ⟨A3,c3,rfl,hc3,hC3,hb3⟩
 have B3:=mk0 (B2.out.trans hb3)
 rw[show compL (sortL l)=d from HD.out.symm] at hC3 hc3 ⊢
 have HC3:=mk0 hC3
 clear hb3 hC3 hc3 HC1 R1 B1 R2 B2
 have hdl:d.length≤65536:=by have:=HDL.out;have:=HL.out;omega
 go_wp2_with fail
 obtain ⟨w4,hw4⟩:∃ w4,w4=w3.alloc (.cells #[.int .i64 64,.slice none 0 0] 150):=⟨_,rfl⟩
 have hn4:=heap_alloc_new w3 (.cells #[.int .i64 64,.slice none 0 0] 150)
 have hb4:=below_alloc (Below.refl w3.heap.size w3) (.cells #[.int .i64 64,.slice none 0 0] 150)
 rw[← hw4] at hn4 hb4 ⊢
 have HB4:=mk0 hb4
 have HZ4:=mk0 (AtZ.start (base:=w3.heap.size) hn4)
 clear hw4 hn4 hb4
 have hdi:(d.length:Int)≤65536:=by omega
 have h8:IntKind.i64.wrap (8*(d.length:Int))=8*(d.length:Int):=by rw[IntWalk.i64_in _ (by omega)]
 have h8w:wrap64 (8*(d.length:Int))=8*(d.length:Int):=by unfold wrap64;omega
 go_loopg[] 10 (fun f wr=>∃ b:Nat,Aside0 (b*2 ^ f=65536∧bitsF f b d.length=bloomBits d.length∧64≤b∧b≤65536)∧Aside0 (AtZ w3.heap.size w3.heap.size 150 w4 wr #[.int .i64 b,.slice none 0 0]))
 case atStart=>exact ⟨64,⟨by decide,rfl,by decide,by decide⟩,HZ4⟩
 case round=>
  clear HZ4
  obtain ⟨b,HF,HZ⟩:=hrel
  have x0:=cell_of_heap (i:=0) HZ.out.1 rfl
  have y0:=frozen_of_heap (i:=0) HZ.out.1
  have hb1:=HF.out.2.2.1
  have hb2:=HF.out.2.2.2
  have hb3:(b:Int)≤65536:=by omega
  by_cases h1:b<65536
  ·have d1:decide ((b:Int)<65536)=true:=decide_eq_true (by omega)
   by_cases h2:b<8*d.length
   ·have d2:decide ((b:Int)<8*d.length)=true:=decide_eq_true (by omega)
    have hm:IntKind.i64.wrap ((b:Int)*2)=((2*b:Nat):Int):=by rw[IntWalk.i64_in _ (by omega)];omega
    have hm2:wrap64 ((b:Int)*2)=((2*b:Nat):Int):=by unfold wrap64;omega
    obtain ⟨f',hf'⟩:∃ f',gk=f'+1:=by
     rcases gk with _ | f'
     ·have:=HF.out.1
      simp at this
      omega
     ·exact ⟨f',rfl⟩
    have HZ2:=mk0 (HZ.out.set (Nat.le_refl _) 0 (.int .i64 ((2*b:Nat):Int)))
    have HZ2:Aside0 (AtZ w3.heap.size w3.heap.size 150 w4 _ #[.int .i64 ((2*b:Nat):Int),.slice none 0 0]):=HZ2
    have HF2:=mk0 (show (2*b)*2 ^ f'=65536∧bitsF f' (2*b) d.length=bloomBits d.length∧64≤2*b∧2*b≤65536 by
     obtain ⟨q1,q2,q3,q4⟩:=HF.out
     rw[hf'] at q1 q2
     rw[bitsF,if_pos ⟨h1,h2⟩] at q2
     have q5:(2*b)*2 ^ f'=65536:=by rw[← q1,Nat.pow_succ];simp only[Nat.mul_comm,Nat.mul_left_comm,Nat.mul_assoc]
     refine ⟨q5,q2,by omega,?_⟩
     have:1≤2 ^ f':=Nat.one_le_two_pow
     calc 2*b=2*b*1:=(Nat.mul_one _).symm
      _≤2*b*2 ^ f':=Nat.mul_le_mul_left _ this
      _=65536:=q5)
    clear HZ HF
    generalize 2*b=b2 at *
    go_wp2
    go_roundg f'
    case measure=>omega
    case rel=>exact ⟨b2,HF2,HZ2⟩
   ·have d2:decide ((b:Int)<8*d.length)=false:=decide_eq_false (by omega)
    have HBE:=mk0 (show b=bloomBits d.length by
     have h:=HF.out.2.1
     rcases gk with _ | f'
     ·exact h
     ·rw[bitsF,if_neg (by rintro ⟨a1,a2⟩;omega)] at h
      exact h)
    have hmod:b%64=0:=by rw[HBE.out];exact (bloomBits_ok _).2.2
    obtain ⟨m,hm⟩:∃ m:Nat,b=8*m:=⟨b/8,by omega⟩
    have hq1:(b:Int).tdiv 8=(m:Int):=by rw[Int.tdiv_eq_ediv_of_nonneg (by omega)];omega
    have hq2:(b:Int)/8=(m:Int):=by omega
    have hq3:IntKind.i64.wrap (m:Int)=(m:Int):=by rw[IntWalk.i64_in _ (by omega)]
    have hm8:(m:Int)≤8192:=by omega
    have hmk:=print_make_int (P:=Tryz.prog) 22 5 (.int .u8 0) 1 Tryz.underlying22 info_u8 rfl (by omega) (m:Int) (by omega) (by omega)
    rw[made_bytes,Int.toNat_natCast] at hmk
    have HM:=mk0 hm
    clear hmod hm
    obtain ⟨z0,hz0⟩:∃ z0,z0=List.replicate m (0:UInt8):=⟨_,rfl⟩
    rw[← hz0] at hmk
    obtain ⟨cs,hcs⟩:∃ cs,cs=(List.map encB z0).toArray:=⟨_,rfl⟩
    rw[← hcs] at hmk
    have HZ0:=mk0 hz0
    have HCS:=mk0 hcs
    clear hz0 hcs
    have x1:=cell_of_heap (i:=1) HZ.out.1 rfl
    have y1:=frozen_of_heap (i:=1) HZ.out.1
    have hlw:w3.heap.size<wr.heap.size:=(Array.getElem?_eq_some_iff.1 HZ.out.1).1
    have hne:w3.heap.size≠wr.heap.size:=by omega
    go_wp2_with fail
    have HS5:Aside0 (BlS w3.heap.size wr.heap.size b m w4 ((wr.setCell ⟨w3.heap.size,1,none⟩ (.slice (some ⟨wr.heap.size,0,none⟩) m m)).alloc (.cells cs 5)) z0):=by
     have hz:=HZ.out.set (Nat.le_refl _) 1 (.slice (some ⟨wr.heap.size,0,none⟩) m m)
     have hsz:(wr.setCell ⟨w3.heap.size,1,none⟩ (.slice (some ⟨wr.heap.size,0,none⟩) m m)).heap.size=wr.heap.size:=by simp[World.setCell]
     have hzl:z0.length=m:=by rw[HZ0.out];simp
     refine ⟨?_,?_,?_,hzl⟩
     ·rw[HCS.out]
      have:=R_lit (wr.setCell ⟨w3.heap.size,1,none⟩ (.slice (some ⟨wr.heap.size,0,none⟩) m m)) z0 5 (by omega)
      rw[hsz,hzl] at this
      exact this
     ·exact (heap_alloc_old _ _ (by rw[hsz];exact hlw)).trans hz.1
     ·exact hz.2.2.trans ((below_alloc (Below.refl _ (wr.setCell ⟨w3.heap.size,1,none⟩ (.slice (some ⟨wr.heap.size,0,none⟩) m m))) (.cells cs 5)).mono (by rw[hsz];omega))
    generalize (wr.setCell ⟨w3.heap.size,1,none⟩ (.slice (some ⟨wr.heap.size,0,none⟩) m m)).alloc (.cells cs 5)=w5 at *
    obtain ⟨M,hM⟩:∃ M,M=wr.heap.size:=⟨_,rfl⟩
    rw[← hM] at HS5 hne hlw ⊢
    have HES:=mk0 (show R=bloomF b d z0 from HE.out.trans (by rw[HZ0.out,← HBE.out,HM.out,Nat.mul_div_cancel_left m (by decide)]))
    clear hmk HCS x0 x1 y0 y1 HZ HF hM d1 d2 hq1 hq2 hq3 h8 h8w h1
    go_loopw[38] (fun v38 wq=>∃ (k:Nat) (out:List UInt8),k≤d.length∧v38 = .int .i64 k∧Aside0 (out=bloomF b (d.take k) z0)∧Aside0 (BlS w3.heap.size M b m w4 wq out)) (fun i _=>d.length-(intOf i).toNat)
    case atStart=>exact ⟨0,z0,by omega,rfl,⟨by simp[bloomF]⟩,HS5⟩
    case round=>
     clear HS5
     obtain ⟨k,out,hk,rfl,HO,HS5⟩:=hrel
     have HB5:=mk0 (HB4.out.trans HS5.out.B)
     by_cases hlt:k<d.length
     ·have hlt2:(k:Int)<d.length:=by omega
      obtain ⟨b0,o0,rfl,hx⟩:=sc_open (Kd.C_below HC3.out HB5.out) (by omega)
      have hx1:=hx k hlt
      clear hx
      have HNX:=mk0 (show bloomF b (d.take (k+1)) z0=(spotsL d[k] b).foldl setBit out by unfold bloomF;rw[take_next d k hlt,List.foldl_append,HO.out];rfl)
      have HSS:=mk0 (HS.out d[k] (List.getElem_mem hlt))
      generalize d[k]=s at *
      have f0:=cell_of_heap (i:=0) HS5.out.H rfl
      have HSP:=mk0 (bloom_spots s b ⟨by omega,by omega⟩ HSS.out wr)
      go_wp2_with fail
      (with_reducible refine HSP.out.mono ?_)
      rintro e w6 ⟨v6,rfl,hr6,hb6⟩
      have HS6:=mk0 (show BlS w3.heap.size M b m w4 w6 out from
       have hMl:M<wr.heap.size:=Kd.R_lt HS5.out.R M rfl
       ⟨Kd.R_below HS5.out.R hb6,(hb6.block _ (by omega)).trans HS5.out.H,HS5.out.B.trans (hb6.mono (by omega)),HS5.out.L⟩)
      have HMl:=mk0 (show M<wr.heap.size from Kd.R_lt HS5.out.R M rfl)
      obtain ⟨A6,c6,rfl⟩:=Kd.R_slice hr6
      have HR6:=mk0 hr6
      have HK6:=mk0 (show ∀ x ∈ spotsL s b,0≤x∧x<(b:Int) from fun x hx=>by
       unfold spotsL at hx
       obtain ⟨j,_,rfl⟩:=List.mem_map.1 hx
       exact spotV_range _ _ _ (by omega))
      have HL6:=mk0 (show (spotsL s b).length=4 by simp[spotsL])
      clear hr6 hb6 HSP HS5 f0 HB5 hx1 HSS
      generalize spotsL s b=sp at *
      have hsp4:=HL6.out
      go_wp2_with fail
      go_loopw[47] (fun v47 wq=>∃ (j:Nat) (out2:List UInt8),j≤sp.length∧v47 = .int .i64 j∧Aside0 (out2=(sp.take j).foldl setBit out)∧Aside0 (BlS w3.heap.size M b m w4 wq out2)∧Aside0 ((Kd.int .u64).R 117 wq wr.heap.size (fun _=>True) (.slice A6 sp.length c6) sp)) (fun i _=>sp.length-(intOf i).toNat)
      case atStart=>exact ⟨0,out,by omega,rfl,⟨by simp⟩,HS6,HR6⟩
      case round=>
       clear HS6 HR6
       obtain ⟨j,out2,hj,rfl,HO2,HS6,HR6⟩:=hrel
       by_cases hjl:j<sp.length
       ·have hjl2:(j:Int)<sp.length:=by omega
        have hOL:=HS6.out.L
        obtain ⟨b1,o1,rfl,hx⟩:=sc_open (C_of HR6.out) (by omega)
        have hx1:=hx j hjl
        clear hx
        have HNJ:=mk0 (show (sp.take (j+1)).foldl setBit out=setBit out2 sp[j] by rw[take_next sp j hjl,List.foldl_append,← HO2.out];rfl)
        obtain ⟨hk0,hk1⟩:=HK6.out sp[j] (List.getElem_mem hjl)
        obtain ⟨kn,hkn⟩:∃ kn:Nat,sp[j]=(kn:Int):=⟨sp[j].toNat,by omega⟩
        rw[hkn] at hx1 HNJ hk1
        clear hkn hk0
        have hk8:kn/8<out2.length:=by rw[hOL];have:=HM.out;omega
        obtain ⟨g',c',hv,hv3,hv4,cur,hh,hcur⟩:=u8_row_open HS6.out.R (by omega)
        clear hv3 hv4
        simp only[Value.slice.injEq,Option.some.injEq,Addr.mk.injEq,and_true] at hv
        obtain ⟨rfl,hv1,hv2⟩:=hv
        clear hv1 hv2
        have hcc:=hcur (kn/8) hk8
        have hx0:=cell_of_heap hh hcc
        have hxf:wr.frozen? ⟨M,kn/8,none⟩=false:=frozen_of_heap hh
        unfold encB at hx0
        clear hcc hh hcur
        have f1:=cell_of_heap (i:=1) HS6.out.H rfl
        have HPB2:=mk0 (show setBit out2 kn=out2.set (kn/8) (out2[kn/8] ||| UInt8.ofNat (2 ^ (kn%8))) by simp[setBit,List.getD,List.getElem?_eq_getElem hk8])
        have HSET:=mk0 (fun x:UInt8=>show BlS w3.heap.size M b m w4 (wr.setCell ⟨M,kn/8,none⟩ (encB x)) (out2.set (kn/8) x) from
         ⟨u8_R_set HS6.out.R (kn/8) hk8 x,(Below.heap_setCell _ _ _ _ (by show w3.heap.size≠M;exact hne)).trans HS6.out.H,HS6.out.B.setCell (p:=⟨M,kn/8,none⟩) (Nat.le_of_lt hlw) _,by rw[List.length_set];exact hOL⟩)
        have HRS:=mk0 (fun (i:Nat) (x:Value)=>show (Kd.int .u64).R 117 (wr.setCell ⟨M,i,none⟩ x) _ (fun _=>True) (.slice (some ⟨b1,o1,none⟩) sp.length c6) sp from
         R_moved rfl HR6.out (fun q hq=>Below.heap_setCell _ _ _ _ (by have:=R_base HR6.out q hq;have:=HMl.out;show q≠M;omega)))
        have hr8:kn%8<8:=Nat.mod_lt _ (by omega)
        have hq1:(kn:Int).tdiv 8=((kn/8:Nat):Int):=by rw[Int.tdiv_eq_ediv_of_nonneg (by omega)];omega
        have hq2:(kn:Int)/8=((kn/8:Nat):Int):=by omega
        have hq3:(kn:Int).tmod 8=((kn%8:Nat):Int):=by rw[Int.tmod_eq_emod_of_nonneg (by omega)];omega
        have hq4:(kn:Int)%8=((kn%8:Nat):Int):=by omega
        generalize out2[kn/8]=y at *
        generalize kn/8=i8 at *
        generalize kn%8=r8 at *
        have hq8i:(i8:Int)<m:=by omega
        have hq5:IntKind.u64.wrap (i8:Int)=(i8:Int):=by rw[IntKind.wrap_u64];omega
        have hq6:IntKind.u64.wrap (r8:Int)=(r8:Int):=by rw[IntKind.wrap_u64];omega
        obtain ⟨x,hx8⟩:∃ x,x=UInt8.ofNat (2 ^ r8):=⟨_,rfl⟩
        rw[← hx8] at HPB2
        have hsh:IntKind.u8.wrap ((2:Int) ^ r8)=(x.toNat:Int):=by
         rw[hx8,UInt8.toNat_ofNat',IntKind.wrap_u8,Int.natCast_emod,Int.natCast_pow];rfl
        have hsh2:(2:Int) ^ r8%256=(x.toNat:Int):=by rw[← hsh,IntKind.wrap_u8]
        obtain ⟨z,hz⟩:∃ z,z=y ||| x:=⟨_,rfl⟩
        rw[← hz] at HPB2
        have hor:Go.bits .or .u8 (y.toNat:Int) (x.toNat:Int)=(z.toNat:Int):=by rw[hz];exact or_u8 y x
        have HZ9:=mk0 (HSET.out z)
        have HR9:=mk0 (HRS.out i8 (encB z))
        rw[← HPB2.out,← HNJ.out] at HZ9
        unfold encB at HZ9 HR9
        clear hx8 hz HPB2 HNJ HSET HRS HS6 HR6 hk8 hk1
        go_wp2
        go_roundw
        case rel=>exact ⟨j+1,_,by omega,by go_num,⟨rfl⟩,HZ9,HR9⟩
        case measure=>simp[intOf];omega
       ·have hj2:j=sp.length:=by omega
        subst hj2
        rw[List.take_length,← HNX.out] at HO2
        clear HR6
        go_wp2
        go_roundw
        case rel=>exact ⟨k+1,out2,by omega,by go_num,HO2,HS6⟩
        case measure=>simp[intOf];omega
     ·have hk2:k=d.length:=by omega
      subst hk2
      rw[List.take_length,← HES.out] at HO
      have HO2:=HO.out
      subst HO2
      have hL:=HS5.out.L
      have f0:=cell_of_heap (i:=0) HS5.out.H rfl
      have f1:=cell_of_heap (i:=1) HS5.out.H rfl
      have hw0l:w.heap.size<w0.heap.size:=(Array.getElem?_eq_some_iff.1 HN0.out).1
      have hv:=(HB5.out.block w.heap.size (Nat.lt_of_lt_of_le hw0l B3.out.size)).trans ((B3.out.block w.heap.size hw0l).trans HN0.out)
      have r0:=cell_of_heap (i:=0) hv rfl
      have r1:=cell_of_heap (i:=1) hv rfl
      have e0:=frozen_of_heap (i:=0) hv
      have e1:=frozen_of_heap (i:=1) hv
      have HBF:=mk0 (HB0.out.trans ((B3.out.mono HB0.out.size).trans (HB5.out.mono (Nat.le_trans HB0.out.size B3.out.size))))
      have HSF:=mk0 (((AtZ.start (base:=w.heap.size) hv).set (Nat.le_refl _) 0 (.int .i64 b)).set (Nat.le_refl _) 1 (.slice (some ⟨M,0,none⟩) m m))
      have HSF:=mk0 (show AtZ w.heap.size w.heap.size 150 wr _ #[.int .i64 b,.slice (some ⟨M,0,none⟩) m m] from HSF.out)
      have hMw:M≠w.heap.size:=by have:=HB0.out.size;have:=B3.out.size;omega
      have HCO:=mk0 (Kd.R_lower (base':=w.heap.size) (R_moved rfl HS5.out.R (w':=(wr.setCell ⟨w.heap.size,0,none⟩ (.int .i64 b)).setCell ⟨w.heap.size,1,none⟩ (.slice (some ⟨M,0,none⟩) m m)) (fun q hq=>HSF.out.2.1 q (by simp[Value.ownBlock] at hq;omega))) (by have:=HB0.out.size;have:=B3.out.size;omega))
      clear hv HS5
      go_wp2
      generalize (wr.setCell ⟨w.heap.size,0,none⟩ (.int .i64 b)).setCell ⟨w.heap.size,1,none⟩ (.slice (some ⟨M,0,none⟩) m m)=Wf at *
      have g0:=cell_of_heap (i:=0) HSF.out.1 rfl
      have g1:=cell_of_heap (i:=1) HSF.out.1 rfl
      refine bodyPost_ret (v:=.agg #[.int .i64 b,.slice (some ⟨M,0,none⟩) m m]) (by simp[results,Tryz.results116,go_sem,g0,g1]) rfl ?_
      exact ⟨some ⟨M,0,none⟩,m,by rw[← HBE.out],by omega,HCO.out,HBF.out.trans HSF.out.2.2⟩
  ·have d1:decide ((b:Int)<65536)=false:=decide_eq_false (by omega)
   have HBE:=mk0 (show b=bloomBits d.length by
    have h:=HF.out.2.1
    rcases gk with _ | f'
    ·exact h
    ·rw[bitsF,if_neg (by rintro ⟨a1,a2⟩;omega)] at h
     exact h)
   have hmod:b%64=0:=by rw[HBE.out];exact (bloomBits_ok _).2.2
   obtain ⟨m,hm⟩:∃ m:Nat,b=8*m:=⟨b/8,by omega⟩
   have hq1:(b:Int).tdiv 8=(m:Int):=by rw[Int.tdiv_eq_ediv_of_nonneg (by omega)];omega
   have hq2:(b:Int)/8=(m:Int):=by omega
   have hq3:IntKind.i64.wrap (m:Int)=(m:Int):=by rw[IntWalk.i64_in _ (by omega)]
   have hm8:(m:Int)≤8192:=by omega
   have hmk:=print_make_int (P:=Tryz.prog) 22 5 (.int .u8 0) 1 Tryz.underlying22 info_u8 rfl (by omega) (m:Int) (by omega) (by omega)
   rw[made_bytes,Int.toNat_natCast] at hmk
   have HM:=mk0 hm
   clear hmod hm
   obtain ⟨z0,hz0⟩:∃ z0,z0=List.replicate m (0:UInt8):=⟨_,rfl⟩
   rw[← hz0] at hmk
   obtain ⟨cs,hcs⟩:∃ cs,cs=(List.map encB z0).toArray:=⟨_,rfl⟩
   rw[← hcs] at hmk
   have HZ0:=mk0 hz0
   have HCS:=mk0 hcs
   clear hz0 hcs
   have x1:=cell_of_heap (i:=1) HZ.out.1 rfl
   have y1:=frozen_of_heap (i:=1) HZ.out.1
   have hlw:w3.heap.size<wr.heap.size:=(Array.getElem?_eq_some_iff.1 HZ.out.1).1
   have hne:w3.heap.size≠wr.heap.size:=by omega
   go_wp2_with fail
   have HS5:Aside0 (BlS w3.heap.size wr.heap.size b m w4 ((wr.setCell ⟨w3.heap.size,1,none⟩ (.slice (some ⟨wr.heap.size,0,none⟩) m m)).alloc (.cells cs 5)) z0):=by
    have hz:=HZ.out.set (Nat.le_refl _) 1 (.slice (some ⟨wr.heap.size,0,none⟩) m m)
    have hsz:(wr.setCell ⟨w3.heap.size,1,none⟩ (.slice (some ⟨wr.heap.size,0,none⟩) m m)).heap.size=wr.heap.size:=by simp[World.setCell]
    have hzl:z0.length=m:=by rw[HZ0.out];simp
    refine ⟨?_,?_,?_,hzl⟩
    ·rw[HCS.out]
     have:=R_lit (wr.setCell ⟨w3.heap.size,1,none⟩ (.slice (some ⟨wr.heap.size,0,none⟩) m m)) z0 5 (by omega)
     rw[hsz,hzl] at this
     exact this
    ·exact (heap_alloc_old _ _ (by rw[hsz];exact hlw)).trans hz.1
    ·exact hz.2.2.trans ((below_alloc (Below.refl _ (wr.setCell ⟨w3.heap.size,1,none⟩ (.slice (some ⟨wr.heap.size,0,none⟩) m m))) (.cells cs 5)).mono (by rw[hsz];omega))
   generalize (wr.setCell ⟨w3.heap.size,1,none⟩ (.slice (some ⟨wr.heap.size,0,none⟩) m m)).alloc (.cells cs 5)=w5 at *
   obtain ⟨M,hM⟩:∃ M,M=wr.heap.size:=⟨_,rfl⟩
   rw[← hM] at HS5 hne hlw ⊢
   have HES:=mk0 (show R=bloomF b d z0 from HE.out.trans (by rw[HZ0.out,← HBE.out,HM.out,Nat.mul_div_cancel_left m (by decide)]))
   clear hmk HCS x0 x1 y0 y1 HZ HF hM d1 hq1 hq2 hq3 h8 h8w h1
   go_loopw[38] (fun v38 wq=>∃ (k:Nat) (out:List UInt8),k≤d.length∧v38 = .int .i64 k∧Aside0 (out=bloomF b (d.take k) z0)∧Aside0 (BlS w3.heap.size M b m w4 wq out)) (fun i _=>d.length-(intOf i).toNat)
   case atStart=>exact ⟨0,z0,by omega,rfl,⟨by simp[bloomF]⟩,HS5⟩
   case round=>
    clear HS5
    obtain ⟨k,out,hk,rfl,HO,HS5⟩:=hrel
    have HB5:=mk0 (HB4.out.trans HS5.out.B)
    by_cases hlt:k<d.length
    ·have hlt2:(k:Int)<d.length:=by omega
     obtain ⟨b0,o0,rfl,hx⟩:=sc_open (Kd.C_below HC3.out HB5.out) (by omega)
     have hx1:=hx k hlt
     clear hx
     have HNX:=mk0 (show bloomF b (d.take (k+1)) z0=(spotsL d[k] b).foldl setBit out by unfold bloomF;rw[take_next d k hlt,List.foldl_append,HO.out];rfl)
     have HSS:=mk0 (HS.out d[k] (List.getElem_mem hlt))
     generalize d[k]=s at *
     have f0:=cell_of_heap (i:=0) HS5.out.H rfl
     have HSP:=mk0 (bloom_spots s b ⟨by omega,by omega⟩ HSS.out wr)
     go_wp2_with fail
     (with_reducible refine HSP.out.mono ?_)
     rintro e w6 ⟨v6,rfl,hr6,hb6⟩
     have HS6:=mk0 (show BlS w3.heap.size M b m w4 w6 out from
      have hMl:M<wr.heap.size:=Kd.R_lt HS5.out.R M rfl
      ⟨Kd.R_below HS5.out.R hb6,(hb6.block _ (by omega)).trans HS5.out.H,HS5.out.B.trans (hb6.mono (by omega)),HS5.out.L⟩)
     have HMl:=mk0 (show M<wr.heap.size from Kd.R_lt HS5.out.R M rfl)
     obtain ⟨A6,c6,rfl⟩:=Kd.R_slice hr6
     have HR6:=mk0 hr6
     have HK6:=mk0 (show ∀ x ∈ spotsL s b,0≤x∧x<(b:Int) from fun x hx=>by
      unfold spotsL at hx
      obtain ⟨j,_,rfl⟩:=List.mem_map.1 hx
      exact spotV_range _ _ _ (by omega))
     have HL6:=mk0 (show (spotsL s b).length=4 by simp[spotsL])
     clear hr6 hb6 HSP HS5 f0 HB5 hx1 HSS
     generalize spotsL s b=sp at *
     have hsp4:=HL6.out
     go_wp2_with fail
     go_loopw[47] (fun v47 wq=>∃ (j:Nat) (out2:List UInt8),j≤sp.length∧v47 = .int .i64 j∧Aside0 (out2=(sp.take j).foldl setBit out)∧Aside0 (BlS w3.heap.size M b m w4 wq out2)∧Aside0 ((Kd.int .u64).R 117 wq wr.heap.size (fun _=>True) (.slice A6 sp.length c6) sp)) (fun i _=>sp.length-(intOf i).toNat)
     case atStart=>exact ⟨0,out,by omega,rfl,⟨by simp⟩,HS6,HR6⟩
     case round=>
      clear HS6 HR6
      obtain ⟨j,out2,hj,rfl,HO2,HS6,HR6⟩:=hrel
      by_cases hjl:j<sp.length
      ·have hjl2:(j:Int)<sp.length:=by omega
       have hOL:=HS6.out.L
       obtain ⟨b1,o1,rfl,hx⟩:=sc_open (C_of HR6.out) (by omega)
       have hx1:=hx j hjl
       clear hx
       have HNJ:=mk0 (show (sp.take (j+1)).foldl setBit out=setBit out2 sp[j] by rw[take_next sp j hjl,List.foldl_append,← HO2.out];rfl)
       obtain ⟨hk0,hk1⟩:=HK6.out sp[j] (List.getElem_mem hjl)
       obtain ⟨kn,hkn⟩:∃ kn:Nat,sp[j]=(kn:Int):=⟨sp[j].toNat,by omega⟩
       rw[hkn] at hx1 HNJ hk1
       clear hkn hk0
       have hk8:kn/8<out2.length:=by rw[hOL];have:=HM.out;omega
       obtain ⟨g',c',hv,hv3,hv4,cur,hh,hcur⟩:=u8_row_open HS6.out.R (by omega)
       clear hv3 hv4
       simp only[Value.slice.injEq,Option.some.injEq,Addr.mk.injEq,and_true] at hv
       obtain ⟨rfl,hv1,hv2⟩:=hv
       clear hv1 hv2
       have hcc:=hcur (kn/8) hk8
       have hx0:=cell_of_heap hh hcc
       have hxf:wr.frozen? ⟨M,kn/8,none⟩=false:=frozen_of_heap hh
       unfold encB at hx0
       clear hcc hh hcur
       have f1:=cell_of_heap (i:=1) HS6.out.H rfl
       have HPB2:=mk0 (show setBit out2 kn=out2.set (kn/8) (out2[kn/8] ||| UInt8.ofNat (2 ^ (kn%8))) by simp[setBit,List.getD,List.getElem?_eq_getElem hk8])
       have HSET:=mk0 (fun x:UInt8=>show BlS w3.heap.size M b m w4 (wr.setCell ⟨M,kn/8,none⟩ (encB x)) (out2.set (kn/8) x) from
        ⟨u8_R_set HS6.out.R (kn/8) hk8 x,(Below.heap_setCell _ _ _ _ (by show w3.heap.size≠M;exact hne)).trans HS6.out.H,HS6.out.B.setCell (p:=⟨M,kn/8,none⟩) (Nat.le_of_lt hlw) _,by rw[List.length_set];exact hOL⟩)
       have HRS:=mk0 (fun (i:Nat) (x:Value)=>show (Kd.int .u64).R 117 (wr.setCell ⟨M,i,none⟩ x) _ (fun _=>True) (.slice (some ⟨b1,o1,none⟩) sp.length c6) sp from
        R_moved rfl HR6.out (fun q hq=>Below.heap_setCell _ _ _ _ (by have:=R_base HR6.out q hq;have:=HMl.out;show q≠M;omega)))
       have hr8:kn%8<8:=Nat.mod_lt _ (by omega)
       have hq1:(kn:Int).tdiv 8=((kn/8:Nat):Int):=by rw[Int.tdiv_eq_ediv_of_nonneg (by omega)];omega
       have hq2:(kn:Int)/8=((kn/8:Nat):Int):=by omega
       have hq3:(kn:Int).tmod 8=((kn%8:Nat):Int):=by rw[Int.tmod_eq_emod_of_nonneg (by omega)];omega
       have hq4:(kn:Int)%8=((kn%8:Nat):Int):=by omega
       generalize out2[kn/8]=y at *
       generalize kn/8=i8 at *
       generalize kn%8=r8 at *
       have hq8i:(i8:Int)<m:=by omega
       have hq5:IntKind.u64.wrap (i8:Int)=(i8:Int):=by rw[IntKind.wrap_u64];omega
       have hq6:IntKind.u64.wrap (r8:Int)=(r8:Int):=by rw[IntKind.wrap_u64];omega
       obtain ⟨x,hx8⟩:∃ x,x=UInt8.ofNat (2 ^ r8):=⟨_,rfl⟩
       rw[← hx8] at HPB2
       have hsh:IntKind.u8.wrap ((2:Int) ^ r8)=(x.toNat:Int):=by
        rw[hx8,UInt8.toNat_ofNat',IntKind.wrap_u8,Int.natCast_emod,Int.natCast_pow];rfl
       have hsh2:(2:Int) ^ r8%256=(x.toNat:Int):=by rw[← hsh,IntKind.wrap_u8]
       obtain ⟨z,hz⟩:∃ z,z=y ||| x:=⟨_,rfl⟩
       rw[← hz] at HPB2
       have hor:Go.bits .or .u8 (y.toNat:Int) (x.toNat:Int)=(z.toNat:Int):=by rw[hz];exact or_u8 y x
       have HZ9:=mk0 (HSET.out z)
       have HR9:=mk0 (HRS.out i8 (encB z))
       rw[← HPB2.out,← HNJ.out] at HZ9
       unfold encB at HZ9 HR9
       clear hx8 hz HPB2 HNJ HSET HRS HS6 HR6 hk8 hk1
       go_wp2
       go_roundw
       case rel=>exact ⟨j+1,_,by omega,by go_num,⟨rfl⟩,HZ9,HR9⟩
       case measure=>simp[intOf];omega
      ·have hj2:j=sp.length:=by omega
       subst hj2
       rw[List.take_length,← HNX.out] at HO2
       clear HR6
       go_wp2
       go_roundw
       case rel=>exact ⟨k+1,out2,by omega,by go_num,HO2,HS6⟩
       case measure=>simp[intOf];omega
    ·have hk2:k=d.length:=by omega
     subst hk2
     rw[List.take_length,← HES.out] at HO
     have HO2:=HO.out
     subst HO2
     have hL:=HS5.out.L
     have f0:=cell_of_heap (i:=0) HS5.out.H rfl
     have f1:=cell_of_heap (i:=1) HS5.out.H rfl
     have hw0l:w.heap.size<w0.heap.size:=(Array.getElem?_eq_some_iff.1 HN0.out).1
     have hv:=(HB5.out.block w.heap.size (Nat.lt_of_lt_of_le hw0l B3.out.size)).trans ((B3.out.block w.heap.size hw0l).trans HN0.out)
     have r0:=cell_of_heap (i:=0) hv rfl
     have r1:=cell_of_heap (i:=1) hv rfl
     have e0:=frozen_of_heap (i:=0) hv
     have e1:=frozen_of_heap (i:=1) hv
     have HBF:=mk0 (HB0.out.trans ((B3.out.mono HB0.out.size).trans (HB5.out.mono (Nat.le_trans HB0.out.size B3.out.size))))
     have HSF:=mk0 (((AtZ.start (base:=w.heap.size) hv).set (Nat.le_refl _) 0 (.int .i64 b)).set (Nat.le_refl _) 1 (.slice (some ⟨M,0,none⟩) m m))
     have HSF:=mk0 (show AtZ w.heap.size w.heap.size 150 wr _ #[.int .i64 b,.slice (some ⟨M,0,none⟩) m m] from HSF.out)
     have hMw:M≠w.heap.size:=by have:=HB0.out.size;have:=B3.out.size;omega
     have HCO:=mk0 (Kd.R_lower (base':=w.heap.size) (R_moved rfl HS5.out.R (w':=(wr.setCell ⟨w.heap.size,0,none⟩ (.int .i64 b)).setCell ⟨w.heap.size,1,none⟩ (.slice (some ⟨M,0,none⟩) m m)) (fun q hq=>HSF.out.2.1 q (by simp[Value.ownBlock] at hq;omega))) (by have:=HB0.out.size;have:=B3.out.size;omega))
     clear hv HS5
     go_wp2
     generalize (wr.setCell ⟨w.heap.size,0,none⟩ (.int .i64 b)).setCell ⟨w.heap.size,1,none⟩ (.slice (some ⟨M,0,none⟩) m m)=Wf at *
     have g0:=cell_of_heap (i:=0) HSF.out.1 rfl
     have g1:=cell_of_heap (i:=1) HSF.out.1 rfl
     refine bodyPost_ret (v:=.agg #[.int .i64 b,.slice (some ⟨M,0,none⟩) m m]) (by simp[results,Tryz.results116,go_sem,g0,g1]) rfl ?_
     exact ⟨some ⟨M,0,none⟩,m,by rw[← HBE.out],by omega,HCO.out,HBF.out.trans HSF.out.2.2⟩
end Go.Proofs.YtpiobnfakmmpdaaGreat.Lib0

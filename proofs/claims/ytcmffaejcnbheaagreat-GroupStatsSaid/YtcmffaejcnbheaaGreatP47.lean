import Derived.Test.YtcmffaejcnbheaaGreatP27
import Derived.Test.YtcmffaejcnbheaaGreatP46
set_option linter.unusedVariables false
set_option linter.unusedSimpArgs false
namespace Go.Proofs.YtcmffaejcnbheaaGreat.Lib0
open Go.RowKit Go.Proofs.YtcmffaejcnbheaaGreatW.PrintWords Go.ChangeMaps
structure BlT (g M b m:Nat) (w V:World) (out:List UInt8):Prop where
 R:u8.R 5 V M (fun _=>True) (.slice (some ⟨M,0,none⟩) m m) out
 H:V.heap[g]?=some (.cells #[.int .i64 b,.slice (some ⟨M,0,none⟩) m m] 70)
 B:Below M w V
 L:out.length=m
theorem BlT.drew {g M b m:Nat} {w V:World} {out:List UInt8} (h:BlT g M b m w V out):BlT g M b m w V.drew out:=⟨Kd.R_below h.R (below_drew _ _),h.H,h.B.trans (below_drew _ _),h.L⟩
theorem ref_bits4 (s:ByteArray) (n:Int) (hn:0<n∧n≤1099511627776) (hs:s.size≤1099511627776) (w:World) :
  Calls Tryz.prog 90 #[.string s,.int .i64 n] w fun e w'=>∃ a0 a1 a2 a3,e = .returned (.agg #[.int .i64 a0,.int .i64 a1,.int .i64 a2,.int .i64 a3])∧spotsL s n = [a0,a1,a2,a3]∧Below w.heap.size w w':=
 (ref_bits s n hn hs w).mono fun e w' h=>⟨_,_,_,_,h.1,rfl,h.2⟩
set_option maxHeartbeats 6400000 in
set_option maxRecDepth 100000 in
theorem ref_Bloom (A:Option Addr) (c:Nat) (l:List ByteArray) (w:World) (h:Kd.string.C w A l.length l) (hl:l.length≤65536) (hs:∀ s ∈ l,s.size≤1099511627776) :
  Calls Tryz.prog 51 #[.slice A l.length c] w fun e w'=>
   ∃ A' c',e = .returned (.agg #[.int .i64 (bloomBits (dictL l).length),.slice A' (bloomB l).length c'])∧(bloomB l).length≤c'∧u8.R 5 w' w.heap.size (fun _=>True) (.slice A' (bloomB l).length c') (bloomB l)∧Below w.heap.size w w':=by
 have mixed:Tryz.prog.follows .mixedOrders=true:=by kernel_rfl
 have late:Tryz.prog.follows .lateStores=true:=by kernel_rfl
 have HL:=mk0 hl
 have HS:=mk0 (show ∀ s ∈ dictL l,s.size≤1099511627776 from fun s hm=>hs s (dictL_mem hm))
 obtain ⟨w0,hw0⟩:∃ w0,w0=w.alloc (.cells #[.int .i64 0,.slice none 0 0] 70):=⟨_,rfl⟩
 have hn0:=heap_alloc_new w (.cells #[.int .i64 0,.slice none 0 0] 70)
 have hb0:=below_alloc (Below.refl w.heap.size w) (.cells #[.int .i64 0,.slice none 0 0] 70)
 rw[← hw0] at hn0 hb0
 have HN0:=mk0 hn0
 have HB0:=mk0 hb0
 have HC1:=mk0 (ref_Build7 A c l w0 (Kd.C_below h hb0) (by omega))
 have HDL:=mk0 (show (dictL l).length≤l.length by unfold dictL;have:=compL_len (sortL l);rw[sortL_len] at this;exact this)
 have HBB:=mk0 (Eq.refl (bloomB l))
 obtain ⟨d,hd⟩:∃ d,d=dictL l:=⟨_,rfl⟩
 have HE:=mk0 (show bloomB l=bloomF (bloomBits d.length) d (List.replicate (bloomBits d.length/8) 0) by rw[hd];rfl)
 rw[← hd] at HDL HS HC1 ⊢
 generalize bloomB l=R at *
 clear h hl hd hn0 hb0 hs HBB
 go_enter Tryz.func51,Tryz.ntmps51
 go_wp2_with fail
 rw[← hw0]
 clear hw0
 (with_reducible refine HC1.out.mono ?_)
 rintro e w3 ⟨v3,v4,rfl,hr3,hb3⟩
 obtain ⟨A3,c3,rfl⟩:=Kd.R_slice hr3
 have HC3:=mk0 (Kd.R_reads' hr3).2.2
 have B3:=mk0 hb3
 clear hr3 hb3 HC1
 have hdl:d.length≤65536:=by have:=HDL.out;have:=HL.out;omega
 have hdi:(d.length:Int)≤65536:=by omega
 have h8:IntKind.i64.wrap (8*(d.length:Int))=8*(d.length:Int):=by rw[IntWalk.i64_in _ (by omega)]
 have h8w:wrap64 (8*(d.length:Int))=8*(d.length:Int):=by unfold wrap64;omega
 go_wp2_with fail
 go_loopg[5] 10 (fun f v5 wr=>∃ b:Nat,v5 = .int .i64 b∧Aside0 (b*2 ^ f=65536∧bitsF f b d.length=bloomBits d.length∧64≤b∧b≤65536)∧w3=wr)
 case atStart=>exact ⟨64,rfl,⟨by decide,rfl,by decide,by decide⟩,rfl⟩
 case round=>
  obtain ⟨b,rfl,HF,rfl⟩:=hrel
  have hb1:=HF.out.2.2.1
  have hb2:=HF.out.2.2.2
  have hb3:(b:Int)≤65536:=by omega
  by_cases h2:b<8*d.length
  ·have d2:decide ((b:Int)<8*d.length)=true:=decide_eq_true (by omega)
   by_cases h1:b<65536
   ·have d1:decide ((b:Int)<65536)=true:=decide_eq_true (by omega)
    have hm:IntKind.i64.wrap (2*(b:Int))=((2*b:Nat):Int):=by rw[IntWalk.i64_in _ (by omega)];omega
    have hm2:wrap64 (2*(b:Int))=((2*b:Nat):Int):=by unfold wrap64;omega
    obtain ⟨f',hf'⟩:∃ f',gk=f'+1:=by
     rcases gk with _ | f'
     ·have:=HF.out.1
      simp at this
      omega
     ·exact ⟨f',rfl⟩
    have HF2:=mk0 (show (2*b)*2 ^ f'=65536∧bitsF f' (2*b) d.length=bloomBits d.length∧64≤2*b∧2*b≤65536 by
     obtain ⟨q1,q2,q3,q4⟩:=HF.out
     rw[hf'] at q1 q2
     rw[bitsF,if_pos ⟨h1,h2⟩] at q2
     have q5:(2*b)*2 ^ f'=65536:=by rw[← q1,Nat.pow_succ];simp only[Nat.mul_comm,Nat.mul_left_comm,Nat.mul_assoc]
     refine ⟨q5,q2,by omega,?_⟩
     have:1≤2 ^ f':=Nat.one_le_two_pow
     calc 2*b=2*b*1:=(Nat.mul_one _).symm
      _≤2*b*2 ^ f':=Nat.mul_le_mul_left _ this
      _=65536:=q5)
    clear HF
    generalize 2*b=b2 at *
    go_wp2
    go_roundg f'
    case measure=>omega
    case rel=>exact ⟨b2,by first | rfl | go_num,HF2,by first | rfl | trivial⟩
   ·have d1:decide ((b:Int)<65536)=false:=decide_eq_false (by omega)
    have HBE:=mk0 (show b=bloomBits d.length by
     have h:=HF.out.2.1
     rcases gk with _ | f'
     ·exact h
     ·rw[bitsF,if_neg (by rintro ⟨a1,a2⟩;omega)] at h
      exact h)
    have hmod:b%64=0:=by rw[HBE.out];exact (bloomBits_ok _).2.2
    obtain ⟨m,hm⟩:∃ m:Nat,b=8*m:=⟨b/8,by omega⟩
    have hq1:(b:Int).tdiv 8=(m:Int):=by rw[Int.tdiv_eq_ediv_of_nonneg (by omega)];omega
    have hq2:(b:Int)/8=(m:Int):=by omega
    have hq3:IntKind.i64.wrap (m:Int)=(m:Int):=by rw[IntWalk.i64_in _ (by omega)]
    have hm8:(m:Int)≤8192:=by omega
    have hmk:=print_make_int (P:=Tryz.prog) 24 5 (.int .u8 0) 1 Tryz.underlying24 info_u8 rfl (by omega) (m:Int) (by omega) (by omega)
    rw[made_bytes,Int.toNat_natCast] at hmk
    have HM:=mk0 hm
    clear hmod hm HF
    obtain ⟨z0,hz0⟩:∃ z0,z0=List.replicate m (0:UInt8):=⟨_,rfl⟩
    rw[← hz0] at hmk
    obtain ⟨cs,hcs⟩:∃ cs,cs=(List.map encB z0).toArray:=⟨_,rfl⟩
    rw[← hcs] at hmk
    have HZ0:=mk0 hz0
    have HCS:=mk0 hcs
    clear hz0 hcs
    go_wp2_with fail
    have HS5:Aside0 (BlT (w3.heap.size+1) w3.heap.size b m w3 ((w3.alloc (.cells cs 5)).alloc (.cells #[.int .i64 b,.slice (some ⟨w3.heap.size,0,none⟩) m m] 70)) z0):=by
     have hzl:z0.length=m:=by rw[HZ0.out];simp
     refine ⟨?_,?_,?_,hzl⟩
     ·rw[HCS.out]
      have:=R_lit w3 z0 5 (by omega)
      rw[hzl] at this
      exact Kd.R_alloc this _
     ·have:=heap_alloc_new (w3.alloc (.cells cs 5)) (.cells #[.int .i64 b,.slice (some ⟨w3.heap.size,0,none⟩) m m] 70)
      rw[show (w3.alloc (.cells cs 5)).heap.size=w3.heap.size+1 by simp] at this
      exact this
     ·exact (below_alloc (Below.refl _ w3) _).trans ((below_alloc (Below.refl _ _) _).mono (by simp))
    generalize (w3.alloc (.cells cs 5)).alloc (.cells #[.int .i64 b,.slice (some ⟨w3.heap.size,0,none⟩) m m] 70)=w5 at *
    obtain ⟨M,hM⟩:∃ M,M=w3.heap.size:=⟨_,rfl⟩
    rw[← hM] at HS5 ⊢
    have HMW:=mk0 hM
    have HES:=mk0 (show R=bloomF b d z0 from HE.out.trans (by rw[HZ0.out,← HBE.out,HM.out,Nat.mul_div_cancel_left m (by decide)]))
    clear hmk HCS hM d2 hq1 hq2 hq3 h8 h8w
    go_loopw[7] (fun v7 wq=>∃ (k:Nat) (out:List UInt8),k≤d.length∧v7 = .int .i64 k∧Aside0 (out=bloomF b (d.take k) z0)∧Aside0 (BlT (M+1) M b m w3 wq out)) (fun i _=>d.length-(intOf i).toNat)
    case atStart=>exact ⟨0,z0,by omega,rfl,⟨by simp[bloomF]⟩,HS5⟩
    case round=>
     clear HS5
     obtain ⟨k,out,hk,rfl,HO,HS5⟩:=hrel
     have HB5:=mk0 (show Below w3.heap.size w3 wr by rw[← HMW.out];exact HS5.out.B)
     have hgl:M+1<wr.heap.size:=(Array.getElem?_eq_some_iff.1 HS5.out.H).1
     by_cases hlt:k<d.length
     ·have hlt2:(k:Int)<d.length:=by omega
      obtain ⟨b0,o0,rfl,hx⟩:=str_open (Kd.C_below HC3.out HB5.out) (by omega)
      have hx1:=hx k hlt
      clear hx
      have HNX:=mk0 (show bloomF b (d.take (k+1)) z0=(spotsL d[k] b).foldl setBit out by unfold bloomF;rw[take_next d k hlt,List.foldl_append,HO.out];rfl)
      have HSS:=mk0 (HS.out d[k] (List.getElem_mem hlt))
      generalize d[k]=s at *
      have HSP:=mk0 (ref_bits4 s b ⟨by omega,by omega⟩ HSS.out wr)
      go_wp2_with fail
      (with_reducible refine HSP.out.mono ?_)
      rintro e w6 ⟨a0,a1,a2,a3,rfl,hsp,hb6⟩
      have HS6:=mk0 (show BlT (M+1) M b m w3 w6 out from ⟨Kd.R_below HS5.out.R hb6,(hb6.block _ hgl).trans HS5.out.H,HS5.out.B.trans (hb6.mono (by omega)),HS5.out.L⟩)
      have hgl6:M+1<w6.heap.size:=(Array.getElem?_eq_some_iff.1 HS6.out.H).1
      have HK6:=mk0 (show ∀ x ∈ spotsL s b,0≤x∧x<(b:Int) from fun x hx=>by
       unfold spotsL at hx
       obtain ⟨j,_,rfl⟩:=List.mem_map.1 hx
       exact spotV_range _ _ _ (by omega))
      rw[hsp] at HK6 HNX
      clear hb6 HSP HS5 HB5 hx1 HSS hsp
      go_wp2_with fail
      have hxn:=heap_alloc_new w6 (.cells #[.int .i64 a0,.int .i64 a1,.int .i64 a2,.int .i64 a3] 170)
      have hba:=below_alloc (Below.refl w6.heap.size w6) (.cells #[.int .i64 a0,.int .i64 a1,.int .i64 a2,.int .i64 a3] 170)
      have HS7:=mk0 (show BlT (M+1) M b m w3 (w6.alloc (.cells #[.int .i64 a0,.int .i64 a1,.int .i64 a2,.int .i64 a3] 170)) out from ⟨Kd.R_alloc HS6.out.R _,(hba.block _ hgl6).trans HS6.out.H,HS6.out.B.trans (hba.mono (by omega)),HS6.out.L⟩)
      generalize w6.alloc (.cells #[.int .i64 a0,.int .i64 a1,.int .i64 a2,.int .i64 a3] 170)=w7 at *
      obtain ⟨X,hX⟩:∃ X,X=w6.heap.size:=⟨_,rfl⟩
      rw[← hX] at hxn hgl6 ⊢
      obtain ⟨sp,hsp⟩:∃ sp:List Int,sp = [a0,a1,a2,a3]:=⟨_,rfl⟩
      have HX7:=mk0 (show w7.heap[X]?=some (.cells (sp.map (Value.int .i64)).toArray 170 (0,0)) by rw[hsp];exact hxn)
      rw[← hsp] at HK6 HNX
      have hsp4:sp.length=4:=by rw[hsp];rfl
      clear hX hsp hxn hba HS6
      go_loopw[9] (fun v9 wq=>∃ (j:Nat) (out2:List UInt8),j≤sp.length∧v9 = .int .i64 j∧Aside0 (out2=(sp.take j).foldl setBit out)∧Aside0 (BlT (M+1) M b m w3 wq out2)∧Aside0 (wq.heap[X]?=some (.cells (sp.map (Value.int .i64)).toArray 170 (0,0)))) (fun i _=>sp.length-(intOf i).toNat)
      case atStart=>exact ⟨0,out,by omega,rfl,⟨by simp⟩,HS7,HX7⟩
      case round=>
       clear HS7 HX7
       obtain ⟨j,out2,hj,rfl,HO2,HS6,HX6⟩:=hrel
       by_cases hjl:j<sp.length
       ·have hjl2:(j:Int)<4:=by omega
        have hjl3:j<4:=by omega
        have hOL:=HS6.out.L
        have hx1:wr.cell? ⟨X,j,none⟩=some (.int .i64 sp[j]):=cell_of_heap (i:=j) HX6.out (by simp[List.getElem?_eq_getElem hjl])
        have HNJ:=mk0 (show (sp.take (j+1)).foldl setBit out=setBit out2 sp[j] by rw[take_next sp j hjl,List.foldl_append,← HO2.out];rfl)
        obtain ⟨hk0,hk1⟩:=HK6.out sp[j] (List.getElem_mem hjl)
        obtain ⟨kn,hkn⟩:∃ kn:Nat,sp[j]=(kn:Int):=⟨sp[j].toNat,by omega⟩
        rw[hkn] at hx1 HNJ hk1
        clear hkn hk0
        have hk8:kn/8<out2.length:=by rw[hOL];have:=HM.out;omega
        obtain ⟨g',c',hv,hv3,hv4,cur,hh,hcur⟩:=u8_row_open HS6.out.R (by omega)
        clear hv3 hv4
        simp only[Value.slice.injEq,Option.some.injEq,Addr.mk.injEq,and_true] at hv
        obtain ⟨rfl,hv1,hv2⟩:=hv
        clear hv1 hv2
        have hcc:=hcur (kn/8) hk8
        have hx0:=cell_of_heap hh hcc
        have hxf:wr.frozen? ⟨M,kn/8,none⟩=false:=frozen_of_heap hh
        unfold encB at hx0
        clear hcc hh hcur
        have f1:=cell_of_heap (i:=1) HS6.out.H rfl
        have HPB2:=mk0 (show setBit out2 kn=out2.set (kn/8) (out2[kn/8] ||| UInt8.ofNat (2 ^ (kn%8))) by simp[setBit,List.getD,List.getElem?_eq_getElem hk8])
        have HSET:=mk0 (fun x:UInt8=>show BlT (M+1) M b m w3 (wr.setCell ⟨M,kn/8,none⟩ (encB x)) (out2.set (kn/8) x) from
         ⟨u8_R_set HS6.out.R (kn/8) hk8 x,(Below.heap_setCell _ _ _ _ (by show M+1≠M;omega)).trans HS6.out.H,HS6.out.B.setCell (p:=⟨M,kn/8,none⟩) (Nat.le_refl _) _,by rw[List.length_set];exact hOL⟩)
        have HXS:=mk0 (fun (i:Nat) (x:Value)=>show (wr.setCell ⟨M,i,none⟩ x).heap[X]?=_ from (Below.heap_setCell _ _ _ _ (by show X≠M;omega)).trans HX6.out)
        have hr8:kn%8<8:=Nat.mod_lt _ (by omega)
        have hq1:(kn:Int).tdiv 8=((kn/8:Nat):Int):=by rw[Int.tdiv_eq_ediv_of_nonneg (by omega)];omega
        have hq2:(kn:Int)/8=((kn/8:Nat):Int):=by omega
        have hq3:(kn:Int).tmod 8=((kn%8:Nat):Int):=by rw[Int.tmod_eq_emod_of_nonneg (by omega)];omega
        have hq4:(kn:Int)%8=((kn%8:Nat):Int):=by omega
        generalize out2[kn/8]=y at *
        generalize kn/8=i8 at *
        generalize kn%8=r8 at *
        have hq8i:(i8:Int)<m:=by omega
        have hq5:IntKind.i64.wrap (i8:Int)=(i8:Int):=by rw[IntWalk.i64_in _ (by omega)]
        have hq7:IntKind.i64.wrap (r8:Int)=(r8:Int):=by rw[IntWalk.i64_in _ (by omega)]
        have hq6:IntKind.u64.wrap (r8:Int)=(r8:Int):=by rw[IntKind.wrap_u64];omega
        obtain ⟨x,hx8⟩:∃ x,x=UInt8.ofNat (2 ^ r8):=⟨_,rfl⟩
        rw[← hx8] at HPB2
        have hsh:IntKind.u8.wrap ((2:Int) ^ r8)=(x.toNat:Int):=by
         rw[hx8,UInt8.toNat_ofNat',IntKind.wrap_u8,Int.natCast_emod,Int.natCast_pow];rfl
        have hsh2:(2:Int) ^ r8%256=(x.toNat:Int):=by rw[← hsh,IntKind.wrap_u8]
        obtain ⟨z,hz⟩:∃ z,z=y ||| x:=⟨_,rfl⟩
        rw[← hz] at HPB2
        have hor:Go.bits .or .u8 (y.toNat:Int) (x.toNat:Int)=(z.toNat:Int):=by rw[hz];exact or_u8 y x
        have HZ9:=mk0 (HSET.out z)
        have HX9:=mk0 (HXS.out i8 (encB z))
        rw[← HPB2.out,← HNJ.out] at HZ9
        unfold encB at HZ9 HX9
        clear hx8 hz HPB2 HNJ HSET HXS HS6 HX6 hk8 hk1
        go_wp2_with fail
        apply cutL
        ·intro key
         go_region
         all_goals exact key.out
        refine ⟨?_⟩
        go_wp2
        go_roundw
        case rel=>exact ⟨j+1,_,by omega,by go_num,⟨rfl⟩,⟨HZ9.out.drew⟩,HX9⟩
        case measure=>simp[intOf];omega
       ·have hj2:j=sp.length:=by omega
        have hji:¬ (j:Int)<4:=by omega
        subst hj2
        rw[List.take_length,← HNX.out] at HO2
        clear HX6
        go_wp2
        go_roundw
        case rel=>exact ⟨k+1,out2,by omega,by go_num,HO2,HS6⟩
        case measure=>simp[intOf];omega
     ·have hk2:k=d.length:=by omega
      subst hk2
      rw[List.take_length,← HES.out] at HO
      have HO2:=HO.out
      subst HO2
      have hL:=HS5.out.L
      have f0:=cell_of_heap (i:=0) HS5.out.H rfl
      have f1:=cell_of_heap (i:=1) HS5.out.H rfl
      have hw0l:w.heap.size<w0.heap.size:=(Array.getElem?_eq_some_iff.1 HN0.out).1
      have hv:=(HB5.out.block w.heap.size (Nat.lt_of_lt_of_le hw0l B3.out.size)).trans ((B3.out.block w.heap.size hw0l).trans HN0.out)
      have r0:=cell_of_heap (i:=0) hv rfl
      have r1:=cell_of_heap (i:=1) hv rfl
      have e0:=frozen_of_heap (i:=0) hv
      have e1:=frozen_of_heap (i:=1) hv
      have HBF:=mk0 (HB0.out.trans ((B3.out.mono HB0.out.size).trans (HB5.out.mono (Nat.le_trans HB0.out.size B3.out.size))))
      have HSF:=mk0 (((AtZ.start (base:=w.heap.size) hv).set (Nat.le_refl _) 0 (.int .i64 b)).set (Nat.le_refl _) 1 (.slice (some ⟨M,0,none⟩) m m))
      have HSF:=mk0 (show AtZ w.heap.size w.heap.size 70 wr _ #[.int .i64 b,.slice (some ⟨M,0,none⟩) m m] from HSF.out)
      have hMw:M≠w.heap.size:=by have:=HMW.out;have:=HB0.out.size;have:=B3.out.size;omega
      have HCO:=mk0 (Kd.R_lower (base':=w.heap.size) (R_moved rfl HS5.out.R (w':=(wr.setCell ⟨w.heap.size,0,none⟩ (.int .i64 b)).setCell ⟨w.heap.size,1,none⟩ (.slice (some ⟨M,0,none⟩) m m)) (fun q hq=>HSF.out.2.1 q (by simp[Value.ownBlock] at hq;omega))) (by have:=HMW.out;have:=HB0.out.size;have:=B3.out.size;omega))
      clear hv HS5
      go_wp2
      generalize (wr.setCell ⟨w.heap.size,0,none⟩ (.int .i64 b)).setCell ⟨w.heap.size,1,none⟩ (.slice (some ⟨M,0,none⟩) m m)=Wf at *
      have g0:=cell_of_heap (i:=0) HSF.out.1 rfl
      have g1:=cell_of_heap (i:=1) HSF.out.1 rfl
      refine bodyPost_ret (v:=.agg #[.int .i64 b,.slice (some ⟨M,0,none⟩) m m]) (by simp[results,Tryz.results51,go_sem,g0,g1]) rfl ?_
      exact ⟨some ⟨M,0,none⟩,m,by rw[← HBE.out],by omega,HCO.out,HBF.out.trans HSF.out.2.2⟩
  ·have d2:decide ((b:Int)<8*d.length)=false:=decide_eq_false (by omega)
   have HBE:=mk0 (show b=bloomBits d.length by
    have h:=HF.out.2.1
    rcases gk with _ | f'
    ·exact h
    ·rw[bitsF,if_neg (by rintro ⟨a1,a2⟩;omega)] at h
     exact h)
   have hmod:b%64=0:=by rw[HBE.out];exact (bloomBits_ok _).2.2
   obtain ⟨m,hm⟩:∃ m:Nat,b=8*m:=⟨b/8,by omega⟩
   have hq1:(b:Int).tdiv 8=(m:Int):=by rw[Int.tdiv_eq_ediv_of_nonneg (by omega)];omega
   have hq2:(b:Int)/8=(m:Int):=by omega
   have hq3:IntKind.i64.wrap (m:Int)=(m:Int):=by rw[IntWalk.i64_in _ (by omega)]
   have hm8:(m:Int)≤8192:=by omega
   have hmk:=print_make_int (P:=Tryz.prog) 24 5 (.int .u8 0) 1 Tryz.underlying24 info_u8 rfl (by omega) (m:Int) (by omega) (by omega)
   rw[made_bytes,Int.toNat_natCast] at hmk
   have HM:=mk0 hm
   clear hmod hm HF
   obtain ⟨z0,hz0⟩:∃ z0,z0=List.replicate m (0:UInt8):=⟨_,rfl⟩
   rw[← hz0] at hmk
   obtain ⟨cs,hcs⟩:∃ cs,cs=(List.map encB z0).toArray:=⟨_,rfl⟩
   rw[← hcs] at hmk
   have HZ0:=mk0 hz0
   have HCS:=mk0 hcs
   clear hz0 hcs
   go_wp2_with fail
   have HS5:Aside0 (BlT (w3.heap.size+1) w3.heap.size b m w3 ((w3.alloc (.cells cs 5)).alloc (.cells #[.int .i64 b,.slice (some ⟨w3.heap.size,0,none⟩) m m] 70)) z0):=by
    have hzl:z0.length=m:=by rw[HZ0.out];simp
    refine ⟨?_,?_,?_,hzl⟩
    ·rw[HCS.out]
     have:=R_lit w3 z0 5 (by omega)
     rw[hzl] at this
     exact Kd.R_alloc this _
    ·have:=heap_alloc_new (w3.alloc (.cells cs 5)) (.cells #[.int .i64 b,.slice (some ⟨w3.heap.size,0,none⟩) m m] 70)
     rw[show (w3.alloc (.cells cs 5)).heap.size=w3.heap.size+1 by simp] at this
     exact this
    ·exact (below_alloc (Below.refl _ w3) _).trans ((below_alloc (Below.refl _ _) _).mono (by simp))
   generalize (w3.alloc (.cells cs 5)).alloc (.cells #[.int .i64 b,.slice (some ⟨w3.heap.size,0,none⟩) m m] 70)=w5 at *
   obtain ⟨M,hM⟩:∃ M,M=w3.heap.size:=⟨_,rfl⟩
   rw[← hM] at HS5 ⊢
   have HMW:=mk0 hM
   have HES:=mk0 (show R=bloomF b d z0 from HE.out.trans (by rw[HZ0.out,← HBE.out,HM.out,Nat.mul_div_cancel_left m (by decide)]))
   clear hmk HCS hM d2 hq1 hq2 hq3 h8 h8w
   go_loopw[7] (fun v7 wq=>∃ (k:Nat) (out:List UInt8),k≤d.length∧v7 = .int .i64 k∧Aside0 (out=bloomF b (d.take k) z0)∧Aside0 (BlT (M+1) M b m w3 wq out)) (fun i _=>d.length-(intOf i).toNat)
   case atStart=>exact ⟨0,z0,by omega,rfl,⟨by simp[bloomF]⟩,HS5⟩
   case round=>
    clear HS5
    obtain ⟨k,out,hk,rfl,HO,HS5⟩:=hrel
    have HB5:=mk0 (show Below w3.heap.size w3 wr by rw[← HMW.out];exact HS5.out.B)
    have hgl:M+1<wr.heap.size:=(Array.getElem?_eq_some_iff.1 HS5.out.H).1
    by_cases hlt:k<d.length
    ·have hlt2:(k:Int)<d.length:=by omega
     obtain ⟨b0,o0,rfl,hx⟩:=str_open (Kd.C_below HC3.out HB5.out) (by omega)
     have hx1:=hx k hlt
     clear hx
     have HNX:=mk0 (show bloomF b (d.take (k+1)) z0=(spotsL d[k] b).foldl setBit out by unfold bloomF;rw[take_next d k hlt,List.foldl_append,HO.out];rfl)
     have HSS:=mk0 (HS.out d[k] (List.getElem_mem hlt))
     generalize d[k]=s at *
     have HSP:=mk0 (ref_bits4 s b ⟨by omega,by omega⟩ HSS.out wr)
     go_wp2_with fail
     (with_reducible refine HSP.out.mono ?_)
     rintro e w6 ⟨a0,a1,a2,a3,rfl,hsp,hb6⟩
     have HS6:=mk0 (show BlT (M+1) M b m w3 w6 out from ⟨Kd.R_below HS5.out.R hb6,(hb6.block _ hgl).trans HS5.out.H,HS5.out.B.trans (hb6.mono (by omega)),HS5.out.L⟩)
     have hgl6:M+1<w6.heap.size:=(Array.getElem?_eq_some_iff.1 HS6.out.H).1
     have HK6:=mk0 (show ∀ x ∈ spotsL s b,0≤x∧x<(b:Int) from fun x hx=>by
      unfold spotsL at hx
      obtain ⟨j,_,rfl⟩:=List.mem_map.1 hx
      exact spotV_range _ _ _ (by omega))
     rw[hsp] at HK6 HNX
     clear hb6 HSP HS5 HB5 hx1 HSS hsp
     go_wp2_with fail
     have hxn:=heap_alloc_new w6 (.cells #[.int .i64 a0,.int .i64 a1,.int .i64 a2,.int .i64 a3] 170)
     have hba:=below_alloc (Below.refl w6.heap.size w6) (.cells #[.int .i64 a0,.int .i64 a1,.int .i64 a2,.int .i64 a3] 170)
     have HS7:=mk0 (show BlT (M+1) M b m w3 (w6.alloc (.cells #[.int .i64 a0,.int .i64 a1,.int .i64 a2,.int .i64 a3] 170)) out from ⟨Kd.R_alloc HS6.out.R _,(hba.block _ hgl6).trans HS6.out.H,HS6.out.B.trans (hba.mono (by omega)),HS6.out.L⟩)
     generalize w6.alloc (.cells #[.int .i64 a0,.int .i64 a1,.int .i64 a2,.int .i64 a3] 170)=w7 at *
     obtain ⟨X,hX⟩:∃ X,X=w6.heap.size:=⟨_,rfl⟩
     rw[← hX] at hxn hgl6 ⊢
     obtain ⟨sp,hsp⟩:∃ sp:List Int,sp = [a0,a1,a2,a3]:=⟨_,rfl⟩
     have HX7:=mk0 (show w7.heap[X]?=some (.cells (sp.map (Value.int .i64)).toArray 170 (0,0)) by rw[hsp];exact hxn)
     rw[← hsp] at HK6 HNX
     have hsp4:sp.length=4:=by rw[hsp];rfl
     clear hX hsp hxn hba HS6
     go_loopw[9] (fun v9 wq=>∃ (j:Nat) (out2:List UInt8),j≤sp.length∧v9 = .int .i64 j∧Aside0 (out2=(sp.take j).foldl setBit out)∧Aside0 (BlT (M+1) M b m w3 wq out2)∧Aside0 (wq.heap[X]?=some (.cells (sp.map (Value.int .i64)).toArray 170 (0,0)))) (fun i _=>sp.length-(intOf i).toNat)
     case atStart=>exact ⟨0,out,by omega,rfl,⟨by simp⟩,HS7,HX7⟩
     case round=>
      clear HS7 HX7
      obtain ⟨j,out2,hj,rfl,HO2,HS6,HX6⟩:=hrel
      by_cases hjl:j<sp.length
      ·have hjl2:(j:Int)<4:=by omega
       have hjl3:j<4:=by omega
       have hOL:=HS6.out.L
       have hx1:wr.cell? ⟨X,j,none⟩=some (.int .i64 sp[j]):=cell_of_heap (i:=j) HX6.out (by simp[List.getElem?_eq_getElem hjl])
       have HNJ:=mk0 (show (sp.take (j+1)).foldl setBit out=setBit out2 sp[j] by rw[take_next sp j hjl,List.foldl_append,← HO2.out];rfl)
       obtain ⟨hk0,hk1⟩:=HK6.out sp[j] (List.getElem_mem hjl)
       obtain ⟨kn,hkn⟩:∃ kn:Nat,sp[j]=(kn:Int):=⟨sp[j].toNat,by omega⟩
       rw[hkn] at hx1 HNJ hk1
       clear hkn hk0
       have hk8:kn/8<out2.length:=by rw[hOL];have:=HM.out;omega
       obtain ⟨g',c',hv,hv3,hv4,cur,hh,hcur⟩:=u8_row_open HS6.out.R (by omega)
       clear hv3 hv4
       simp only[Value.slice.injEq,Option.some.injEq,Addr.mk.injEq,and_true] at hv
       obtain ⟨rfl,hv1,hv2⟩:=hv
       clear hv1 hv2
       have hcc:=hcur (kn/8) hk8
       have hx0:=cell_of_heap hh hcc
       have hxf:wr.frozen? ⟨M,kn/8,none⟩=false:=frozen_of_heap hh
       unfold encB at hx0
       clear hcc hh hcur
       have f1:=cell_of_heap (i:=1) HS6.out.H rfl
       have HPB2:=mk0 (show setBit out2 kn=out2.set (kn/8) (out2[kn/8] ||| UInt8.ofNat (2 ^ (kn%8))) by simp[setBit,List.getD,List.getElem?_eq_getElem hk8])
       have HSET:=mk0 (fun x:UInt8=>show BlT (M+1) M b m w3 (wr.setCell ⟨M,kn/8,none⟩ (encB x)) (out2.set (kn/8) x) from
        ⟨u8_R_set HS6.out.R (kn/8) hk8 x,(Below.heap_setCell _ _ _ _ (by show M+1≠M;omega)).trans HS6.out.H,HS6.out.B.setCell (p:=⟨M,kn/8,none⟩) (Nat.le_refl _) _,by rw[List.length_set];exact hOL⟩)
       have HXS:=mk0 (fun (i:Nat) (x:Value)=>show (wr.setCell ⟨M,i,none⟩ x).heap[X]?=_ from (Below.heap_setCell _ _ _ _ (by show X≠M;omega)).trans HX6.out)
       have hr8:kn%8<8:=Nat.mod_lt _ (by omega)
       have hq1:(kn:Int).tdiv 8=((kn/8:Nat):Int):=by rw[Int.tdiv_eq_ediv_of_nonneg (by omega)];omega
       have hq2:(kn:Int)/8=((kn/8:Nat):Int):=by omega
       have hq3:(kn:Int).tmod 8=((kn%8:Nat):Int):=by rw[Int.tmod_eq_emod_of_nonneg (by omega)];omega
       have hq4:(kn:Int)%8=((kn%8:Nat):Int):=by omega
       generalize out2[kn/8]=y at *
       generalize kn/8=i8 at *
       generalize kn%8=r8 at *
       have hq8i:(i8:Int)<m:=by omega
       have hq5:IntKind.i64.wrap (i8:Int)=(i8:Int):=by rw[IntWalk.i64_in _ (by omega)]
       have hq7:IntKind.i64.wrap (r8:Int)=(r8:Int):=by rw[IntWalk.i64_in _ (by omega)]
       have hq6:IntKind.u64.wrap (r8:Int)=(r8:Int):=by rw[IntKind.wrap_u64];omega
       obtain ⟨x,hx8⟩:∃ x,x=UInt8.ofNat (2 ^ r8):=⟨_,rfl⟩
       rw[← hx8] at HPB2
       have hsh:IntKind.u8.wrap ((2:Int) ^ r8)=(x.toNat:Int):=by
        rw[hx8,UInt8.toNat_ofNat',IntKind.wrap_u8,Int.natCast_emod,Int.natCast_pow];rfl
       have hsh2:(2:Int) ^ r8%256=(x.toNat:Int):=by rw[← hsh,IntKind.wrap_u8]
       obtain ⟨z,hz⟩:∃ z,z=y ||| x:=⟨_,rfl⟩
       rw[← hz] at HPB2
       have hor:Go.bits .or .u8 (y.toNat:Int) (x.toNat:Int)=(z.toNat:Int):=by rw[hz];exact or_u8 y x
       have HZ9:=mk0 (HSET.out z)
       have HX9:=mk0 (HXS.out i8 (encB z))
       rw[← HPB2.out,← HNJ.out] at HZ9
       unfold encB at HZ9 HX9
       clear hx8 hz HPB2 HNJ HSET HXS HS6 HX6 hk8 hk1
       go_wp2_with fail
       apply cutL
       ·intro key
        go_region
        all_goals exact key.out
       refine ⟨?_⟩
       go_wp2
       go_roundw
       case rel=>exact ⟨j+1,_,by omega,by go_num,⟨rfl⟩,⟨HZ9.out.drew⟩,HX9⟩
       case measure=>simp[intOf];omega
      ·have hj2:j=sp.length:=by omega
       have hji:¬ (j:Int)<4:=by omega
       subst hj2
       rw[List.take_length,← HNX.out] at HO2
       clear HX6
       go_wp2
       go_roundw
       case rel=>exact ⟨k+1,out2,by omega,by go_num,HO2,HS6⟩
       case measure=>simp[intOf];omega
    ·have hk2:k=d.length:=by omega
     subst hk2
     rw[List.take_length,← HES.out] at HO
     have HO2:=HO.out
     subst HO2
     have hL:=HS5.out.L
     have f0:=cell_of_heap (i:=0) HS5.out.H rfl
     have f1:=cell_of_heap (i:=1) HS5.out.H rfl
     have hw0l:w.heap.size<w0.heap.size:=(Array.getElem?_eq_some_iff.1 HN0.out).1
     have hv:=(HB5.out.block w.heap.size (Nat.lt_of_lt_of_le hw0l B3.out.size)).trans ((B3.out.block w.heap.size hw0l).trans HN0.out)
     have r0:=cell_of_heap (i:=0) hv rfl
     have r1:=cell_of_heap (i:=1) hv rfl
     have e0:=frozen_of_heap (i:=0) hv
     have e1:=frozen_of_heap (i:=1) hv
     have HBF:=mk0 (HB0.out.trans ((B3.out.mono HB0.out.size).trans (HB5.out.mono (Nat.le_trans HB0.out.size B3.out.size))))
     have HSF:=mk0 (((AtZ.start (base:=w.heap.size) hv).set (Nat.le_refl _) 0 (.int .i64 b)).set (Nat.le_refl _) 1 (.slice (some ⟨M,0,none⟩) m m))
     have HSF:=mk0 (show AtZ w.heap.size w.heap.size 70 wr _ #[.int .i64 b,.slice (some ⟨M,0,none⟩) m m] from HSF.out)
     have hMw:M≠w.heap.size:=by have:=HMW.out;have:=HB0.out.size;have:=B3.out.size;omega
     have HCO:=mk0 (Kd.R_lower (base':=w.heap.size) (R_moved rfl HS5.out.R (w':=(wr.setCell ⟨w.heap.size,0,none⟩ (.int .i64 b)).setCell ⟨w.heap.size,1,none⟩ (.slice (some ⟨M,0,none⟩) m m)) (fun q hq=>HSF.out.2.1 q (by simp[Value.ownBlock] at hq;omega))) (by have:=HMW.out;have:=HB0.out.size;have:=B3.out.size;omega))
     clear hv HS5
     go_wp2
     generalize (wr.setCell ⟨w.heap.size,0,none⟩ (.int .i64 b)).setCell ⟨w.heap.size,1,none⟩ (.slice (some ⟨M,0,none⟩) m m)=Wf at *
     have g0:=cell_of_heap (i:=0) HSF.out.1 rfl
     have g1:=cell_of_heap (i:=1) HSF.out.1 rfl
     refine bodyPost_ret (v:=.agg #[.int .i64 b,.slice (some ⟨M,0,none⟩) m m]) (by simp[results,Tryz.results51,go_sem,g0,g1]) rfl ?_
     exact ⟨some ⟨M,0,none⟩,m,by rw[← HBE.out],by omega,HCO.out,HBF.out.trans HSF.out.2.2⟩
end Go.Proofs.YtcmffaejcnbheaaGreat.Lib0

import Derived.Test.YtpiobnfakmmpdaaGreatP05
set_option linter.unusedVariables false
set_option linter.unusedSimpArgs false
namespace Go.Proofs.YtpiobnfakmmpdaaGreat.Lib0
open Go.RowKit Go.Proofs.YtpiobnfakmmpdaaGreatW.PrintWords Go.ChangeMaps
theorem sc_R_set {α:Type} {enc:α→Value} {h1:∀ x,(enc x).oneCell'=true} {e:Nat} {w:World} {base g n c:Nat} {l:List α} (h:(Kd.scalar enc h1).R e w base (fun _=>True) (.slice (some ⟨g,0,none⟩) n c) l) (i:Nat) (hi:i<l.length) (x:α) :
  (Kd.scalar enc h1).R e (w.setCell ⟨g,i,none⟩ (enc x)) base (fun _=>True) (.slice (some ⟨g,0,none⟩) n c) (l.set i x):=by
 have h:=Kd.own_of_R h
 refine Kd.R_of_own ?_ (fun _ _=>trivial)
 obtain ⟨h1,h2⟩:=h
 rcases h2 with ⟨h2,_⟩ | ⟨g',cap,cur,hv,hb,hh,r1,r2,r3,r4⟩
 ·cases h2
 ·simp only[Value.slice.injEq,Option.some.injEq,Addr.mk.injEq,and_true] at hv
  obtain ⟨rfl,rfl,rfl⟩:=hv
  refine ⟨by simp[encs],.inr ⟨g,c,cur.setIfInBounds i (enc x),by simp,hb,heap_at_setCell hh,by simpa using r1,r2,by simpa using r3,?_⟩⟩
  simp only[List.length_set,Nat.mul_one,encs] at r4 ⊢
  rw[Array.toList_setIfInBounds,List.take_set,r4,List.map_set]
theorem sc_row_open {α:Type} {enc:α→Value} {h1:∀ x,(enc x).oneCell'=true} {e:Nat} {w:World} {base:Nat} {v:Value} {l:List α} (h:(Kd.scalar enc h1).R e w base (fun _=>True) v l) (hn:0<l.length):∃ g c,v = .slice (some ⟨g,0,none⟩) l.length c∧base≤g∧l.length≤c∧∃ cur,w.heap[g]?=some (.cells cur e (0,0))∧∀ i (hi:i<l.length),cur[i]?=some (enc l[i]):=by
 obtain ⟨h1,h2⟩:=Kd.own_of_R h
 rcases h2 with ⟨_,h2⟩ | ⟨g,cap,cur,hv,hb,hh,r1,r2,r3,r4⟩
 ·omega
 ·refine ⟨g,cap,hv,hb,r1,cur,hh,fun i hi=>?_⟩
  have:(cur.toList.take (l.length*1))[i]?=(encs enc l)[i]?:=by rw[r4]
  rw[List.getElem?_take_of_lt (by omega)] at this
  rw[← Array.getElem?_toList,this]
  simp[encs,hi]
def bitAt (l:List UInt8) (p:Nat):Nat:=(l.getD (p/8) 0).toNat/2 ^ (p%8)%2
set_option maxHeartbeats 3200000 in
set_option maxRecDepth 100000 in
theorem bits_bit (A:Option Addr) (c:Nat) (l:List UInt8) (bx:Nat) (p:Nat) (w:World) (hb:w.cell? ⟨bx,0,none⟩=some (.slice A l.length c)) (h:u8.C w A l.length l) (hp:p<8*l.length) (hl:l.length≤1099511627776) :
  Calls Tryz.prog 274 #[.int .i64 p,.pointer (some ⟨bx,0,none⟩)] w fun e w'=>e = .returned (.int .u64 (bitAt l p))∧w=w':=by
 obtain ⟨b,o,rfl,hx⟩:=u8_open h (by omega)
 have hi:p/8<l.length:=by omega
 have hx1:=hx (p/8) hi
 have hbit:bitAt l p=l[p/8].toNat/2 ^ (p%8)%2:=by simp[bitAt,List.getD,List.getElem?_eq_getElem hi]
 have hqw:IntKind.i64.wrap ((p:Int)/8)=((p/8:Nat):Int):=by rw[IntWalk.i64_in _ (by omega)];omega
 have hqw0:(p:Int)/8=((p/8:Nat):Int):=by omega
 have hqm:(p:Int).tmod 8=((p%8:Nat):Int):=by rw[Int.tmod_eq_emod_of_nonneg (by omega)];omega
 have hqr2:(p:Int)%8=((p%8:Nat):Int):=by omega
 have hqr:IntKind.i64.wrap ((p:Int)%8)=((p%8:Nat):Int):=by rw[hqr2,IntWalk.i64_in _ (by omega)]
 have hpb:(p:Int)<8796093022209:=by omega
 have hr8:p%8<8:=Nat.mod_lt _ (by omega)
 clear hx h
 rw[hbit]
 generalize l[p/8]=y at *
 generalize p/8=i8 at *
 generalize p%8=r8 at *
 have hi8:(i8:Int)<l.length:=by omega
 clear hbit hqw0
 obtain ⟨q,hq⟩:∃ q,q=y.toNat/2 ^ r8%2:=⟨_,rfl⟩
 have hylt:=y.toNat_lt
 have hand:Go.bits .and .u64 (IntKind.u64.wrap ((y.toNat:Int)/2 ^ r8)) 1=(q:Int):=by
  have e1:((y.toNat:Int)/2 ^ r8)=((y.toNat/2 ^ r8:Nat):Int):=by rw[Int.natCast_ediv,Int.natCast_pow];rfl
  have e2:=and_u64 (y.toNat/2 ^ r8) 1 (Nat.lt_of_le_of_lt (Nat.div_le_self _ _) (by omega)) (by omega)
  rw[Nat.and_one_is_mod,← hq] at e2
  have e3:y.toNat/2 ^ r8<256:=Nat.lt_of_le_of_lt (Nat.div_le_self _ _) hylt
  have e5:(0:Int)≤((y.toNat/2 ^ r8:Nat):Int):=Int.natCast_nonneg _
  have e4:IntKind.u64.wrap ((y.toNat/2 ^ r8:Nat):Int)=((y.toNat/2 ^ r8:Nat):Int):=by rw[IntKind.wrap_u64];omega
  rw[e1,e4]
  exact e2
 rw[← hq]
 clear hq hylt
 go_enter Tryz.func274,Tryz.ntmps274
 go_wp2
 go_ret
 exact ⟨rfl,rfl⟩
def valK (l:List UInt8) (p:Nat):Nat→Nat→Nat→Nat
 | 0,_,acc=>acc
 | m+1,k,acc=>valK l p m (k+1) (acc ||| (bitAt l (p+k)*2 ^ k)%18446744073709551616)
def unpackB (l:List UInt8) (n wd:Nat):List Nat:=(List.range n).map (fun i=>valK l (i*wd) wd 0 0)
theorem bitAt_lt (l:List UInt8) (p:Nat):bitAt l p<2:=by unfold bitAt;omega
def ToldN (T:TypeId) (w:World) (r:List Nat) (why:Int) (e:Ending) (w':World):Prop:=
 ∃ v,e = .returned (.tuple #[v,.int .i64 why])∧kn.R T w' w.heap.size (fun _=>True) v r∧Below w.heap.size w w'
theorem info_u64:(Tryz.prog.info? 117).map (fun i=>(i.zero,i.size,i.bytes))=some (some (.int .u64 0),1,8):=by kernel_rfl
theorem made_nums (n:Nat):madeCells #[.int .u64 0] n=((List.replicate n (0:Nat)).map (fun n:Nat=>Value.int .u64 (n:Int))).toArray:=by
 apply Array.ext
 ·simp[madeCells]
 ·intro i h1 h2
  simp[madeCells,Nat.mod_one]
theorem kn_R_lit (w:World) (l:List Nat) (e:TypeId) (hn:l.length≤1099511627776):kn.R e (w.alloc (.cells (l.map (fun n:Nat=>Value.int .u64 (n:Int))).toArray e)) w.heap.size (fun _=>True) (.slice (some ⟨w.heap.size,0,none⟩) l.length l.length) l:=
 Kd.R_of_own (enc:=fun n:Nat=>Value.int .u64 (n:Int)) ⟨by simp[encs],.inr ⟨w.heap.size,l.length,(l.map (fun n:Nat=>Value.int .u64 (n:Int))).toArray,rfl,Nat.le_refl _,heap_alloc_new w _,Nat.le_refl _,by simp[maxLen];omega,by simp,by simp only[Nat.mul_one,encs];rw[List.take_of_length_le (by simp)]⟩⟩ (fun _ _=>trivial)
theorem wrap_small (x:Nat) (h:x<9223372036854775808):IntKind.i64.wrap (x:Int)=x:=IntWalk.i64_in _ (by omega)
theorem wrap64_small (x:Nat) (h:x<9223372036854775808):wrap64 (x:Int)=x:=by unfold wrap64;omega
def progL (l:List UInt8) (n wd k:Nat):List Nat:=(List.range n).map (fun i=>if i<k then valK l (i*wd) wd 0 0 else 0)
theorem progL_len (l:List UInt8) (n wd k:Nat):(progL l n wd k).length=n:=by simp[progL]
theorem progL_zero (l:List UInt8) (n wd:Nat):progL l n wd 0=List.replicate n 0:=by
 apply List.ext_getElem (by simp[progL])
 intro i h1 h2
 simp[progL]
theorem progL_set (l:List UInt8) (n wd k:Nat) (hk:k<n):(progL l n wd k).set k (valK l (k*wd) wd 0 0)=progL l n wd (k+1):=by
 apply List.ext_getElem (by simp[progL])
 intro i h1 h2
 rw[List.getElem_set]
 simp only[progL,List.getElem_map,List.getElem_range]
 split
 ·rename_i h;subst h;rw[if_pos (by omega)]
 ·rename_i h
  by_cases h3:i<k
  ·rw[if_pos h3,if_pos (by omega)]
  ·rw[if_neg h3,if_neg (by omega)]
theorem progL_get (l:List UInt8) (n wd k:Nat) (hk:k<n):(progL l n wd k).set k 0=progL l n wd k:=by
 apply List.ext_getElem (by simp[progL])
 intro i h1 h2
 rw[List.getElem_set]
 simp only[progL,List.getElem_map,List.getElem_range]
 split
 ·rename_i h;subst h;rw[if_neg (by omega)]
 ·rfl
theorem progL_all (l:List UInt8) (n wd:Nat):progL l n wd n=unpackB l n wd:=by
 unfold progL unpackB
 apply List.map_congr_left
 intro i hi
 rw[if_pos (List.mem_range.1 hi)]
set_option maxHeartbeats 6400000 in
set_option maxRecDepth 100000 in
theorem bits_Unpack (A:Option Addr) (c:Nat) (l:List UInt8) (n wd:Nat) (w:World) (h:u8.C w A l.length l) (hl:l.length≤1099511627776) (hn:n≤16777216) (hwd:wd≤64) (hex:n*wd=8*l.length) :
  Calls Tryz.prog 272 #[.slice A l.length c,.int .i64 n,.int .i64 wd] w (ToldN 117 w (unpackB l n wd) 0):=by
 have HC:=mk0 h
 have HS:=mk0 (fun W=>bits_Size n wd W hn hwd)
 have hsz:sizeB n wd=l.length:=by unfold sizeB;omega
 rw[hsz] at HS
 have hd1:decide ((wd:Int)<0)=false:=decide_eq_false (by omega)
 have hd2:decide (64<(wd:Int))=false:=decide_eq_false (by omega)
 have hd3:decide ((n:Int)<0)=false:=decide_eq_false (by omega)
 have hd4:decide (16777216<(n:Int))=false:=decide_eq_false (by omega)
 have hlb:(l.length:Int)≤1099511627776:=by omega
 have HL:=mk0 hl
 have HEX:=mk0 hex
 have HL8:=mk0 (show 8*l.length<9223372036854775808 by omega)
 have hmk:=print_make_int (P:=Tryz.prog) 191 117 (.int .u64 0) 8 Tryz.underlying191 info_u64 rfl (by omega) (n:Int) (by omega) (by omega)
 rw[made_nums,Int.toNat_natCast] at hmk
 have HNB:=mk0 hn
 have HWB:=mk0 hwd
 clear h hl hsz
 go_enter Tryz.func272,Tryz.ntmps272
 go_wp2_with fail
 have hbox:(w.alloc (.cells #[.slice A l.length c] 22)).cell? ⟨w.heap.size,0,none⟩=some (.slice A l.length c):=cell_of_heap (heap_alloc_new w _) rfl
 have B1:=mk0 (below_alloc (Below.refl w.heap.size w) (.cells #[.slice A l.length c] 22))
 have hblt:w.heap.size<(w.alloc (.cells #[.slice A l.length c] 22)).heap.size:=by simp
 obtain ⟨bx,hbx⟩:∃ bx,bx=w.heap.size:=⟨_,rfl⟩
 have HBX:=mk0 hbx
 rw[← hbx] at hbox hblt ⊢
 clear hbx
 generalize w.alloc (.cells #[.slice A l.length c] 22)=w1 at *
 have HBOX:=mk0 (fun (W:World) (hb:Below w1.heap.size w1 W)=>show W.cell? ⟨bx,0,none⟩=some (.slice A l.length c) from (hb.cell (p:=⟨bx,0,none⟩) hblt).trans hbox)
 have HC1:=mk0 (Kd.C_below HC.out B1.out)
 have hmul:(n:Int)*wd=8*(l.length:Int):=by rw[← Int.natCast_mul,HEX.out,Int.natCast_mul];rfl
 go_quiet ((go_at_call 273;refine Calls.quiet_of_same ((HS.out _).mono fun e w' h=>⟨h.1,h.2.symm⟩)))
 have BQ:=Drawn0.below (Drawn0.step (Drawn0.refl w1) nq)
 have hbox2:=HBOX.out _ BQ
 have B2:=mk0 BQ
 clear BQ
 generalize w1.drewN nq=w2 at *
 go_wp2_with fail
 go_quiet ((go_at_call 273;refine Calls.quiet_of_same ((HS.out _).mono fun e w' h=>⟨h.1,h.2.symm⟩)))
 have BQ:=B2.out.trans ((Drawn0.below (Drawn0.step (Drawn0.refl w2) nq)).mono B2.out.size)
 have hbox3:=HBOX.out _ BQ
 have B3:=mk0 BQ
 clear BQ hbox2
 generalize w2.drewN nq=w3 at *
 go_wp2_with fail
 go_loopw[9] (fun v9 wr=>v9 = .int .i64 (8*(l.length:Int))∧wr=w3) (fun _ _=>1)
 case atStart=>exact ⟨rfl,rfl⟩
 case round=>
  obtain ⟨rfl,rfl⟩:=hrel
  obtain ⟨ob,hob⟩:∃ ob,ob=Obj.cells ((List.replicate n (0:Nat)).map (fun n:Nat=>Value.int .u64 (n:Int))).toArray 117:=⟨_,rfl⟩
  have HR0:=mk0 (kn_R_lit wr (List.replicate n (0:Nat)) 117 (by simp;have:=HNB.out;omega))
  rw[List.length_replicate,← hob] at HR0
  rw[← hob] at hmk
  clear hob
  have B4:=mk0 (B3.out.trans ((below_alloc (Below.refl wr.heap.size wr) ob).mono B3.out.size))
  obtain ⟨g,hg⟩:∃ g,g=wr.heap.size:=⟨_,rfl⟩
  have hgl:=B3.out.size
  have hmk2:=hmk wr
  rw[← hg] at HR0 hgl hmk2
  have HGL:=mk0 hgl
  clear hg hmk hgl
  have hn0:(0:Int)≤n:=by omega
  go_wp2_with fail
  generalize wr.alloc ob=w4 at *
  go_loopw[60] (fun v60 wq=>∃ (k:Nat),k≤n∧v60 = .int .i64 k∧Aside0 (kn.R 117 wq g (fun _=>True) (.slice (some ⟨g,0,none⟩) n n) (progL l n wd k))∧Aside0 (Below w1.heap.size w1 wq)) (fun i _=>n-(intOf i).toNat)
  case atStart=>exact ⟨0,by omega,rfl,⟨by rw[progL_zero];exact HR0.out⟩,B4⟩
  case round=>
   obtain ⟨k,hk,rfl,HR,HB⟩:=hrel
   by_cases hlt:k<n
   ·have hlt2:(k:Int)<n:=by omega
    obtain ⟨kw,hkw⟩:∃ kw,kw=k*wd:=⟨_,rfl⟩
    have HKW:=mk0 (show kw+wd≤8*l.length by
     have h6:=Nat.mul_le_mul_right wd (show k+1≤n from hlt)
     rw[Nat.succ_mul] at h6
     have:=HEX.out
     omega)
    have HSE:=mk0 (progL_set l n wd k hlt)
    rw[← hkw] at HSE
    obtain ⟨V,hV⟩:∃ V,V=valK l kw wd 0 0:=⟨_,rfl⟩
    rw[← hV] at HSE
    have HV:=mk0 hV.symm
    have hkwi:(k:Int)*wd=(kw:Int):=by rw[hkw,Int.natCast_mul]
    have hkwi2:IntKind.i64.wrap ((k:Int)*wd)=(kw:Int):=by rw[hkwi];exact wrap_small _ (Nat.lt_of_le_of_lt (Nat.le_trans (Nat.le_add_right _ _) HKW.out) HL8.out)
    have hkwi3:wrap64 ((k:Int)*wd)=(kw:Int):=by rw[hkwi];exact wrap64_small _ (Nat.lt_of_le_of_lt (Nat.le_trans (Nat.le_add_right _ _) HKW.out) HL8.out)
    have HPL:=mk0 (progL_len l n wd k)
    have HR1:=mk0 HR.out
    rw[← progL_get l n wd k hlt] at HR1
    clear hkw hV
    generalize progL l n wd k=pr at *
    go_wp2_with fail
    go_loopw[64] (fun v64 wz=>∃ (j m acc:Nat),Aside0 (j+m=wd)∧v64 = .int .i64 j∧Aside0 (valK l kw m j acc=V)∧Aside0 (U64 acc)∧Aside0 (kn.R 117 wz g (fun _=>True) (.slice (some ⟨g,0,none⟩) n n) (pr.set k acc))∧Aside0 (Below w1.heap.size w1 wz)) (fun i _=>wd-(intOf i).toNat)
    case atStart=>exact ⟨0,wd,0,⟨by omega⟩,rfl,HV,⟨by unfold U64;omega⟩,HR1,HB⟩
    case round=>
     clear HR1 HR HB
     obtain ⟨j,m,acc,HJ,rfl,HE,HU,HR,HB⟩:=hrel
     rcases m with _ | m
     ·have hj:¬ (j:Int)<wd:=by have:=HJ.out;omega
      have hj2:¬ j<wd:=by have:=HJ.out;omega
      have HE2:=mk0 (show acc=V by rw[← HE.out,valK])
      go_wp2
      go_roundw
      case rel=>exact ⟨k+1,by omega,by go_num,⟨by rw[← HSE.out,← HE2.out];exact HR.out⟩,HB⟩
      case measure=>simp[intOf];omega
     ·have hj:(j:Int)<wd:=by have:=HJ.out;omega
      have hlen:k<(pr.set k acc).length:=by rw[List.length_set,HPL.out];exact hlt
      obtain ⟨g',c',hv,hv3,hv4,cur,hh,hcur⟩:=sc_row_open HR.out (by omega)
      clear hv3 hv4
      simp only[Value.slice.injEq,Option.some.injEq,Addr.mk.injEq,and_true] at hv
      obtain ⟨rfl,hv1,hv2⟩:=hv
      clear hv1 hv2
      have hcc:=hcur k hlen
      rw[List.getElem_set_self] at hcc
      have hx0:wr.cell? ⟨g,k,none⟩=some (.int .u64 (acc:Int)):=cell_of_heap hh hcc
      have hxf:wr.frozen? ⟨g,k,none⟩=false:=frozen_of_heap hh
      clear hcc hh hcur
      have hjn:j<wd:=by have:=HJ.out;omega
      have hbnd:kw+j<8*l.length:=Nat.lt_of_lt_of_le (Nat.add_lt_add_left hjn kw) HKW.out
      have hbx:=HBOX.out wr HB.out
      have HBI:=mk0 (bits_bit A c l bx (kw+j) wr.drew hbx (Kd.C_below HC1.out (HB.out.trans (below_drew _ _))) hbnd HL.out)
      have hkj:(kw:Int)+j=((kw+j:Nat):Int):=(Int.natCast_add kw j).symm
      have hkj2:IntKind.i64.wrap ((kw:Int)+j)=((kw+j:Nat):Int):=by rw[hkj];exact wrap_small _ (Nat.lt_trans hbnd HL8.out)
      have hkw1:IntKind.i64.wrap (kw:Int)=(kw:Int):=wrap_small _ (Nat.lt_of_le_of_lt (Nat.le_trans (Nat.le_add_right _ _) HKW.out) HL8.out)
      have hkj1:IntKind.i64.wrap ((kw+j:Nat):Int)=((kw+j:Nat):Int):=wrap_small _ (Nat.lt_trans hbnd HL8.out)
      have hmin:min j 64=j:=Nat.min_eq_left (Nat.le_trans (Nat.le_of_lt hjn) HWB.out)
      clear hbnd hjn
      rw[valK] at HE
      have HSET:=mk0 (fun W (hr:kn.R 117 W g (fun _=>True) (.slice (some ⟨g,0,none⟩) n n) (pr.set k acc)) (x:Nat)=>sc_R_set hr k hlen x)
      simp only[List.set_set] at HSET
      have hqlt:=bitAt_lt l (kw+j)
      obtain ⟨x,hx⟩:∃ x,x=(bitAt l (kw+j)*2 ^ j)%18446744073709551616:=⟨_,rfl⟩
      rw[← hx] at HE
      have hsh:IntKind.u64.wrap ((bitAt l (kw+j):Int)*2 ^ j)=(x:Int):=by
       rw[hx,IntKind.wrap_u64,Int.natCast_emod,Int.natCast_mul,Int.natCast_pow];rfl
      have hxl:U64 x:=by rw[hx];exact Nat.mod_lt _ (by decide)
      have hsh2:IntKind.u64.wrap ((bitAt l (kw+j):Int)*2 ^ min j 64)=(x:Int):=by rw[hmin];exact hsh
      have hor:=or_u64 acc x HU.out hxl
      have HZU:=mk0 (or_lt64 HU.out hxl)
      generalize acc ||| x=z at *
      generalize bitAt l (kw+j)=q at *
      clear hx hxl
      obtain ⟨kj,hkjj⟩:∃ kj,kj=kw+j:=⟨_,rfl⟩
      rw[← hkjj] at hkj hkj1 hkj2 HBI
      clear hkjj
      go_wp2_with fail
      refine wp_region_still_tail 15 (by kernel_rfl) (by kernel_rfl) ?_
      simp only[List.take_succ_cons,List.take_zero,List.drop_succ_cons,List.drop_zero]
      iterate 10 still_step
      still_call (HBI.out.mono fun e w' h=>⟨h.1,h.2.symm⟩)
      iterate 4 still_step
      refine wpStill_nil ?_
      change wpList _ _ _ _ _ wr.drew
      have hx1d:wr.drew.cell? ⟨g,k,none⟩=some (.int .u64 (acc:Int)):=hx0
      have hx2d:wr.drew.frozen? ⟨g,k,none⟩=false:=hxf
      have RD:=mk0 (Kd.R_below HR.out (below_drew wr.heap.size wr))
      have BD:=mk0 (HB.out.trans (below_drew _ wr))
      clear hx0 hxf hsh hsh2 hmin hor hbx hkj hkj2 hkj1 hkw1
      generalize wr.drew=w5 at *
      have RS:=mk0 (HSET.out w5 RD.out z)
      have BS:=mk0 (BD.out.setCell (p:=⟨g,k,none⟩) HGL.out (.int .u64 (z:Int)))
      go_wp2
      go_roundw
      case rel=>exact ⟨j+1,m,z,⟨by have:=HJ.out;omega⟩,by go_num,HE,HZU,RS,BS⟩
      case measure=>have:=HJ.out;simp[intOf];omega
   ·obtain rfl:k=n:=by omega
    have HA:=mk0 HR.out
    rw[progL_all] at HA
    go_wp2
    go_ret2
    exact ⟨_,rfl,Kd.R_lower HA.out (Nat.le_trans B1.out.size HGL.out),B1.out.trans (HB.out.mono B1.out.size)⟩
end Go.Proofs.YtpiobnfakmmpdaaGreat.Lib0

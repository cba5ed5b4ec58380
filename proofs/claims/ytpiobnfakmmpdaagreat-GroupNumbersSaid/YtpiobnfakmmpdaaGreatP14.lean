import Derived.Test.YtpiobnfakmmpdaaGreatP13
set_option linter.unusedVariables false
set_option linter.unusedSimpArgs false
namespace Go.Proofs.YtpiobnfakmmpdaaGreat.Lib0
open Go.RowKit Go.Proofs.YtpiobnfakmmpdaaGreatW.PrintWords Go.ChangeMaps
def nullsL (l:List CellM):List Nat:=l.map fun c=>if c.kind=0 then 1 else 0
def numsB:List CellM→List UInt8
 | []=>[]
 | c :: l=>(if c.kind=1 then putV (zig c.n) else [])++numsB l
def textsOf:List CellM→List ByteArray
 | []=>[]
 | c :: l=>(if c.kind=0∨c.kind=1 then [] else [c.s])++textsOf l
def bodyF (kind:Int) (l:List CellM):Nat × List UInt8:=
 if kind=2 then (if (dictL (textsOf l)).length≤16 then (2,codedB (dictL (textsOf l)) (placesL (dictL (textsOf l)) (textsOf l))) else (3,textsB (textsOf l)))
 else (1,numsB l)
def chunkB (kind:Int) (l:List CellM):List UInt8 × Int:=
 if kind≠1∧kind≠2 then ([],22) else
 if 65536<l.length then ([],4) else
 if l.any (fun c=>!rightB kind c) then ([],1) else
 (putV (bodyF kind l).1++putV l.length++(runsB (nullsL l) 1).1++(bodyF kind l).2,0)
theorem numsB_app (a b:List CellM):numsB (a++b)=numsB a++numsB b:=by
 induction a with
 | nil=>rfl
 | cons c a ih=>rw[List.cons_append,numsB,numsB,ih,List.append_assoc]
theorem textsOf_app (a b:List CellM):textsOf (a++b)=textsOf a++textsOf b:=by
 induction a with
 | nil=>rfl
 | cons c a ih=>rw[List.cons_append,textsOf,textsOf,ih,List.append_assoc]
theorem textsB_app (a b:List ByteArray):textsB (a++b)=textsB a++textsB b:=by
 induction a with
 | nil=>rfl
 | cons c a ih=>rw[List.cons_append,textsB,textsB,ih,List.append_assoc]
theorem take_next {α:Type} (l:List α) (k:Nat) (h:k<l.length):l.take (k+1)=l.take k++[l[k]]:=List.take_succ_eq_append_getElem h
theorem R_grown_ne {α β:Type} {d:Kd α} {d':Kd β} {e e':Nat} {w w1:World} {base base':Nat} {ok ok':Nat→Prop} {v u:Value} {l:List α} {l':List β} (hE:d.E = []) (h:d.R e w base ok v l) (h':d'.R e' w base' ok' u l') (hne:e≠e') (hg:w.grownBy w1 u.ownBlock):d.R e w1 base ok v l:=by
 refine R_moved hE h (fun k hk=>hg.block k (R_lt h k hk) (fun he=>?_))
 obtain ⟨inner,ho⟩:=Kd.R_own h
 obtain ⟨cells,hc⟩:=own_typed ho k hk
 exact R_not_at h' hc hne he.symm
theorem R_set_ne {α:Type} {d:Kd α} {e:Nat} {w:World} {base:Nat} {ok:Nat→Prop} {v:Value} {l:List α} (hE:d.E = []) (h:d.R e w base ok v l) {g:Nat} {cs:Array Value} {t:TypeId} {fr:Nat × Nat} (hk:w.heap[g]?=some (.cells cs t fr)) (ht:t≠e) (i:Nat) (u:Value):d.R e (w.setCell ⟨g,i,none⟩ u) base ok v l:=
 R_moved hE h (fun k hv=>Below.heap_setCell _ _ _ _ (fun he=>by subst he;exact R_not_at h hk ht hv))
theorem sc_C_lit {α:Type} {enc:α→Value} {h1:∀ x,(enc x).oneCell'=true} (w:World) (l:List α) (e:TypeId) (hn:l.length≤9223372036854775807):(Kd.scalar enc h1).C (w.alloc (.cells (l.map enc).toArray e)) (some ⟨w.heap.size,0,none⟩) l.length l:=by
 refine ⟨rfl,hn,fun _=>⟨_,rfl,fun j p hp=>⟨[enc p],rfl,rfl,fun i u hu=>?_⟩⟩⟩
 have hi:i=0:=by
  rcases i with _ | i
  ·rfl
  ·simp at hu
 subst hi
 simp only[List.getElem?_cons_zero,Option.some.injEq] at hu
 subst hu
 have e1:(⟨w.heap.size,0,none⟩:Addr).add (j*(Kd.scalar enc h1).sz+0)=⟨w.heap.size,j,none⟩:=by
  rw[add_plain];show (⟨w.heap.size,j*1+0,none⟩:Addr)=_;simp
 rw[e1]
 have hh:=heap_alloc_new w (.cells (l.map enc).toArray e)
 unfold World.cell?
 simp only[hh]
 simp[hp]
theorem right_kinds {kind:Int} {c:CellM} (h:rightB kind c=true):c.kind=0∨(c.kind=kind∧(kind=1∨c.s.size≤40)):=by
 simp[rightB] at h
 rcases h with h | ⟨h1,h2⟩
 ·exact .inl h
 ·exact .inr ⟨h1,h2⟩
theorem bsS_le (d:List ByteArray) (s:ByteArray):∀ (f i j:Nat),bsS d s f i j≤max i j
 | 0,i,j=>by rw[bsS];omega
 | f+1,i,j=>by
  rw[bsS]
  split
  ·split
   ·have:=bsS_le d s f ((i+j)/2+1) j;omega
   ·have:=bsS_le d s f i ((i+j)/2);omega
  ·omega
theorem findS_le (d:List ByteArray) (s:ByteArray):(findS d s).1≤d.length:=by
 unfold findS findB
 split
 ·have:=bsS_le d s d.length 0 d.length;simp;omega
 ·simp
theorem placesL_range (d l:List ByteArray):∀ x ∈ placesL d l,0≤x∧x≤d.length:=by
 intro x hx
 obtain ⟨s,_,rfl⟩:=List.mem_map.1 hx
 have:=findS_le d s
 omega
theorem concat3 (A B D:Option Addr) (ca cb cd:Nat) (x y z:List UInt8) (w:World) (hx:u8.C w A x.length x) (hy:u8.C w B y.length y) (hz:u8.C w D z.length z) (lx:x.length≤ca) (ly:y.length≤cb) (lz:z.length≤cd) (hs:x.length+y.length+z.length≤1099511627776) :
  Calls Tryz.prog 106 #[.slice (some ⟨w.heap.size,0,none⟩) 3 3] (w.alloc (.cells #[.slice A x.length ca,.slice B y.length cb,.slice D z.length cd] 22)) (Row 5 (w.alloc (.cells #[.slice A x.length ca,.slice B y.length cb,.slice D z.length cd] 22)) (x++y++z)):=by
 have hk:=sc_C_lit (enc:=fun h:SlH=>Value.slice h.A h.n h.c) (h1:=fun _=>rfl) w [⟨A,x.length,ca⟩,⟨B,y.length,cb⟩,⟨D,z.length,cd⟩] 22 (by simp)
 have e1:(List.map (fun h:SlH=>Value.slice h.A h.n h.c) [⟨A,x.length,ca⟩,⟨B,y.length,cb⟩,⟨D,z.length,cd⟩]).toArray=#[.slice A x.length ca,.slice B y.length cb,.slice D z.length cd]:=rfl
 rw[e1] at hk
 have BL:=below_alloc (Below.refl w.heap.size w) (.cells #[.slice A x.length ca,.slice B y.length cb,.slice D z.length cd] 22)
 generalize w.alloc (.cells #[.slice A x.length ca,.slice B y.length cb,.slice D z.length cd] 22)=w1 at *
 have hh:Heads u8 w1 [⟨A,x.length,ca⟩,⟨B,y.length,cb⟩,⟨D,z.length,cd⟩] [x,y,z]:=by
  refine ⟨rfl,fun i h1 h2=>?_⟩
  have h3:i<3:=h1
  rcases i with _ | _ | _ | i
  ·exact ⟨rfl,lx,Kd.C_below hx BL⟩
  ·exact ⟨rfl,ly,Kd.C_below hy BL⟩
  ·exact ⟨rfl,lz,Kd.C_below hz BL⟩
  ·omega
 have:=concat_u8 (some ⟨w.heap.size,0,none⟩) 3 _ _ w1 hk hh (by unfold sumN;simp;omega)
 have e2:[x,y,z].flatten=x++y++z:=by simp
 rw[e2] at this
 exact this
theorem made_keep (l:List Nat) (k:Nat) (hk:k<l.length) (h0:l[k]=0):l.take k++List.replicate (l.length-k) 0=l.take (k+1)++List.replicate (l.length-(k+1)) 0:=by
 rw[List.take_succ_eq_append_getElem hk,h0,List.append_assoc]
 congr 1
 rw[show l.length-k=(l.length-(k+1))+1 by omega,List.replicate_succ];rfl
theorem dict_Build0 (w:World):Calls Tryz.prog 104 #[.slice none 0 0] w (BuildS w (dictL []) (placesL (dictL []) [])):=dict_Build none 0 [] w (str_nil w) (by simp)
theorem right_only {kind:Int} {l:List CellM} (h:l.any (fun c=>!rightB kind c)=false):∀ c ∈ l,rightB kind c=true:=by
 intro c hc
 rw[List.any_eq_false] at h
 have:=h c hc
 simpa using this
set_option maxHeartbeats 1600000 in
set_option maxRecDepth 100000 in
theorem chunk_bad (A:Option Addr) (c:Nat) (kind:Int) (l:List CellM) (w:World) (hk:kind≠1∧kind≠2) :
  Calls Tryz.prog 55 #[.int .i64 kind,.slice A l.length c] w (ToldB 5 w (chunkB kind l).1 (chunkB kind l).2):=by
 have B0:=mk0 (below_alloc (Below.refl w.heap.size w) (.cells #[.int .i64 kind] 3))
 have HF:=mk0 (show chunkB kind l=([],22) by unfold chunkB;rw[if_pos hk])
 have h1:(kind==1)=false:=by rw[beq_eq_false_iff_ne];exact hk.1
 have h2:(kind==2)=false:=by rw[beq_eq_false_iff_ne];exact hk.2
 have h1b:(kind != 1)=true:=by rw[bne_iff_ne];exact hk.1
 have h2b:(kind != 2)=true:=by rw[bne_iff_ne];exact hk.2
 clear hk
 go_enter Tryz.func55,Tryz.ntmps55
 go_wp2
 go_ret2
 rw[HF.out]
 exact ⟨_,rfl,Kd.R_nil _ _ _ _ _,B0.out⟩
set_option maxHeartbeats 6400000 in
set_option maxRecDepth 100000 in
theorem chunk_Encode1 (A:Option Addr) (c:Nat) (l:List CellM) (w:World) (h:kc.C w A l.length l) (hl:l.length≤1099511627776) (hi:∀ c ∈ l,I64 c.n) :
  Calls Tryz.prog 55 #[.int .i64 1,.slice A l.length c] w (ToldB 5 w (chunkB 1 l).1 (chunkB 1 l).2):=by
 have hli:(l.length:Int)≤1099511627776:=by omega
 have HI:=mk0 hi
 have HL:=mk0 hl
 obtain ⟨r,hr⟩:∃ r,r=chunkB 1 l:=⟨_,rfl⟩
 rw[← hr]
 have HR:=mk0 hr
 clear hr
 go_enter Tryz.func55,Tryz.ntmps55
 have HB0:=below_alloc (Below.refl w.heap.size w) (.cells #[.int .i64 1] 3)
 have hsz:(w.alloc (.cells #[.int .i64 1] 3)).heap.size=w.heap.size+1:=by simp
 have hx0:=cell_of_heap (i:=0) (heap_alloc_new w (.cells #[.int .i64 1] 3)) rfl
 obtain ⟨kb,hkb⟩:∃ kb,kb=w.heap.size:=⟨_,rfl⟩
 have x0:=hx0
 obtain ⟨wb,hwb⟩:∃ wb,wb=w.alloc (.cells #[.int .i64 1] 3):=⟨_,rfl⟩
 rw[← hwb] at HB0 hsz hx0
 have HWB:=mk0 hwb
 rw[← hkb] at hsz hx0
 have HKB:=mk0 hkb
 have B0:=mk0 HB0
 have X0:=mk0 (fun (W:World) (hb:Below wb.heap.size wb W)=>show W.cell? ⟨kb,0,none⟩=some (.int .i64 1) from (hb.cell (p:=⟨kb,0,none⟩) (by show kb<wb.heap.size;omega)).trans hx0)
 have HC:=mk0 (Kd.C_below h HB0)
 have HHAS:=mk0 (has_cell A c l kb (fun c=>!rightB 1 c) wb HC.out hl (fun W' x _ hb'=>chunk_clo kb 1 x W' (X0.out W' hb')))
 clear HB0 hsz hx0 hkb hwb h hl hi
 by_cases hlt:65536<l.length
 ·have HF:=mk0 (show r=([],4) by rw[HR.out];unfold chunkB;rw[if_neg (by decide),if_pos hlt])
  have hlti:(65536:Int)<l.length:=by omega
  go_wp2
  go_ret2
  rw[HF.out,← HWB.out]
  exact ⟨_,rfl,Kd.R_nil _ _ _ _ _,B0.out⟩
 ·have hlti:¬ (65536:Int)<l.length:=by omega
  have HR2:=mk0 (show r=if l.any (fun c=>!rightB 1 c) then ([],1) else (putV (bodyF 1 l).1++putV l.length++(runsB (nullsL l) 1).1++(bodyF 1 l).2,0) by
   rw[HR.out];unfold chunkB;rw[if_neg (by decide),if_neg hlt])
  have HRO:=mk0 (right_only (kind:=1) (l:=l))
  generalize (l.any fun c=>!rightB 1 c)=z at *
  clear HR
  cases z
  ·have HR3:=mk0 (show r=(putV (bodyF 1 l).1++putV l.length++(runsB (nullsL l) 1).1++(bodyF 1 l).2,0) by rw[HR2.out];rfl)
   have HRT:=mk0 (HRO.out rfl)
   have hmk:=print_make_int (P:=Tryz.prog) 191 117 (.int .u64 0) 8 Tryz.underlying191 info_u64 rfl (by omega) (l.length:Int) (by omega) (by omega)
   rw[made_nums,Int.toNat_natCast] at hmk
   clear HR2 HRO
   go_wp2_with fail
   rw[← HWB.out,← HKB.out]
   (with_reducible refine HHAS.out.mono ?_)
   rintro e w1 ⟨rfl,hb1⟩
   have HR0:=mk0 (kn_R_lit w1 (List.replicate l.length (0:Nat)) 117 (by simp;omega))
   rw[List.length_replicate] at HR0
   have B1:=mk0 (hb1.trans ((below_alloc (Below.refl w1.heap.size w1) (.cells ((List.replicate l.length (0:Nat)).map (fun n:Nat=>Value.int .u64 (n:Int))).toArray 117)).mono hb1.size))
   obtain ⟨ob,hob⟩:∃ ob,ob=Obj.cells ((List.replicate l.length (0:Nat)).map (fun n:Nat=>Value.int .u64 (n:Int))).toArray 117:=⟨_,rfl⟩
   rw[← hob] at hmk HR0 B1
   obtain ⟨N,hN⟩:∃ N,N=nullsL l:=⟨_,rfl⟩
   have HNL:=mk0 (show N.length=l.length by rw[hN];simp[nullsL])
   have HN:=mk0 hN
   have hgb:=hb1.size
   clear hob hb1 hN
   go_wp2_with fail
   generalize w1.alloc ob=w2 at *
   generalize w1.heap.size=g at *
   have HGB:=mk0 hgb
   clear hgb hmk
   go_loopw[7,8,9,38] (fun v7 v8 v9 v38 wr=>∃ (k:Nat) (num:List UInt8),k≤l.length∧v38 = .int .i64 k∧v8 = .slice none 0 0∧v9 = .slice none 0 0∧Aside0 (kn.R 117 wr g (fun _=>True) (.slice (some ⟨g,0,none⟩) l.length l.length) (N.take k++List.replicate (N.length-k) 0))∧Aside0 (num=numsB (l.take k))∧Aside0 (num.length≤10*k)∧Aside0 (Lib0.u8.R 5 wr wb.heap.size (fun _=>True) v7 num)∧Aside0 (Below wb.heap.size wb wr)) (fun _ _ _ i _=>l.length-(intOf i).toNat)
   case atStart=>exact ⟨0,[],by omega,rfl,rfl,rfl,⟨by rw[List.take_zero,List.nil_append,HNL.out,Nat.sub_zero];exact HR0.out⟩,⟨by simp[numsB]⟩,⟨by simp⟩,⟨Kd.R_nil _ _ _ _ _⟩,B1⟩
   case round=>
    obtain ⟨k,num,hk,rfl,rfl,rfl,HRR,HO,HOL,HRU,HB⟩:=hrel
    by_cases hkl:k<l.length
    ·have hkli:(k:Int)<l.length:=by omega
     have hkN:k<N.length:=by have:=HNL.out;omega
     obtain ⟨b,o,rfl,hx⟩:=kc_open HC.out (by omega)
     obtain ⟨y1,y2,y3,y4⟩:=hx k hkl
     have hx1:=pw_cell_below HB.out y1
     have hx2:=pw_cell_below HB.out y2
     have hx3:=pw_cell_below HB.out y3
     have hx4:=pw_cell_below HB.out y4
     have HM:=mk0 (right_kinds (HRT.out l[k] (List.getElem_mem hkl)))
     have HI64:=mk0 (HI.out l[k] (List.getElem_mem hkl))
     have HTK:=mk0 (take_next l k hkl)
     have HNK:=mk0 (show N[k]=if l[k].kind=0 then 1 else 0 by simp only[HN.out,nullsL,List.getElem_map])
     have HMS:=mk0 (made_set N k hkN)
     have HML:=mk0 (made_len N k (by omega))
     clear hx y1 y2 y3 y4
     generalize l[k]=y at *
     obtain ⟨yc,yk,yn,ys⟩:=y
     simp only at hx1 hx2 hx3 hx4 HM HI64 HNK
     obtain ⟨g',c',hv,hv3,hv4,cur,hh,hcur⟩:=sc_row_open HRR.out (by have:=HML.out;omega)
     clear hv3 hv4
     simp only[Value.slice.injEq,Option.some.injEq,Addr.mk.injEq,and_true] at hv
     obtain ⟨rfl,hv1,hv2⟩:=hv
     clear hv1 hv2
     have hcc:=hcur k (by have:=HML.out;omega)
     have HCC:=mk0 hcc
     have HHH:=mk0 hh
     clear hcc hh hcur
     have hyk:yk=0∨yk=1:=by rcases HM.out with h | h;exact .inl h;exact .inr h.1
     obtain ⟨O,hO⟩:∃ O,O=Obj.cells #[.string yc,.int .i64 yk,.int .i64 yn,.string ys] 37:=⟨_,rfl⟩
     have BO:=below_alloc (Below.refl wr.heap.size wr) O
     have HHO:=mk0 ((BO.block g (Array.getElem?_eq_some_iff.1 HHH.out).1).trans HHH.out)
     have RN:=mk0 (Kd.R_below HRR.out BO)
     have BA:=mk0 (HB.out.trans (BO.mono HB.out.size))
     have RNUM:=mk0 (Kd.R_below HRU.out BO)
     have HOO:=mk0 hO
     clear BO hO
     rcases hyk with rfl | rfl
     ·have HNK1:=mk0 (show N[k]=1 by rw[HNK.out];rfl)
      rw[HNK1.out] at HMS
      have x5:(wr.alloc O).cell? ⟨g,k,none⟩=some (.int .u64 ((N.take k++List.replicate (N.length-k) 0)[k]'(by have:=HML.out;omega):Nat)):=cell_of_heap HHO.out HCC.out
      have x6:(wr.alloc O).frozen? ⟨g,k,none⟩=false:=frozen_of_heap HHO.out
      have RN2:=mk0 (sc_R_set RN.out k (by have:=HML.out;omega) 1)
      rw[HMS.out] at RN2
      have BS:=mk0 (BA.out.setCell (p:=⟨g,k,none⟩) HGB.out (.int .u64 1))
      have RNUM2:=mk0 (R_set_ne rfl RNUM.out HHO.out (by decide) k (.int .u64 1))
      have HO2:=mk0 (show num=numsB (l.take (k+1)) by rw[HTK.out,numsB_app,HO.out];simp[numsB])
      rw[HOO.out] at x5 x6 RN2 BS RNUM2
      generalize (N.take k++List.replicate (N.length-k) 0)[k]'_=u0 at *
      go_wp2
      go_roundw
      case rel=>exact ⟨k+1,num,by omega,by go_num,rfl,rfl,RN2,HO2,⟨by have:=HOL.out;omega⟩,RNUM2,BS⟩
      case measure=>simp[intOf];omega
     ·have HNK0:=mk0 (show N[k]=0 by rw[HNK.out];rfl)
      rw[made_keep N k hkN HNK0.out] at RN
      have HZ:=mk0 (v_Zig yn HI64.out)
      have HZL:=mk0 (zig_lt HI64.out)
      have HO2:=mk0 (show num++putV (zig yn)=numsB (l.take (k+1)) by rw[HTK.out,numsB_app,HO.out];simp[numsB])
      obtain ⟨A5,c5,rfl,_,hC5⟩:=u8_R_len RNUM.out
      have HPN:=mk0 (v_Put A5 c5 num (zig yn) (wr.alloc O) hC5 (by have:=HOL.out;omega) HZL.out)
      have HPL:=mk0 (putV_len10 HZL.out)
      clear hC5
      rw[HOO.out] at HPN
      go_wp2_with fail
      (with_reducible refine (HZ.out _).mono ?_)
      rintro e w' ⟨rfl,rfl⟩
      go_wp2_with fail
      (with_reducible refine HPN.out.mono ?_)
      rintro e w3 ⟨v3,rfl,hr3,hb3⟩
      rw[← HOO.out] at hb3 hr3
      have R3:=mk0 (Kd.R_lower hr3 BA.out.size)
      have B3:=mk0 (BA.out.trans (hb3.mono BA.out.size))
      have RN3:=mk0 (Kd.R_below RN.out hb3)
      clear hr3 hb3
      go_wp2
      go_roundw
      case rel=>exact ⟨k+1,_,by omega,by go_num,rfl,rfl,RN3,HO2,⟨by rw[List.length_append];have:=HOL.out;have:=HPL.out;omega⟩,R3,B3⟩
      case measure=>simp[intOf];omega
    ·have RN0:Aside0 (kn.R 117 wr g (fun _=>True) (.slice (some ⟨g,0,none⟩) l.length l.length) N):=⟨by
      have:=HRR.out
      rwa [List.take_of_length_le (by have:=HNL.out;omega),show N.length-k=0 by have:=HNL.out;omega,List.replicate_zero,List.append_nil] at this⟩
     have hkli:¬ (k:Int)<l.length:=by omega
     have HNU:=mk0 (show ∀ n ∈ N,U64 n by
      rw[HN.out];intro n hn
      obtain ⟨c,_,rfl⟩:=List.mem_map.1 hn
      unfold U64;split<;>omega)
     have HCN:=mk0 (C_of RN0.out)
     have HEN:=runs_Encode (some ⟨g,0,none⟩) l.length N 1 wr HCN.out (by have:=HNL.out;omega) HNU.out (by have:=HNL.out;omega)
     rw[HNL.out] at HEN
     have HEN:=mk0 HEN
     have HRL:=mk0 (runsB_len N 1 (by have:=HNL.out;omega))
     have HR4:=mk0 HR3.out
     rw[← HN.out] at HR4
     generalize runsB N 1=rb at *
     obtain ⟨rb1,rb2⟩:=rb
     simp only at HEN HRL HR4
     have HOF:=mk0 (show num=numsB l by rw[HO.out,List.take_of_length_le (by omega)])
     clear HRR HR0 RN0 HCN
     go_wp2_with fail
     (with_reducible refine HEN.out.mono ?_)
     rintro e w3 ⟨v3,rfl,hr3,hb3⟩
     have B3:=mk0 (HB.out.trans (hb3.mono HB.out.size))
     obtain ⟨A3,c3,rfl,hc3,hC3⟩:=u8_R_len hr3
     have HC3:=mk0 (And.intro hc3 hC3)
     have RNUM3:=mk0 (Kd.R_below HRU.out hb3)
     clear hr3 hb3 hc3 hC3
     go_wp2_with fail
     (with_reducible refine (dict_Build0 _).mono ?_)
     rintro e w4 ⟨A4,c4,B4',cb4,rfl,hc4,hcb4,hC4,hCb4,hb4⟩
     have B4:=mk0 (B3.out.trans (hb4.mono B3.out.size))
     have HC4:=mk0 (And.intro HC3.out.1 (Kd.C_below HC3.out.2 hb4))
     have RNUM4:=mk0 (Kd.R_below RNUM3.out hb4)
     clear hb4
     have x0':=X0.out w4 B4.out
     obtain ⟨A5,c5,rfl,hc5,hC5⟩:=u8_R_len RNUM4.out
     have HC5:=mk0 (And.intro hc5 hC5)
     have HBF:=mk0 (show bodyF 1 l=(1,num) by unfold bodyF;rw[if_neg (by decide),HOF.out])
     rw[HBF.out] at HR4
     have HLN:=mk0 (show num.length≤655360 by have:=HOL.out;omega)
     clear hc5 hC5 hC4 hCb4 hc4 hcb4
     go_wp2_with fail
     (with_reducible refine (v_Put0I 1 _ (by omega) (by omega)).mono ?_)
     rintro e w5 ⟨v5,rfl,hr5,hb5⟩
     have B5:=mk0 (B4.out.trans (hb5.mono B4.out.size))
     obtain ⟨A6,c6,rfl,hc6,hC6⟩:=u8_R_len hr5
     rw[show (1:Int).toNat=1 from rfl] at hC6 hc6 ⊢
     have HC6:=mk0 hC6
     have HP6:=mk0 (putV_len10 (n:=1) (by omega))
     have HC7:=mk0 (Kd.C_below HC4.out.2 hb5)
     have HC8:=mk0 (Kd.C_below HC5.out.2 hb5)
     clear hr5 hb5 hc6 hC6
     generalize putV 1=pv at *
     go_wp2_with fail
     (with_reducible refine (v_Put A6 c6 pv l.length _ HC6.out (by have:=HP6.out;omega) (by omega)).mono ?_)
     rintro e w6 ⟨v6,rfl,hr6,hb6⟩
     have B6:=mk0 (B5.out.trans (hb6.mono B5.out.size))
     obtain ⟨A7,c7,rfl,hc7,hC7⟩:=u8_R_len hr6
     have HP7:=mk0 (putV_len10 (n:=l.length) (by omega))
     have HPL7:=mk0 (show (pv++putV l.length).length≤20 by rw[List.length_append];have:=HP6.out;have:=HP7.out;omega)
     have HR5:=mk0 (show r=(pv++putV l.length++rb1++num,0) from HR4.out)
     obtain ⟨pp,hpp⟩:∃ pp,pp=pv++putV l.length:=⟨_,rfl⟩
     rw[← hpp] at hc7 hC7 HR5 HPL7 ⊢
     have HSN:=mk0 (show pp.length+rb1.length+(num).length≤1099511627776 by
      have:=HPL7.out;have:=HRL.out;have:=HNL.out;have:=HLN.out;omega)
     have HCC:=mk0 (concat3 A7 A3 A5 c7 c3 c5 pp rb1 (num) w6 hC7 (Kd.C_below HC7.out hb6) (Kd.C_below HC8.out hb6) hc7 HC3.out.1 HC5.out.1 HSN.out)
     have BL:=below_alloc (Below.refl w6.heap.size w6) (.cells #[.slice A7 pp.length c7,.slice A3 rb1.length c3,.slice A5 (num).length c5] 22)
     have B7:=mk0 (B6.out.trans (BL.mono B6.out.size))
     clear hr6 hb6 hc7 hC7 hpp BL
     go_wp2_with fail
     (with_reducible refine HCC.out.mono ?_)
     rintro e w8 ⟨v8,rfl,hr8,hb8⟩
     have R8:=mk0 (Kd.R_lower hr8 (Nat.le_trans B0.out.size B7.out.size))
     have B8:=mk0 (B0.out.trans ((B7.out.trans (hb8.mono B7.out.size)).mono B0.out.size))
     clear hr8 hb8
     go_wp2
     go_ret2
     rw[HR5.out]
     exact ⟨_,rfl,R8.out,B8.out⟩
  ·have HF:=mk0 (show r=([],1) by rw[HR2.out];rfl)
   go_wp2_with fail
   rw[← HWB.out,← HKB.out]
   (with_reducible refine HHAS.out.mono ?_)
   rintro e w1 ⟨rfl,hb1⟩
   have B1:=mk0 (B0.out.trans (hb1.mono B0.out.size))
   clear hb1
   go_wp2
   go_ret2
   rw[HF.out]
   exact ⟨_,rfl,Kd.R_nil _ _ _ _ _,B1.out⟩
set_option maxHeartbeats 6400000 in
set_option maxRecDepth 100000 in
theorem chunk_Encode2 (A:Option Addr) (c:Nat) (l:List CellM) (w:World) (h:kc.C w A l.length l) (hl:l.length≤1099511627776) (hi:∀ c ∈ l,I64 c.n) :
  Calls Tryz.prog 55 #[.int .i64 2,.slice A l.length c] w (ToldB 5 w (chunkB 2 l).1 (chunkB 2 l).2):=by
 have hli:(l.length:Int)≤1099511627776:=by omega
 have HI:=mk0 hi
 have HL:=mk0 hl
 obtain ⟨r,hr⟩:∃ r,r=chunkB 2 l:=⟨_,rfl⟩
 rw[← hr]
 have HR:=mk0 hr
 clear hr
 go_enter Tryz.func55,Tryz.ntmps55
 have HB0:=below_alloc (Below.refl w.heap.size w) (.cells #[.int .i64 2] 3)
 have hsz:(w.alloc (.cells #[.int .i64 2] 3)).heap.size=w.heap.size+1:=by simp
 have hx0:=cell_of_heap (i:=0) (heap_alloc_new w (.cells #[.int .i64 2] 3)) rfl
 obtain ⟨kb,hkb⟩:∃ kb,kb=w.heap.size:=⟨_,rfl⟩
 have x0:=hx0
 obtain ⟨wb,hwb⟩:∃ wb,wb=w.alloc (.cells #[.int .i64 2] 3):=⟨_,rfl⟩
 rw[← hwb] at HB0 hsz hx0
 have HWB:=mk0 hwb
 rw[← hkb] at hsz hx0
 have HKB:=mk0 hkb
 have B0:=mk0 HB0
 have X0:=mk0 (fun (W:World) (hb:Below wb.heap.size wb W)=>show W.cell? ⟨kb,0,none⟩=some (.int .i64 2) from (hb.cell (p:=⟨kb,0,none⟩) (by show kb<wb.heap.size;omega)).trans hx0)
 have HC:=mk0 (Kd.C_below h HB0)
 have HHAS:=mk0 (has_cell A c l kb (fun c=>!rightB 2 c) wb HC.out hl (fun W' x _ hb'=>chunk_clo kb 2 x W' (X0.out W' hb')))
 clear HB0 hsz hx0 hkb hwb h hl hi
 by_cases hlt:65536<l.length
 ·have HF:=mk0 (show r=([],4) by rw[HR.out];unfold chunkB;rw[if_neg (by decide),if_pos hlt])
  have hlti:(65536:Int)<l.length:=by omega
  go_wp2
  go_ret2
  rw[HF.out,← HWB.out]
  exact ⟨_,rfl,Kd.R_nil _ _ _ _ _,B0.out⟩
 ·have hlti:¬ (65536:Int)<l.length:=by omega
  have HR2:=mk0 (show r=if l.any (fun c=>!rightB 2 c) then ([],1) else (putV (bodyF 2 l).1++putV l.length++(runsB (nullsL l) 1).1++(bodyF 2 l).2,0) by
   rw[HR.out];unfold chunkB;rw[if_neg (by decide),if_neg hlt])
  have HRO:=mk0 (right_only (kind:=2) (l:=l))
  generalize (l.any fun c=>!rightB 2 c)=z at *
  clear HR
  cases z
  ·have HR3:=mk0 (show r=(putV (bodyF 2 l).1++putV l.length++(runsB (nullsL l) 1).1++(bodyF 2 l).2,0) by rw[HR2.out];rfl)
   have HRT:=mk0 (HRO.out rfl)
   have hmk:=print_make_int (P:=Tryz.prog) 191 117 (.int .u64 0) 8 Tryz.underlying191 info_u64 rfl (by omega) (l.length:Int) (by omega) (by omega)
   rw[made_nums,Int.toNat_natCast] at hmk
   clear HR2 HRO
   go_wp2_with fail
   rw[← HWB.out,← HKB.out]
   (with_reducible refine HHAS.out.mono ?_)
   rintro e w1 ⟨rfl,hb1⟩
   have HR0:=mk0 (kn_R_lit w1 (List.replicate l.length (0:Nat)) 117 (by simp;omega))
   rw[List.length_replicate] at HR0
   have B1:=mk0 (hb1.trans ((below_alloc (Below.refl w1.heap.size w1) (.cells ((List.replicate l.length (0:Nat)).map (fun n:Nat=>Value.int .u64 (n:Int))).toArray 117)).mono hb1.size))
   obtain ⟨ob,hob⟩:∃ ob,ob=Obj.cells ((List.replicate l.length (0:Nat)).map (fun n:Nat=>Value.int .u64 (n:Int))).toArray 117:=⟨_,rfl⟩
   rw[← hob] at hmk HR0 B1
   obtain ⟨N,hN⟩:∃ N,N=nullsL l:=⟨_,rfl⟩
   have HNL:=mk0 (show N.length=l.length by rw[hN];simp[nullsL])
   have HN:=mk0 hN
   have hgb:=hb1.size
   clear hob hb1 hN
   go_wp2_with fail
   generalize w1.alloc ob=w2 at *
   generalize w1.heap.size=g at *
   have HGB:=mk0 hgb
   clear hgb hmk
   go_loopw[7,8,9,38] (fun v7 v8 v9 v38 wr=>∃ (k:Nat) (txt:List ByteArray),k≤l.length∧v38 = .int .i64 k∧v7 = .slice none 0 0∧Aside0 (kn.R 117 wr g (fun _=>True) (.slice (some ⟨g,0,none⟩) l.length l.length) (N.take k++List.replicate (N.length-k) 0))∧Aside0 (txt=textsOf (l.take k))∧Aside0 (txt.length≤k)∧Aside0 (∀ s ∈ txt,s.size≤40)∧Aside0 (Kd.string.R 9 wr wb.heap.size (fun _=>True) v9 txt)∧Aside0 (Lib0.u8.R 5 wr wb.heap.size (fun _=>True) v8 (textsB txt))∧Aside0 (Below wb.heap.size wb wr)) (fun _ _ _ i _=>l.length-(intOf i).toNat)
   case atStart=>exact ⟨0,[],by omega,rfl,rfl,⟨by rw[List.take_zero,List.nil_append,HNL.out,Nat.sub_zero];exact HR0.out⟩,⟨by simp[textsOf]⟩,⟨by simp⟩,⟨by simp⟩,⟨Kd.R_nil _ _ _ _ _⟩,⟨Kd.R_nil _ _ _ _ _⟩,B1⟩
   case round=>
    obtain ⟨k,txt,hk,rfl,rfl,HRR,HO,HOL,HOS,HT,HP,HB⟩:=hrel
    by_cases hkl:k<l.length
    ·have hkli:(k:Int)<l.length:=by omega
     have hkN:k<N.length:=by have:=HNL.out;omega
     obtain ⟨b,o,rfl,hx⟩:=kc_open HC.out (by omega)
     obtain ⟨y1,y2,y3,y4⟩:=hx k hkl
     have hx1:=pw_cell_below HB.out y1
     have hx2:=pw_cell_below HB.out y2
     have hx3:=pw_cell_below HB.out y3
     have hx4:=pw_cell_below HB.out y4
     have HM:=mk0 (right_kinds (HRT.out l[k] (List.getElem_mem hkl)))
     have HI64:=mk0 (HI.out l[k] (List.getElem_mem hkl))
     have HTK:=mk0 (take_next l k hkl)
     have HNK:=mk0 (show N[k]=if l[k].kind=0 then 1 else 0 by simp only[HN.out,nullsL,List.getElem_map])
     have HMS:=mk0 (made_set N k hkN)
     have HML:=mk0 (made_len N k (by omega))
     clear hx y1 y2 y3 y4
     generalize l[k]=y at *
     obtain ⟨yc,yk,yn,ys⟩:=y
     simp only at hx1 hx2 hx3 hx4 HM HI64 HNK
     obtain ⟨g',c',hv,hv3,hv4,cur,hh,hcur⟩:=sc_row_open HRR.out (by have:=HML.out;omega)
     clear hv3 hv4
     simp only[Value.slice.injEq,Option.some.injEq,Addr.mk.injEq,and_true] at hv
     obtain ⟨rfl,hv1,hv2⟩:=hv
     clear hv1 hv2
     have hcc:=hcur k (by have:=HML.out;omega)
     have HCC:=mk0 hcc
     have HHH:=mk0 hh
     clear hcc hh hcur
     have hyk:yk=0∨yk=2:=by rcases HM.out with h | h;exact .inl h;exact .inr h.1
     obtain ⟨O,hO⟩:∃ O,O=Obj.cells #[.string yc,.int .i64 yk,.int .i64 yn,.string ys] 37:=⟨_,rfl⟩
     have BO:=below_alloc (Below.refl wr.heap.size wr) O
     have HHO:=mk0 ((BO.block g (Array.getElem?_eq_some_iff.1 HHH.out).1).trans HHH.out)
     have RN:=mk0 (Kd.R_below HRR.out BO)
     have BA:=mk0 (HB.out.trans (BO.mono HB.out.size))
     have RT:=mk0 (Kd.R_below HT.out BO)
     have RP:=mk0 (Kd.R_below HP.out BO)
     have HOO:=mk0 hO
     clear BO hO
     rcases hyk with rfl | rfl
     ·have HNK1:=mk0 (show N[k]=1 by rw[HNK.out];rfl)
      rw[HNK1.out] at HMS
      have x5:(wr.alloc O).cell? ⟨g,k,none⟩=some (.int .u64 ((N.take k++List.replicate (N.length-k) 0)[k]'(by have:=HML.out;omega):Nat)):=cell_of_heap HHO.out HCC.out
      have x6:(wr.alloc O).frozen? ⟨g,k,none⟩=false:=frozen_of_heap HHO.out
      have RN2:=mk0 (sc_R_set RN.out k (by have:=HML.out;omega) 1)
      rw[HMS.out] at RN2
      have BS:=mk0 (BA.out.setCell (p:=⟨g,k,none⟩) HGB.out (.int .u64 1))
      have RT2:=mk0 (R_set_ne rfl RT.out HHO.out (by decide) k (.int .u64 1))
      have RP2:=mk0 (R_set_ne rfl RP.out HHO.out (by decide) k (.int .u64 1))
      have HO2:=mk0 (show txt=textsOf (l.take (k+1)) by rw[HTK.out,textsOf_app,HO.out];simp[textsOf])
      rw[HOO.out] at x5 x6 RN2 BS RT2 RP2
      generalize (N.take k++List.replicate (N.length-k) 0)[k]'_=u0 at *
      go_wp2
      go_roundw
      case rel=>exact ⟨k+1,txt,by omega,by go_num,rfl,RN2,HO2,⟨by have:=HOL.out;omega⟩,HOS,RT2,RP2,BS⟩
      case measure=>simp[intOf];omega
     ·have HNK0:=mk0 (show N[k]=0 by rw[HNK.out];rfl)
      rw[made_keep N k hkN HNK0.out] at RN
      have HYS:=mk0 (show ys.size≤40 by rcases HM.out with h | ⟨_,h | h⟩;exact absurd h (by decide);exact absurd h (by decide);exact h)
      have HO2:=mk0 (show txt++[ys]=textsOf (l.take (k+1)) by rw[HTK.out,textsOf_app,HO.out];simp[textsOf])
      have HO3:=mk0 (show textsB txt++putV ys.size++byt ys=textsB (txt++[ys]) by rw[textsB_app];simp[textsB,textB])
      have HLT:=mk0 (textsB_len txt HOS.out)
      have HON:=mk0 (heap_alloc_new wr O)
      rw[HOO.out] at HON RT RP RN HHO BA
      obtain ⟨A9,c9,rfl,_,_⟩:=Kd.R_reads RT.out
      go_wp2_with (at_builtin;go_loud (refine str_append (W:=wr.alloc (.cells #[.string yc,.int .i64 2,.int .i64 yn,.string ys] 37)) (.tmp 45) (.tmp 48) 48 9 (.slice A9 txt.length c9) txt ys wb.heap.size rfl rfl Tryz.underlying48 info_str rfl (by show Value.slice (some ⟨wr.heap.size+1,0,none⟩) 1 1=_;simp) RT.out BA.out.size (by have:=HOL.out;omega) ?_))
      intro v3 w3 hr3 hb3 hg3 _
      have R3:=mk0 hr3
      have B3:=mk0 (BA.out.trans hb3)
      have RP3:=mk0 (R_grown_ne rfl RP.out RT.out (by decide) hg3)
      have RN3:=mk0 (R_grown_ne rfl RN.out RT.out (by decide) hg3)
      have hon:=(hg3.block wr.heap.size (by simp) (fun he=>R_not_at RT.out HON.out (by decide) he.symm)).trans HON.out
      have x7:w3.cell? ⟨wr.heap.size,3,none⟩=some (.string ys):=cell_of_heap hon rfl
      obtain ⟨A5,c5,rfl,hc5,hC5⟩:=u8_R_len RP3.out
      have HPT:=mk0 (v_PutText A5 c5 (textsB txt) ys w3 hC5 (by have:=HLT.out;have:=HOL.out;omega) (by have:=HYS.out;omega))
      rw[HO3.out] at HPT
      have HLL:=mk0 (show (textsB txt).length=(textsB txt).length from rfl)
      clear hr3 hb3 hg3 hon hc5 hC5
      generalize textsB txt=tb at *
      go_wp2_with fail
      (with_reducible refine HPT.out.mono ?_)
      rintro e w4 ⟨v4,rfl,hr4,hb4⟩
      have RP4:=mk0 (Kd.R_lower hr4 B3.out.size)
      have B4:=mk0 (B3.out.trans (hb4.mono B3.out.size))
      have RN4:=mk0 (Kd.R_below RN3.out hb4)
      have RT4:=mk0 (Kd.R_below R3.out hb4)
      clear hr4 hb4
      go_wp2
      go_roundw
      case rel=>exact ⟨k+1,txt++[ys],by omega,by go_num,rfl,RN4,HO2,⟨by rw[List.length_append];have:=HOL.out;simp;omega⟩,⟨fun s hs=>by rcases List.mem_append.1 hs with h | h;exact HOS.out s h;simp at h;subst h;exact HYS.out⟩,RT4,RP4,B4⟩
      case measure=>simp[intOf];omega
    ·have RN0:Aside0 (kn.R 117 wr g (fun _=>True) (.slice (some ⟨g,0,none⟩) l.length l.length) N):=⟨by
      have:=HRR.out
      rwa [List.take_of_length_le (by have:=HNL.out;omega),show N.length-k=0 by have:=HNL.out;omega,List.replicate_zero,List.append_nil] at this⟩
     have hkli:¬ (k:Int)<l.length:=by omega
     have HNU:=mk0 (show ∀ n ∈ N,U64 n by
      rw[HN.out];intro n hn
      obtain ⟨c,_,rfl⟩:=List.mem_map.1 hn
      unfold U64;split<;>omega)
     have HCN:=mk0 (C_of RN0.out)
     have HEN:=runs_Encode (some ⟨g,0,none⟩) l.length N 1 wr HCN.out (by have:=HNL.out;omega) HNU.out (by have:=HNL.out;omega)
     rw[HNL.out] at HEN
     have HEN:=mk0 HEN
     have HRL:=mk0 (runsB_len N 1 (by have:=HNL.out;omega))
     have HR4:=mk0 HR3.out
     rw[← HN.out] at HR4
     generalize runsB N 1=rb at *
     obtain ⟨rb1,rb2⟩:=rb
     simp only at HEN HRL HR4
     have HOF:=mk0 (show txt=textsOf l by rw[HO.out,List.take_of_length_le (by omega)])
     clear HRR HR0 RN0 HCN
     go_wp2_with fail
     (with_reducible refine HEN.out.mono ?_)
     rintro e w3 ⟨v3,rfl,hr3,hb3⟩
     have B3:=mk0 (HB.out.trans (hb3.mono HB.out.size))
     obtain ⟨A3,c3,rfl,hc3,hC3⟩:=u8_R_len hr3
     have HC3:=mk0 (And.intro hc3 hC3)
     have RT3:=mk0 (Kd.R_below HT.out hb3)
     have RP3:=mk0 (Kd.R_below HP.out hb3)
     obtain ⟨A9,c9,rfl,_,hC9⟩:=Kd.R_reads RT3.out
     have HC9:=mk0 hC9
     clear hr3 hb3 hc3 hC3
     go_wp2_with fail
     (with_reducible refine (dict_Build A9 c9 txt _ HC9.out (by have:=HOL.out;omega)).mono ?_)
     rintro e w4 ⟨A4,c4,B4',cb4,rfl,hc4,hcb4,hC4,hCb4,hb4⟩
     have B4:=mk0 (B3.out.trans (hb4.mono B3.out.size))
     have HC4:=mk0 (And.intro HC3.out.1 (Kd.C_below HC3.out.2 hb4))
     have RP4:=mk0 (Kd.R_below RP3.out hb4)
     clear hb4
     have x0':=X0.out w4 B4.out
     obtain ⟨A5,c5,rfl,hc5,hC5⟩:=u8_R_len RP4.out
     have HC5:=mk0 (And.intro hc5 hC5)
     have HDD:=mk0 (And.intro hC4 hCb4)
     have HLP:=mk0 (show (textsB txt).length≤3276800 by have:=textsB_len txt HOS.out;have:=HOL.out;omega)
     have HPR:=mk0 (placesL_range (dictL txt) txt)
     have HPN:=mk0 (show (placesL (dictL txt) txt).length≤65536 by have:=HOL.out;simp[placesL];omega)
     have HDN:=mk0 (show (dictL txt).length≤65536 by unfold dictL;have:=compL_len (sortL txt);rw[sortL_len] at this;have:=HOL.out;omega)
     have HBF:Aside0 (bodyF 2 l=if (dictL txt).length≤16 then (2,codedB (dictL txt) (placesL (dictL txt) txt)) else (3,textsB txt)):=⟨by unfold bodyF;rw[if_pos rfl,HOF.out]⟩
     generalize placesL (dictL txt) txt=at_ at *
     generalize dictL txt=d at *
     generalize textsB txt=tb at *
     clear hc5 hC5 hC4 hCb4 hc4 hcb4
     by_cases hd16:d.length≤16
     ·have hd16i:(d.length:Int)≤16:=by omega
      have hdd:decide ((d.length:Int)≤16)=true:=decide_eq_true hd16i
      have HBG:=mk0 (show bodyF 2 l=(2,codedB d at_) by rw[HBF.out,if_pos hd16])
      rw[HBG.out] at HR4
      have HPC:=mk0 (chunk_places A4 B4' c4 cb4 d at_ w4 HDD.out.1 HDD.out.2 (by omega) HPN.out (fun x hx=>by have:=HPR.out x hx;have:=HDN.out;omega))
      have HLN:=mk0 (show (codedB d at_).length≤4200000 by
       unfold codedB
       have h1:=dictB_len d
       have h2:=runsB_len (natsL at_) (widthL (natsL at_)) (by have:=HPN.out;simp[natsL];omega)
       have h3:(natsL at_).length≤65536:=by have:=HPN.out;simp[natsL];omega
       rw[List.length_append];omega)
      clear HC5
      generalize codedB d at_=cod at *
      go_wp2_with fail
      (with_reducible refine HPC.out.mono ?_)
      rintro e w4b ⟨v4b,rfl,hr4b,hb4b⟩
      have B4b:=mk0 (B4.out.trans (hb4b.mono B4.out.size))
      have HC4b:=mk0 (And.intro HC4.out.1 (Kd.C_below HC4.out.2 hb4b))
      obtain ⟨A5,c5,rfl,hc5,hC5⟩:=u8_R_len hr4b
      have HC5:=mk0 (And.intro hc5 hC5)
      clear hr4b hb4b hc5 hC5 B4 HC4
      have B4:=B4b
      have HC4:=HC4b
      clear B4b HC4b
      go_wp2_with fail
      (with_reducible refine (v_Put0I 2 _ (by omega) (by omega)).mono ?_)
      rintro e w5 ⟨v5,rfl,hr5,hb5⟩
      have B5:=mk0 (B4.out.trans (hb5.mono B4.out.size))
      obtain ⟨A6,c6,rfl,hc6,hC6⟩:=u8_R_len hr5
      rw[show (2:Int).toNat=2 from rfl] at hC6 hc6 ⊢
      have HC6:=mk0 hC6
      have HP6:=mk0 (putV_len10 (n:=2) (by omega))
      have HC7:=mk0 (Kd.C_below HC4.out.2 hb5)
      have HC8:=mk0 (Kd.C_below HC5.out.2 hb5)
      clear hr5 hb5 hc6 hC6
      generalize putV 2=pv at *
      go_wp2_with fail
      (with_reducible refine (v_Put A6 c6 pv l.length _ HC6.out (by have:=HP6.out;omega) (by omega)).mono ?_)
      rintro e w6 ⟨v6,rfl,hr6,hb6⟩
      have B6:=mk0 (B5.out.trans (hb6.mono B5.out.size))
      obtain ⟨A7,c7,rfl,hc7,hC7⟩:=u8_R_len hr6
      have HP7:=mk0 (putV_len10 (n:=l.length) (by omega))
      have HPL7:=mk0 (show (pv++putV l.length).length≤20 by rw[List.length_append];have:=HP6.out;have:=HP7.out;omega)
      have HR5:=mk0 (show r=(pv++putV l.length++rb1++cod,0) from HR4.out)
      obtain ⟨pp,hpp⟩:∃ pp,pp=pv++putV l.length:=⟨_,rfl⟩
      rw[← hpp] at hc7 hC7 HR5 HPL7 ⊢
      have HSN:=mk0 (show pp.length+rb1.length+(cod).length≤1099511627776 by
       have:=HPL7.out;have:=HRL.out;have:=HNL.out;have:=HLN.out;omega)
      have HCC:=mk0 (concat3 A7 A3 A5 c7 c3 c5 pp rb1 (cod) w6 hC7 (Kd.C_below HC7.out hb6) (Kd.C_below HC8.out hb6) hc7 HC3.out.1 HC5.out.1 HSN.out)
      have BL:=below_alloc (Below.refl w6.heap.size w6) (.cells #[.slice A7 pp.length c7,.slice A3 rb1.length c3,.slice A5 (cod).length c5] 22)
      have B7:=mk0 (B6.out.trans (BL.mono B6.out.size))
      clear hr6 hb6 hc7 hC7 hpp BL
      go_wp2_with fail
      (with_reducible refine HCC.out.mono ?_)
      rintro e w8 ⟨v8,rfl,hr8,hb8⟩
      have R8:=mk0 (Kd.R_lower hr8 (Nat.le_trans B0.out.size B7.out.size))
      have B8:=mk0 (B0.out.trans ((B7.out.trans (hb8.mono B7.out.size)).mono B0.out.size))
      clear hr8 hb8
      go_wp2
      go_ret2
      rw[HR5.out]
      exact ⟨_,rfl,R8.out,B8.out⟩
     ·have hd16i:¬ (d.length:Int)≤16:=by omega
      have hdd:decide ((d.length:Int)≤16)=false:=decide_eq_false hd16i
      have HBG:=mk0 (show bodyF 2 l=(3,tb) by rw[HBF.out,if_neg hd16])
      rw[HBG.out] at HR4
      have HLN:=HLP
      go_wp2_with fail
      (with_reducible refine (v_Put0I 3 _ (by omega) (by omega)).mono ?_)
      rintro e w5 ⟨v5,rfl,hr5,hb5⟩
      have B5:=mk0 (B4.out.trans (hb5.mono B4.out.size))
      obtain ⟨A6,c6,rfl,hc6,hC6⟩:=u8_R_len hr5
      rw[show (3:Int).toNat=3 from rfl] at hC6 hc6 ⊢
      have HC6:=mk0 hC6
      have HP6:=mk0 (putV_len10 (n:=3) (by omega))
      have HC7:=mk0 (Kd.C_below HC4.out.2 hb5)
      have HC8:=mk0 (Kd.C_below HC5.out.2 hb5)
      clear hr5 hb5 hc6 hC6
      generalize putV 3=pv at *
      go_wp2_with fail
      (with_reducible refine (v_Put A6 c6 pv l.length _ HC6.out (by have:=HP6.out;omega) (by omega)).mono ?_)
      rintro e w6 ⟨v6,rfl,hr6,hb6⟩
      have B6:=mk0 (B5.out.trans (hb6.mono B5.out.size))
      obtain ⟨A7,c7,rfl,hc7,hC7⟩:=u8_R_len hr6
      have HP7:=mk0 (putV_len10 (n:=l.length) (by omega))
      have HPL7:=mk0 (show (pv++putV l.length).length≤20 by rw[List.length_append];have:=HP6.out;have:=HP7.out;omega)
      have HR5:=mk0 (show r=(pv++putV l.length++rb1++tb,0) from HR4.out)
      obtain ⟨pp,hpp⟩:∃ pp,pp=pv++putV l.length:=⟨_,rfl⟩
      rw[← hpp] at hc7 hC7 HR5 HPL7 ⊢
      have HSN:=mk0 (show pp.length+rb1.length+(tb).length≤1099511627776 by
       have:=HPL7.out;have:=HRL.out;have:=HNL.out;have:=HLN.out;omega)
      have HCC:=mk0 (concat3 A7 A3 A5 c7 c3 c5 pp rb1 (tb) w6 hC7 (Kd.C_below HC7.out hb6) (Kd.C_below HC8.out hb6) hc7 HC3.out.1 HC5.out.1 HSN.out)
      have BL:=below_alloc (Below.refl w6.heap.size w6) (.cells #[.slice A7 pp.length c7,.slice A3 rb1.length c3,.slice A5 (tb).length c5] 22)
      have B7:=mk0 (B6.out.trans (BL.mono B6.out.size))
      clear hr6 hb6 hc7 hC7 hpp BL
      go_wp2_with fail
      (with_reducible refine HCC.out.mono ?_)
      rintro e w8 ⟨v8,rfl,hr8,hb8⟩
      have R8:=mk0 (Kd.R_lower hr8 (Nat.le_trans B0.out.size B7.out.size))
      have B8:=mk0 (B0.out.trans ((B7.out.trans (hb8.mono B7.out.size)).mono B0.out.size))
      clear hr8 hb8
      go_wp2
      go_ret2
      rw[HR5.out]
      exact ⟨_,rfl,R8.out,B8.out⟩
  ·have HF:=mk0 (show r=([],1) by rw[HR2.out];rfl)
   go_wp2_with fail
   rw[← HWB.out,← HKB.out]
   (with_reducible refine HHAS.out.mono ?_)
   rintro e w1 ⟨rfl,hb1⟩
   have B1:=mk0 (B0.out.trans (hb1.mono B0.out.size))
   clear hb1
   go_wp2
   go_ret2
   rw[HF.out]
   exact ⟨_,rfl,Kd.R_nil _ _ _ _ _,B1.out⟩
theorem chunk_Encode (A:Option Addr) (c:Nat) (kind:Int) (l:List CellM) (w:World) (h:kc.C w A l.length l) (hl:l.length≤1099511627776) (hi:∀ c ∈ l,I64 c.n) :
  Calls Tryz.prog 55 #[.int .i64 kind,.slice A l.length c] w (ToldB 5 w (chunkB kind l).1 (chunkB kind l).2):=by
 by_cases h1:kind=1
 ·subst h1;exact chunk_Encode1 A c l w h hl hi
 ·by_cases h2:kind=2
  ·subst h2;exact chunk_Encode2 A c l w h hl hi
  ·exact chunk_bad A c kind l w ⟨h1,h2⟩
end Go.Proofs.YtpiobnfakmmpdaaGreat.Lib0

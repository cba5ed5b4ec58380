import Derived.Tactics2
import Derived.Defers
import Derived.Laws.Pointers
import Derived.Laws.LoneSync
import Derived.RegionTactic
import Derived.RegionCalls
import Derived.Test.YtpiobnfakmmpdaaGreatP17
set_option linter.unusedVariables false
set_option linter.unusedSimpArgs false
namespace Go.Proofs.YtpiobnfakmmpdaaGreat.Lib0
open Go.RowKit Go.Proofs.YtpiobnfakmmpdaaGreatW.PrintWords Go.ChangeMaps
theorem C_none {α:Type} {d:Kd α} {w:World} {n:Nat} {l:List α} (h:d.C w none n l):l = []:=by
 rcases l with _ | ⟨x,l⟩
 ·rfl
 ·obtain ⟨ad,e,_⟩:=h.2.2 (by have:=h.1;simp at this;omega)
  cases e
set_option maxHeartbeats 1600000 in
set_option maxRecDepth 100000 in
theorem clone_u8 (A:Option Addr) (c:Nat) (l:List UInt8) (w:World) (h:u8.C w A l.length l) (hl:l.length≤1099511627776) :
  Calls Tryz.prog 72 #[.slice A l.length c] w (Row 5 w l):=by
 have HC:=mk0 h
 have HL:=mk0 hl
 rcases A with _ | ad
 ·have h0:=C_none h
  subst h0
  rw[List.length_nil]
  have hnil:=fun W=>Go.Lib.run_eql_slice_nil (P:=Tryz.prog) W 22 5 none 0 c 0 0 Tryz.underlying22
  simp only[Option.isNone_none] at hnil
  clear h hl
  go_enter Tryz.func72,Tryz.ntmps72
  go_wp2
  go_ret
  exact ⟨_,rfl,Kd.R_nil _ _ _ _ _,Below.refl _ _⟩
 ·have hnil:=fun W=>Go.Lib.run_eql_slice_nil (P:=Tryz.prog) W 22 5 (some ad) l.length c 0 0 Tryz.underlying22
  simp only[Option.isNone_some] at hnil
  clear h hl
  go_enter Tryz.func72,Tryz.ntmps72
  go_wp2_with (at_builtin;go_loud (refine u8_append (.tmp 5) (.tmp 6) 22 5 (.slice (some ⟨w.heap.size,0,none⟩) 0 0) [] l _ _ _ w.heap.size rfl rfl Tryz.underlying22 info_u8 rfl rfl (R_empty u8 5 w) (Kd.C_below HC.out (below_alloc (Below.refl _ _) _)) ?c1 ?c2 ?_))
  case c1=>simp
  case c2=>have:=HL.out;simp;omega
  intro v1 w1 hr1 hb1 _ _
  have R1:=mk0 hr1
  have B1:=mk0 ((below_alloc (Below.refl w.heap.size w) (.cells #[] 5)).trans hb1)
  clear hr1 hb1
  go_wp2
  go_ret
  exact ⟨_,rfl,by simpa using R1.out,B1.out⟩
theorem readF_I64 (l:List UInt8) (d:List ByteArray) (form:Int):∀ (nl codes:List Nat) (p why:Int) (cs:List CellM) (ats:List Int),(∀ c ∈ cs,I64 c.n)→∀ c ∈ (readF l d form nl codes p why cs ats).1,I64 c.n
 | [],codes,p,why,cs,ats,h=>h
 | x :: t,codes,p,why,cs,ats,h=>by
  rw[readF]
  refine readF_I64 l d form t _ _ _ _ _ (fun c hc=>?_)
  rcases List.mem_append.1 hc with hc | hc
  ·exact h c hc
  ·simp at hc
   subst hc
   unfold stepC
   split
   ·show I64 0;unfold I64;omega
   ·split
    ·unfold valueR
     split
     ·exact zag_in (getA_lt l p).1
     ·show I64 0;unfold I64;omega
    ·split
     ·show I64 0;unfold I64;omega
     ·show I64 0;unfold I64;omega
theorem readR_I64 (l:List UInt8):∀ c ∈ (readR l).cells,I64 c.n:=by
 unfold readR
 split
 ·simp
 ·unfold readQ
  split
  ·simp
  ·exact readF_I64 _ _ _ _ _ _ _ [] [] (by simp)
def ChkAt (w:World) (cp:Nat) (l:List UInt8) (form:Nat) (cs:List CellM):Prop:=
 ∃ (Ab:Option Addr) (cb:Nat) (Ad:Option Addr) (nd cd:Nat) (At:Option Addr) (nt ct:Nat) (on:Int) (v8:Value),w.heap[cp]?=some (.cells #[.slice Ab l.length cb,.int .i64 form,.int .i64 cs.length,.slice Ad nd cd,.slice At nt ct,.int .u32 on,.int .i32 0,.int .u32 0,v8] 208 (0,0))∧
  l.length≤cb∧u8.C w Ab l.length l∧((on=0∧v8 = .slice none 0 0)∨(on=1∧∃ Ac cc,v8 = .slice Ac cs.length cc∧cs.length≤cc∧kc.C w Ac cs.length cs))
theorem ChkAt.lt {w:World} {cp:Nat} {l:List UInt8} {form:Nat} {cs:List CellM} (h:ChkAt w cp l form cs):cp<w.heap.size:=by
 obtain ⟨_,_,_,_,_,_,_,_,_,_,hh,_⟩:=h
 exact (Array.getElem?_eq_some_iff.1 hh).1
theorem ChkAt.below {w w':World} {cp:Nat} {l:List UInt8} {form:Nat} {cs:List CellM} (h:ChkAt w cp l form cs) (hb:Below w.heap.size w w'):ChkAt w' cp l form cs:=by
 have hlt:=h.lt
 obtain ⟨Ab,cb,Ad,nd,cd,At,nt,ct,on,v8,hh,h1,h2,h3⟩:=h
 refine ⟨Ab,cb,Ad,nd,cd,At,nt,ct,on,v8,(hb.block cp hlt).trans hh,h1,Kd.C_below h2 hb,?_⟩
 rcases h3 with h3 | ⟨h3,Ac,cc,h4,h5,h6⟩
 ·exact .inl h3
 ·exact .inr ⟨h3,Ac,cc,h4,h5,Kd.C_below h6 hb⟩
def SubAt (w:World) (cp q:Nat):Prop:=q=cp∨∃ ad n c,0<n∧(w.cell? ⟨cp,0,none⟩=some (.slice (some ad) n c)∨w.cell? ⟨cp,8,none⟩=some (.slice (some ad) n c))∧ad.block=q
theorem SubAt.same {w w':World} {cp q:Nat} (h:w'.heap[cp]?=w.heap[cp]?) (hs:SubAt w' cp q):SubAt w cp q:=by
 rcases hs with hs | ⟨ad,n,c,h0,hs,e⟩
 ·exact .inl hs
 ·refine .inr ⟨ad,n,c,h0,?_,e⟩
  rw[World.cell?_of_block (w:=w) (w':=w') (a:=⟨cp,0,none⟩) h,World.cell?_of_block (w:=w) (w':=w') (a:=⟨cp,8,none⟩) h] at hs
  exact hs
theorem SubAt.raw {w:World} {cp q:Nat} {x0 x1 x2 x3 x4 x5 x6 x7 x8:Value} {T:Nat} (h:w.heap[cp]?=some (.cells #[x0,x1,x2,x3,x4,x5,x6,x7,x8] T (0,0))) (hs:SubAt w cp q):q=cp∨∃ ad n c,0<n∧(x0 = .slice (some ad) n c∨x8 = .slice (some ad) n c)∧ad.block=q:=by
 rcases hs with hs | ⟨ad,n,c,h0,hs,e⟩
 ·exact .inl hs
 ·refine .inr ⟨ad,n,c,h0,?_,e⟩
  rw[cell_of_heap (i:=0) h rfl,cell_of_heap (i:=8) h rfl] at hs
  rcases hs with hs | hs
  ·exact .inl (by injection hs)
  ·exact .inr (by injection hs)
def kindOf (form:Nat):Int:=if form=1 then 1 else 2
def openR (l:List UInt8):Option (Nat × List CellM):=
 if (readR l).ok then
  (if (chunkB (kindOf (small (getA l 0).1)) (readR l).cells).2≠0∨(chunkB (kindOf (small (getA l 0).1)) (readR l).cells).1≠l then none else some (small (getA l 0).1,(readR l).cells))
 else none
set_option maxRecDepth 100000 in
theorem chunk_Kind {w:World} {cp:Nat} {form:Nat} (h:w.cell? ⟨cp,1,none⟩=some (.int .i64 form)) :
  Calls Tryz.prog 115 #[.pointer (some ⟨cp,0,none⟩)] w fun e w'=>e = .returned (.int .i64 (kindOf form))∧w=w':=by
 by_cases hf:form=1
 ·subst hf
  have h':w.cell? ⟨cp,1,none⟩=some (.int .i64 1):=h
  clear h
  go_enter Tryz.func115,Tryz.ntmps115
  go_wp2
  go_ret
  exact ⟨rfl,rfl⟩
 ·have hfb:((form:Int)==1)=false:=by rw[beq_eq_false_iff_ne];omega
  have HK:=mk0 (show kindOf form=2 by unfold kindOf;rw[if_neg hf])
  have hf2:¬ (form:Int)=1:=by omega
  go_enter Tryz.func115,Tryz.ntmps115
  go_wp2
  go_ret
  exact ⟨by rw[HK.out];rfl,rfl⟩
def OpenS (w:World) (l:List UInt8) (e:Ending) (w':World):Prop:=
 (openR l=none∧e = .returned (.tuple #[.pointer none,.int .i64 12])∧Below w.heap.size w w')∨
 (∃ form cs cp,openR l=some (form,cs)∧e = .returned (.tuple #[.pointer (some ⟨cp,0,none⟩),.int .i64 0])∧w.heap.size≤cp∧ChkAt w' cp l form cs∧Below w.heap.size w w'∧∀ q,SubAt w' cp q→w.heap.size≤q)
theorem readF_len (l:List UInt8) (d:List ByteArray) (form:Int):∀ (nl codes:List Nat) (p why:Int) (cs:List CellM) (ats:List Int),(readF l d form nl codes p why cs ats).1.length=cs.length+nl.length
 | [],codes,p,why,cs,ats=>by simp[readF]
 | x :: t,codes,p,why,cs,ats=>by
  rw[readF,readF_len l d form t]
  simp;omega
theorem readR_len (l:List UInt8):(readR l).cells.length≤65536:=by
 unfold readR
 split
 ·simp
 ·rename_i hb
  unfold readQ
  split
  ·simp
  ·rename_i hq
   have h1:=numbersR_ok (l:=l) (n:=(smallR l (smallR l 0 0).2.1 (smallR l 0 0).2.2).1) (wd:=1) smallR_ok (by simpa using hq)
   show (readF _ _ _ _ _ _ _ [] []).1.length≤65536
   rw[readF_len,List.length_nil,h1.1]
   omega
set_option maxHeartbeats 3200000 in
set_option maxRecDepth 100000 in
theorem chunk_Open (A:Option Addr) (c:Nat) (l:List UInt8) (w:World) (h:u8.C w A l.length l) (hc:l.length≤c) (hl:l.length≤1073741824) :
  Calls Tryz.prog 112 #[.slice A l.length c] w (OpenS w l):=by
 have HC:=mk0 h
 have HCC:=mk0 hc
 have hli:(l.length:Int)≤1073741824:=by omega
 have HL:=mk0 hl
 have HRD:=mk0 (chunk_read A c l w h hc hl)
 have HCL:=mk0 (fun W hb=>clone_u8 A c l W (Kd.C_below h hb) (by omega))
 have HI64:=mk0 (readR_I64 l)
 have HLN:=mk0 (readR_len l)
 have HG0:Aside0 (∀ W,Below w.heap.size w W→Calls Tryz.prog 110 #[.slice A l.length c,.int .i64 0] W fun e w'=>e = .returned (.tuple #[.int .i64 (small (getA l 0).1),.int .i64 (endA 0 (getA l 0)),.int .i64 (getA l 0).2.2])∧W=w'):=⟨fun W hb=>v_Small A c l 0 W (Kd.C_below h hb) hc (by omega)⟩
 have HO:Aside0 (openR l=if (readR l).ok then (if (chunkB (kindOf (small (getA l 0).1)) (readR l).cells).2≠0∨(chunkB (kindOf (small (getA l 0).1)) (readR l).cells).1≠l then none else some (small (getA l 0).1,(readR l).cells)) else none):=⟨rfl⟩
 generalize readR l=r at *
 obtain ⟨cs,d,ats,ok⟩:=r
 generalize hop:openR l=op at *
 have HOP:=mk0 hop
 generalize endA 0 (getA l 0)=e0 at *
 generalize getA l 0=g0 at *
 obtain ⟨gv,gn,gw⟩:=g0
 simp only at HO HI64 HG0 HLN
 generalize small gv=form at *
 clear h hc hl hop
 go_enter Tryz.func112,Tryz.ntmps112
 go_wp2_with fail
 (with_reducible refine HRD.out.mono ?_)
 rintro e w1 ⟨A1,c1,A2,c2,A3,c3,rfl,h1,h2,h3,hC1,hC2,hC3,hb1,_⟩
 simp only at h1 h2 h3 hC1 hC2 hC3
 have B1:=mk0 hb1
 have D1:=mk0 hC1
 have hcl:=hC1.2.1
 clear hC1 hC2 hC3 hb1
 cases ok
 ·have HO2:=mk0 (show openR l=none by rw[HOP.out,HO.out];rfl)
  go_wp2
  go_ret2
  exact .inl ⟨HO2.out,rfl,B1.out⟩
 ·have HO2:=mk0 (show openR l=if (chunkB (kindOf form) cs).2≠0∨(chunkB (kindOf form) cs).1≠l then none else some (form,cs) by rw[HOP.out,HO.out,if_pos rfl])
  go_wp2_with fail
  (with_reducible refine (HCL.out _ B1.out).mono ?_)
  rintro e w2 ⟨v2,rfl,hr2,hb2⟩
  obtain ⟨A5,c5,rfl,hc5,hC5⟩:=u8_R_len hr2
  have B2:=mk0 (B1.out.trans (hb2.mono B1.out.size))
  have D2:=mk0 (Kd.C_below D1.out hb2)
  have E2:=mk0 (And.intro hc5 hC5)
  have F5:=mk0 (show ∀ ad,A5=some ad→w.heap.size≤ad.block from fun ad e=>by subst e;exact Nat.le_trans B1.out.size (R_base hr2 ad.block rfl))
  clear hr2 hb2 hc5 hC5 D1
  go_wp2_with fail
  have BA1:=below_alloc (Below.refl w2.heap.size w2) (.cells #[.slice A5 l.length c5,.int .i64 0,.int .i64 cs.length,.slice A2 d.length c2,.slice A3 ats.length c3,.int .u32 0,.int .i32 0,.int .u32 0,.slice none 0 0] 208)
  (with_reducible refine (HG0.out _ (B2.out.trans (BA1.mono B2.out.size))).mono ?_)
  rintro e w' ⟨rfl,rfl⟩
  have BA:=below_alloc (Below.refl w2.heap.size w2) (.cells #[.slice A5 l.length c5,.int .i64 form,.int .i64 cs.length,.slice A2 d.length c2,.slice A3 ats.length c3,.int .u32 0,.int .i32 0,.int .u32 0,.slice none 0 0] 208)
  have hnew:=heap_alloc_new w2 (.cells #[.slice A5 l.length c5,.int .i64 form,.int .i64 cs.length,.slice A2 d.length c2,.slice A3 ats.length c3,.int .u32 0,.int .i32 0,.int .u32 0,.slice none 0 0] 208)
  have HCK:Aside0 (ChkAt (w2.alloc (.cells #[.slice A5 l.length c5,.int .i64 form,.int .i64 cs.length,.slice A2 d.length c2,.slice A3 ats.length c3,.int .u32 0,.int .i32 0,.int .u32 0,.slice none 0 0] 208)) w2.heap.size l form cs):=⟨⟨A5,c5,A2,d.length,c2,A3,ats.length,c3,0,.slice none 0 0,hnew,E2.out.1,Kd.C_below E2.out.2 BA,.inl ⟨rfl,rfl⟩⟩⟩
  have HKD:=mk0 (chunk_Kind (form:=form) (cell_of_heap (i:=1) hnew rfl))
  have B3:=mk0 (B2.out.trans (BA.mono B2.out.size))
  have D3:=mk0 (Kd.C_below D2.out BA)
  have HSB:=mk0 (show ∀ q,SubAt (w2.alloc (.cells #[.slice A5 l.length c5,.int .i64 form,.int .i64 cs.length,.slice A2 d.length c2,.slice A3 ats.length c3,.int .u32 0,.int .i32 0,.int .u32 0,.slice none 0 0] 208)) w2.heap.size q→w.heap.size≤q from fun q hq=>by
   rcases hq.raw hnew with rfl | ⟨ad,n,c',_,h | h,rfl⟩
   ·exact B2.out.size
   ·injection h with h1
    exact F5.out ad h1
   ·cases h)
  clear BA1 BA hnew
  go_wp2_with fail
  (with_reducible refine HKD.out.mono ?_)
  rintro e w' ⟨rfl,rfl⟩
  have HEN:=mk0 (chunk_Encode A1 c1 (kindOf form) cs _ D3.out (by have:=HLN.out;omega) HI64.out)
  generalize w2.alloc (.cells #[.slice A5 l.length c5,.int .i64 form,.int .i64 cs.length,.slice A2 d.length c2,.slice A3 ats.length c3,.int .u32 0,.int .i32 0,.int .u32 0,.slice none 0 0] 208)=w3 at *
  have hcp:w.heap.size≤w2.heap.size:=B2.out.size
  generalize w2.heap.size=cp at *
  have HCP:=mk0 hcp
  generalize chunkB (kindOf form) cs=cb at *
  obtain ⟨cbl,cbw⟩:=cb
  simp only at HEN HO2
  go_wp2_with fail
  (with_reducible refine HEN.out.mono ?_)
  rintro e w4 ⟨v4,rfl,hr4,hb4⟩
  obtain ⟨A6,c6,rfl,_,hC6⟩:=u8_R_len hr4
  have D6:=mk0 hC6
  have B4:=mk0 (B3.out.trans (hb4.mono B3.out.size))
  have K4:=mk0 (HCK.out.below hb4)
  have S4:=mk0 (fun q (hq:SubAt w4 cp q)=>HSB.out q (hq.same (hb4.block cp HCK.out.lt)))
  have HEQ:=mk0 (bytes_Equal A6 A c6 c cbl l w4 hC6 (Kd.C_below HC.out B4.out))
  clear hr4 hb4 hC6 hcp
  by_cases hw:cbw=0
  ·subst hw
   by_cases he:cbl=l
   ·have HO3:=mk0 (show openR l=some (form,cs) by rw[HO2.out,if_neg (by simp[he])])
    rw[decide_eq_true he] at HEQ
    clear he HO HO2
    go_wp2_with fail
    (with_reducible refine HEQ.out.mono ?_)
    rintro e w' ⟨rfl,rfl⟩
    go_wp2
    go_ret2
    exact .inr ⟨form,cs,cp,HO3.out,rfl,HCP.out,K4.out,B4.out,S4.out⟩
   ·have HO3:=mk0 (show openR l=none by rw[HO2.out,if_pos (.inr he)])
    rw[decide_eq_false he] at HEQ
    clear he HO HO2
    go_wp2_with fail
    (with_reducible refine HEQ.out.mono ?_)
    rintro e w' ⟨rfl,rfl⟩
    go_wp2
    go_ret2
    exact .inl ⟨HO3.out,rfl,B4.out⟩
  ·have HO3:=mk0 (show openR l=none by rw[HO2.out,if_pos (.inl hw)])
   have hwb:(cbw==0)=false:=by rw[beq_eq_false_iff_ne];exact hw
   have hwb2:(cbw != 0)=true:=by rw[bne_iff_ne];exact hw
   clear HO HO2
   go_wp2
   go_ret2
   exact .inl ⟨HO3.out,rfl,B4.out⟩
end Go.Proofs.YtpiobnfakmmpdaaGreat.Lib0
namespace Go.Proofs.YtpiobnfakmmpdaaGreat.Lib0
open Go.RowKit Go.Proofs.YtpiobnfakmmpdaaGreatW.PrintWords Go.ChangeMaps
theorem o_disable (w:World):(callFunc 245 #[]).run Tryz.prog w = .ok (.value (.tuple #[])) w:=run_call_mark0 Tryz.func245 (by kernel_rfl) (by kernel_rfl) (by kernel_rfl) .disable (by kernel_rfl) w
theorem o_enable (w:World):(callFunc 247 #[]).run Tryz.prog w = .ok (.value (.tuple #[])) w:=run_call_mark0 Tryz.func247 (by kernel_rfl) (by kernel_rfl) (by kernel_rfl) .enable (by kernel_rfl) w
theorem o_acquire (a:Addr) (w:World):(callFunc 248 #[.pointer (some a)]).run Tryz.prog w = .ok (.value (.tuple #[])) w:=run_call_marked Tryz.func248 (by kernel_rfl) (by kernel_rfl) (by kernel_rfl) .acquire (by kernel_rfl) a w
theorem o_release (a:Addr) (w:World):(callFunc 250 #[.pointer (some a)]).run Tryz.prog w = .ok (.value (.tuple #[])) w:=run_call_marked Tryz.func250 (by kernel_rfl) (by kernel_rfl) (by kernel_rfl) .releaseMerge (by kernel_rfl) a w
theorem o_store (a:Addr) (x:Value) (u:FrameMode) (w:World) (hc:w.cell? a=some x) (hz:w.frozen? a=false) :
  CallsD Tryz.prog 191 #[.pointer (some a),.bool true] u w fun e u' w'=>u'=u∧(e = .returned (.tuple #[])∧w'=w.drew.setCell a (.int .u32 1)):=by
 have hc':w.drew.cell? a=some x:=by go_simp
 have hz':w.drew.frozen? a=false:=by go_simp
 have hst:=run_call_store (P:=Tryz.prog) Tryz.func218 (by kernel_rfl) (by kernel_rfl) (by kernel_rfl) (by kernel_rfl) (k:=.u32) (y:=1) hc' hz'
 go_enter_d Tryz.func191,Tryz.ntmps191
 go_wp2
 go_region_calls
 all_goals (go_end0;exact ⟨rfl,rfl⟩)
set_option maxRecDepth 100000 in
theorem o_unlock0 (a:Addr) (w:World) (hc:w.cell? a=some (.int .i32 1)) (hz:w.frozen? a=false) :
  Calls Tryz.prog 217 #[.pointer (some a)] w fun e w'=>e = .returned (.tuple #[])∧w'=w.setCell a (.int .i32 0):=by
 have hd:=o_disable
 have he:=o_enable
 have hr:=o_release
 have hadd:=run_call_add (P:=Tryz.prog) Tryz.func251 (by kernel_rfl) (by kernel_rfl) (by kernel_rfl) .i32 (by kernel_rfl) (y:=-1) (s:=0) hc hz (by simp[go_sem];rfl)
 have hcv:=run_convert_to_unsafe (P:=Tryz.prog) (src:=313) (dst:=317) Tryz.underlying313 Tryz.underlying317 (by kernel_rfl) hc
 go_enter Tryz.func217,Tryz.ntmps217
 go_wp2
 go_end0
 exact ⟨rfl,rfl⟩
set_option maxRecDepth 100000 in
theorem o_unlock (a:Addr) (u:FrameMode) (w:World) (hc:w.cell? a=some (.int .i32 1)) (hz:w.frozen? a=false) :
  CallsD Tryz.prog 190 #[.pointer (some a)] u w fun e u' w'=>u'=u∧(e = .returned (.tuple #[])∧w'=w.setCell a (.int .i32 0)):=by
 have hz0:a.add 0=a:=by simp[Addr.add]
 have HU:=mk0 (o_unlock0 a w hc hz)
 go_enter_d Tryz.func190,Tryz.ntmps190
 go_wp2_with (go_at_call 217;refine HU.out.mono ?_;rintro e w' ⟨rfl,rfl⟩)
 go_end0
 exact ⟨rfl,rfl⟩
set_option maxRecDepth 100000 in
theorem o_lock0 (a:Addr) (w:World) (hc:w.cell? a=some (.int .i32 0)) (hz:w.frozen? a=false) :
  Calls Tryz.prog 216 #[.pointer (some a)] w fun e w'=>e = .returned (.tuple #[])∧w'=w.setCell a (.int .i32 1):=by
 have hd:=o_disable
 have he:=o_enable
 have ha:=o_acquire
 have hcas:=run_call_cas_hit (P:=Tryz.prog) Tryz.func246 (by kernel_rfl) (by kernel_rfl) (by kernel_rfl) .i32 (by kernel_rfl) (y:=1) hc hz
 have hc':(w.setCell a (.int .i32 1)).cell? a=some (.int .i32 1):=World.cell?_setCell_same w a _ hc
 have hcv:=run_convert_to_unsafe (P:=Tryz.prog) (src:=313) (dst:=317) Tryz.underlying313 Tryz.underlying317 (by kernel_rfl) hc'
 go_enter Tryz.func216,Tryz.ntmps216
 go_wp2
 first | go_end0 | (simp only[Exit.inBlock,Exit.then];refine bodyPost_ret (results_none rfl _ _ _) rfl ?_) | refine bodyPost_ret (results_none rfl _ _ _) rfl ?_
 exact ⟨rfl,rfl⟩
set_option maxRecDepth 100000 in
theorem o_lock (a:Addr) (w:World) (hc:w.cell? a=some (.int .i32 0)) (hz:w.frozen? a=false) :
  Calls Tryz.prog 189 #[.pointer (some a)] w fun e w'=>e = .returned (.tuple #[])∧w'=w.setCell a (.int .i32 1):=by
 have HU:=mk0 (o_lock0 a w hc hz)
 go_enter Tryz.func189,Tryz.ntmps189
 go_wp2_with (go_at_call 216;refine HU.out.mono ?_;rintro e w' ⟨rfl,rfl⟩)
 go_end0
 exact ⟨rfl,rfl⟩
theorem o_load (a:Addr) (d:Int) (b:Bool) (hb:(d != 0)=b) (w:World) (h:w.cell? a=some (.int .u32 d)) :
  Calls Tryz.prog 150 #[.pointer (some a)] w fun e w'=>e = .returned (.bool b)∧w'=w:=by
 have hl:=run_call_load (P:=Tryz.prog) Tryz.func188 (by kernel_rfl) (by kernel_rfl) (by kernel_rfl) .u32 (by kernel_rfl) h
 go_enter Tryz.func150,Tryz.ntmps150
 go_wp2
 go_ret
 exact ⟨rfl,rfl⟩
end Go.Proofs.YtpiobnfakmmpdaaGreat.Lib0

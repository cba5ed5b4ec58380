import Derived.Test.YtpiobnfakmmpdaaGreatP12
set_option linter.unusedVariables false
set_option linter.unusedSimpArgs false
namespace Go.Proofs.YtpiobnfakmmpdaaGreat.Lib0
open Go.RowKit Go.Proofs.YtpiobnfakmmpdaaGreatW.PrintWords Go.ChangeMaps
theorem run_append_zeros {P:Program} (w:World) (t ti ty e:TypeId) (k:IntKind) (i:TypeInfo) (z:Value) (ht:P.underlying t=some (.slice e)) (hti:P.underlying ti=some (.int k)) (hi:P.info? e=some i) (hz:i.zero=some z) (hs:i.size=1) (hzc:z.cells=#[z]) (hb:i.bytes=1) (hv:(zeroValue e).run P w.drew = .ok z w.drew)
  (n:Nat) (hn:0<n) (hn2:n≤1099511627776) :
  (Builtin.append_ #[t,ti] ty #[.slice none 0 0,.int .i64 n]).run P w =
   .ok (.slice (some ⟨w.heap.size,0,none⟩) n (grownCap w n 0 e)) (w.drew.alloc (.cells (Builtin.zeroCells #[z] n++Builtin.zeroCells #[z] (grownCap w n 0 e-n)) e)):=by
 have h1:IntKind.i64.wrap (n:Int)=n:=wrap_small n (by omega)
 have h2:¬ ((n:Int)<0):=by omega
 have h3:¬ (281474976710656<(n:Int)):=by omega
 have h4:¬ n=0:=by omega
 have h6:¬ (9223372036854775807<(n:Int)):=by omega
 have h7:Builtin.nextslicecap n 0=n:=by unfold Builtin.nextslicecap;rw[if_pos (by omega)]
 have h8:¬ (281474976710656<n):=by omega
 simp[Builtin.append_,run_underlying ht,run_underlying hti,sizeOf,typeInfo,zeroValue,hi,hz,hs,hb,hzc,h1,h2,h3,h4,h6,h7,h8,asInt,asIntOf,Question.forced,newRow,grownCap,Builtin.firstCells]
section
variable {P:Program} {ops:Array Oper} {rest:List Oper} {o:Oper} {a:Act} {Q:Exit→Act→World→Prop}
theorem u8_append_zeros {W:World} (s x:Operand) (t ti e:TypeId) (k:IntKind) (i:TypeInfo) (n:Nat)
  (hgd:o.guard=none) (ho:o.op = .call { callee:=.builtin .append,args:=#[s,x],argTypes:=#[t,ti] })
  (ht:P.underlying t=some (.slice e)) (hti:P.underlying ti=some (.int k)) (hi:P.info? e=some i) (hz:i.zero=some (.int .u8 0)) (hsz:i.size=1) (hb:i.bytes=1) (hv:∀ w,(zeroValue e).run P w = .ok (.int .u8 0) w)
  (hs:a.eval s = .slice none 0 0) (hx:a.eval x = .int .i64 n) (hn:0<n) (hn2:n≤1099511627776)
  (h:∀ cap w1,n≤cap→u8.R e w1 W.heap.size (fun _=>True) (.slice (some ⟨W.heap.size,0,none⟩) 0 cap) []→Below W.heap.size W w1→wpList P ops Q rest (a.put o.dst (.slice (some ⟨W.heap.size,0,none⟩) n cap)) w1) :
  wpList P ops Q (o :: rest) a W:=by
 have hr:=run_append_zeros (P:=P) W t ti o.type e k i (.int .u8 0) ht hti hi hz hsz rfl hb (hv _) n hn hn2
 have hcap:n≤grownCap W n 0 e:=grownCap_ge W n 0 e
 have hmx:grownCap W n 0 e≤maxLen:=grownCap_le_maxLen W n 0 e (by unfold maxLen;omega)
 refine wpList_plain hgd fun K hK=>?_
 unfold Oper.wp execOp
 simp only[ho,resolve,invoke,builtin,Sem.run_bind,Sem.run_pure,Result.andThen_ok,List.map_toArray,List.map_cons,List.map_nil,hs,hx,hr]
 refine hK _ _ (h _ _ hcap ?_ ?_)
 ·rw[u8_R_iff]
  refine ⟨by simp,.inr ⟨W.heap.size,grownCap W n 0 e,_,rfl,Nat.le_refl _,heap_alloc_new W.drew _,by simp,hmx,?_,by simp⟩⟩
  simp[Builtin.zeroCells];omega
 ·exact Below.alloc (below_drew W.heap.size W) (Nat.le_refl _) _
end
set_option maxHeartbeats 1600000 in
set_option maxRecDepth 100000 in
theorem grow_u8 (n:Nat) (w:World) (hn:n≤1099511627776) :
  Calls Tryz.prog 162 #[.slice none 0 0,.int .i64 n] w (Row 5 w []):=by
 have hni:(n:Int)≤1099511627776:=by omega
 by_cases h0:n=0
 ·subst h0
  have hd:¬ (0:Int)<0:=by omega
  go_enter Tryz.func162,Tryz.ntmps162
  go_wp2
  go_ret
  exact ⟨_,rfl,Kd.R_nil _ _ _ _ _,Below.refl _ _⟩
 ·have h0i:(0:Int)<n:=by omega
  have h0n:0<n:=by omega
  obtain ⟨i0,hi,hz⟩:=Option.map_eq_some_iff.1 info_u8
  simp only[Prod.mk.injEq] at hz
  have HI:=mk0 (And.intro hi hz)
  clear hi hz
  have HN:=mk0 (And.intro h0n hn)
  clear hn h0 h0n
  go_enter Tryz.func162,Tryz.ntmps162
  go_wp2_with (at_builtin;go_loud (refine u8_append_zeros (.tmp 20) (.tmp 21) 22 3 5 .i64 i0 n rfl rfl Tryz.underlying22 Tryz.underlying3 HI.out.1 HI.out.2.1 HI.out.2.2.1 HI.out.2.2.2 Tryz.zeroValue5 rfl rfl HN.out.1 HN.out.2 ?_))
  intro cap w1 hcap hr hb
  have R1:=mk0 hr
  have B1:=mk0 hb
  have hci:(0:Int)≤cap:=by omega
  clear hr hb hcap
  go_wp2
  go_ret
  exact ⟨_,rfl,R1.out,B1.out⟩
structure SlH where
 A:Option Addr
 n:Nat
 c:Nat
def kh:Kd SlH:=Kd.scalar (fun h:SlH=>Value.slice h.A h.n h.c) (fun _=>rfl)
def Heads {α:Type} (d:Kd α) (w:World) (H:List SlH) (L:List (List α)):Prop:=H.length=L.length∧∀ i (h1:i<H.length) (h2:i<L.length),H[i].n=L[i].length∧L[i].length≤H[i].c∧d.C w H[i].A L[i].length L[i]
theorem Heads.below {α:Type} {d:Kd α} {w w':World} {H:List SlH} {L:List (List α)} (h:Heads d w H L) (hb:Below w.heap.size w w'):Heads d w' H L:=⟨h.1,fun i h1 h2=>⟨(h.2 i h1 h2).1,(h.2 i h1 h2).2.1,Kd.C_below (h.2 i h1 h2).2.2 hb⟩⟩
def sumN (L:List (List UInt8)):Nat:=L.flatten.length
theorem flat_take (L:List (List UInt8)) (k:Nat) (h:k<L.length):(L.take (k+1)).flatten=(L.take k).flatten++L[k]:=by
 rw[List.take_succ_eq_append_getElem h,List.flatten_append,List.flatten_cons,List.flatten_nil,List.append_nil]
theorem sumN_take (L:List (List UInt8)) (k:Nat) (h:k<L.length):sumN (L.take (k+1))=sumN (L.take k)+L[k].length:=by
 unfold sumN;rw[flat_take L k h,List.length_append]
theorem sumN_le (L:List (List UInt8)) (k:Nat):sumN (L.take k)≤sumN L:=by
 conv=>rhs;rw[← List.take_append_drop k L]
 unfold sumN
 rw[List.flatten_append,List.length_append]
 omega
theorem flat_len (L:List (List UInt8)):L.flatten.length=sumN L:=rfl
set_option maxHeartbeats 3200000 in
set_option maxRecDepth 100000 in
theorem concat_u8 (A:Option Addr) (c:Nat) (H:List SlH) (L:List (List UInt8)) (w:World) (h:kh.C w A H.length H) (hh:Heads u8 w H L) (hs:sumN L≤1099511627776) :
  Calls Tryz.prog 106 #[.slice A H.length c] w (Row 5 w L.flatten):=by
 have HC:=mk0 h
 have HH:=mk0 hh
 have HS:=mk0 hs
 have hh63:=h.2.1
 have HLL:=mk0 hh.1
 clear h hh
 go_enter Tryz.func106,Tryz.ntmps106
 go_wp2_with fail
 go_loopw[3,11] (fun v3 v11 wr=>∃ (k:Nat),k≤H.length∧v3 = .int .i64 (sumN (L.take k))∧v11 = .int .i64 k∧wr=w) (fun _ i _=>H.length-(intOf i).toNat)
 case atStart=>exact ⟨0,by omega,by simp[sumN],rfl,rfl⟩
 case round=>
  obtain ⟨k,hk,rfl,rfl,rfl⟩:=hrel
  by_cases hlt:k<H.length
  ·have hlti:(k:Int)<H.length:=by omega
   have hltL:k<L.length:=by have:=HLL.out;omega
   obtain ⟨b,o,rfl,hx⟩:=sc_open HC.out (by omega)
   have hx1:=hx k hlt
   have HK:=mk0 (HH.out.2 k hlt hltL)
   have HSS:=mk0 (sumN_take L k hltL)
   have HSL:=mk0 (sumN_le L (k+1))
   rw[HK.out.1] at hx1
   clear hx
   generalize H[k]=y at *
   generalize hz:L[k]=z at *
   have h1:(sumN (L.take k):Int)+z.length=(sumN (L.take (k+1)):Int):=by rw[HSS.out];simp
   have h2:(sumN (L.take (k+1)):Int)≤1099511627776:=by have:=HSL.out;have:=HS.out;omega
   clear hz
   generalize hqq:sumN (L.take (k+1))=q at *
   have HQ:=mk0 hqq
   clear hqq
   have h3:(sumN (L.take k):Int)≤1099511627776:=by omega
   have h4:(z.length:Int)≤1099511627776:=by omega
   generalize sumN (L.take k)=q0 at *
   have h5:¬ (q:Int)<0:=by omega
   go_wp2
   go_roundw
   case rel=>exact ⟨k+1,by omega,by rw[HQ.out],by go_num,by first | rfl | trivial⟩
   case measure=>simp[intOf];omega
  ·have HSL:=mk0 (show sumN (L.take k)=sumN L by rw[List.take_of_length_le (by have:=HLL.out;omega)])
   rw[HSL.out]
   have hsi:(sumN L:Int)≤1099511627776:=by have:=HS.out;omega
   generalize hsn:sumN L=sn at *
   have HSN:=mk0 hsn
   clear hsn
   have hlti:¬ (k:Int)<H.length:=by omega
   obtain ⟨wv,hwv⟩:∃ wv,wv=wr:=⟨_,rfl⟩
   subst hwv
   go_wp2_with fail
   (with_reducible refine (grow_u8 sn _ HS.out).mono ?_)
   rintro e w1 ⟨v1,rfl,hr1,hb1⟩
   have R1:=mk0 hr1
   have B1:=mk0 hb1
   clear hr1 hb1
   go_wp2_with fail
   go_loopw[6,27] (fun v6 v27 wr=>∃ (k:Nat) (out:List UInt8),k≤H.length∧v27 = .int .i64 k∧Aside0 (out=(L.take k).flatten)∧Aside0 (Lib0.u8.R 5 wr wv.heap.size (fun _=>True) v6 out)∧Aside0 (Below wv.heap.size wv wr)) (fun _ i _=>H.length-(intOf i).toNat)
   case atStart=>exact ⟨0,[],by omega,rfl,⟨by simp⟩,R1,B1⟩
   case round=>
    obtain ⟨k,out,hk,rfl,HO,HRR,HB⟩:=hrel
    by_cases hlt:k<H.length
    ·have hlti:(k:Int)<H.length:=by omega
     have hltL:k<L.length:=by have:=HLL.out;omega
     obtain ⟨b,o,rfl,hx⟩:=sc_open (Kd.C_below HC.out HB.out) (by omega)
     have hx1:=hx k hlt
     have HK:=mk0 (HH.out.2 k hlt hltL)
     have HO2:=mk0 (show out++L[k]=(L.take (k+1)).flatten by rw[flat_take L k hltL,HO.out])
     have HLZ:=mk0 (show out.length+L[k].length≤140737488355328 by
      have h1:=congrArg List.length HO2.out
      rw[List.length_append,flat_len] at h1
      have:=sumN_le L (k+1)
      rw[HSN.out] at this
      have:=HS.out
      omega)
     rw[HK.out.1] at hx1
     clear hx
     generalize H[k]=y at *
     generalize L[k]=z at *
     go_wp2_with (at_builtin;go_loud (refine u8_append (.tmp 31) (.tmp 32) 22 5 u6 out z _ _ _ wv.heap.size rfl rfl Tryz.underlying22 info_u8 rfl rfl HRR.out (Kd.C_below HK.out.2.2 HB.out) HB.out.size HLZ.out ?_))
     intro v2 w2 hr2 hb2 _ _
     have R2:=mk0 hr2
     have B2:=mk0 (HB.out.trans hb2)
     clear hr2 hb2
     go_wp2
     go_roundw
     case rel=>exact ⟨k+1,_,by omega,by go_num,HO2,R2,B2⟩
     case measure=>simp[intOf];omega
    ·have HO2:=mk0 (show out=L.flatten by rw[HO.out,List.take_of_length_le (by have:=HLL.out;omega)])
     have hlti:¬ (k:Int)<H.length:=by omega
     go_wp2
     go_ret
     exact ⟨_,rfl,by rw[← HO2.out];exact HRR.out,HB.out⟩
end Go.Proofs.YtpiobnfakmmpdaaGreat.Lib0
namespace Go.Proofs.YtpiobnfakmmpdaaGreat.Lib0
open Go.RowKit Go.Proofs.YtpiobnfakmmpdaaGreatW.PrintWords Go.ChangeMaps
def rightB (kind:Int) (c:CellM):Bool:=decide (c.kind=0) || (decide (c.kind=kind) && (decide (kind=1) || decide (c.s.size≤40)))
set_option maxHeartbeats 1600000 in
set_option maxRecDepth 100000 in
theorem chunk_right (kind:Int) (c:CellM) (w:World) :
  Calls Tryz.prog 102 #[.int .i64 kind,.agg #[.string c.col,.int .i64 c.kind,.int .i64 c.n,.string c.s]] w fun e w'=>e = .returned (.bool (rightB kind c))∧Below w.heap.size w w':=by
 obtain ⟨col,ck,n,s⟩:=c
 have HB:=mk0 (below_alloc (Below.refl w.heap.size w) (.cells #[.string col,.int .i64 ck,.int .i64 n,.string s] 37))
 obtain ⟨r,hr⟩:∃ r,r=rightB kind ⟨col,ck,n,s⟩:=⟨_,rfl⟩
 rw[← hr]
 have HR:=mk0 hr
 clear hr
 by_cases h0:ck=0
 ·subst h0
  have HF:=mk0 (show r=true by rw[HR.out];simp[rightB])
  go_enter Tryz.func102,Tryz.ntmps102
  go_wp2
  go_ret
  exact ⟨by rw[HF.out];rfl,HB.out⟩
 ·have h0b:(ck==0)=false:=by rw[beq_eq_false_iff_ne];exact h0
  by_cases hk:ck=kind
  ·subst hk
   by_cases h1:ck=1
   ·subst h1
    have HF:=mk0 (show r=true by rw[HR.out];simp[rightB])
    go_enter Tryz.func102,Tryz.ntmps102
    go_wp2
    go_ret
    exact ⟨by rw[HF.out];rfl,HB.out⟩
   ·have h1b:(ck==1)=false:=by rw[beq_eq_false_iff_ne];exact h1
    have HF:=mk0 (show r=decide ((s.size:Int)≤40) by
     rw[HR.out];simp only[rightB,decide_eq_false h0,decide_eq_false h1,decide_eq_true rfl,Bool.false_or,Bool.true_and]
     exact decide_eq_decide.2 (by omega))
    go_enter Tryz.func102,Tryz.ntmps102
    go_wp2
    go_ret
    exact ⟨by rw[HF.out];rfl,HB.out⟩
  ·have hkb:(ck==kind)=false:=by rw[beq_eq_false_iff_ne];exact hk
   have HF:=mk0 (show r=false by rw[HR.out];simp[rightB,h0,hk])
   go_enter Tryz.func102,Tryz.ntmps102
   go_wp2
   go_ret
   exact ⟨by rw[HF.out];rfl,HB.out⟩
set_option maxHeartbeats 1600000 in
set_option maxRecDepth 100000 in
theorem chunk_clo (kb:Nat) (kind:Int) (c:CellM) (w:World) (h:w.cell? ⟨kb,0,none⟩=some (.int .i64 kind)) :
  Calls Tryz.prog 101 #[.agg #[.string c.col,.int .i64 c.kind,.int .i64 c.n,.string c.s],.pointer (some ⟨kb,0,none⟩)] w fun e w'=>e = .returned (.bool (!rightB kind c))∧Below w.heap.size w w':=by
 have HR:=mk0 (chunk_right kind c)
 have HK:=mk0 (pw_cell_below (below_alloc (Below.refl w.heap.size w) (.cells #[.string c.col,.int .i64 c.kind,.int .i64 c.n,.string c.s] 37)) h)
 have HB:=mk0 (below_alloc (Below.refl w.heap.size w) (.cells #[.string c.col,.int .i64 c.kind,.int .i64 c.n,.string c.s] 37))
 have hk:=HK.out
 generalize rightB kind c=r at *
 clear h
 go_enter Tryz.func101,Tryz.ntmps101
 go_wp2_with fail
 (with_reducible refine (HR.out _).mono ?_)
 rintro e w1 ⟨rfl,hb1⟩
 have B1:=mk0 (HB.out.trans (hb1.mono HB.out.size))
 clear hb1
 go_wp2
 go_ret
 exact ⟨rfl,B1.out⟩
theorem runsF_len (wd:Nat) (hw:wd≤32):∀ (f:Nat) (l:List Nat),l.length≤1048576→(runsF wd f l).length≤64*l.length+512
 | 0,l,_=>by simp[runsF]
 | f+1,l,hl=>by
  rw[runsF]
  split
  ·simp
  ·split
   ·rename_i h0 h8
    have h1:=runsF_len wd hw f (l.drop (sameN l)) (by rw[List.length_drop];omega)
    have h2:=sameN_le l
    have h3:=putV_len10 (n:=2*sameN l) (by omega)
    rw[List.length_drop] at h1
    rw[List.length_append,List.length_append,leB_len]
    omega
   ·rename_i h0 h8
    have h1:=runsF_len wd hw f (l.drop (grpF l.length l 8)) (by rw[List.length_drop];omega)
    have h2:=grpF_ge l.length l 8
    have h3:=putV_len10 (n:=2*grpF l.length l 8/8+1) (by omega)
    have h4:(packB (padN l (grpF l.length l 8)) wd).length≤4*grpF l.length l 8+1:=by
     rw[packB_len,padN_len];unfold sizeB
     have:=Nat.mul_le_mul_left (grpF l.length l 8) hw
     omega
    rw[List.length_drop] at h1
    rw[List.length_append,List.length_append]
    by_cases hG:l.length≤grpF l.length l 8
    ·have h5:runsF wd f (l.drop (grpF l.length l 8)) = []:=by
      rw[List.drop_eq_nil_of_le hG]
      cases f<;>simp[runsF]
     rw[h5,List.length_nil]
     omega
    ·omega
theorem runsB_len (l:List Nat) (wd:Int) (hl:l.length≤1048576):(runsB l wd).1.length≤64*l.length+512:=by
 unfold runsB
 split
 ·simp
 ·exact runsF_len wd.toNat (by omega) _ l hl
theorem textsB_len:∀ (d:List ByteArray),(∀ s ∈ d,s.size≤40)→(textsB d).length≤50*d.length
 | [],_=>by simp[textsB]
 | s :: d,h=>by
  have h1:=textsB_len d (fun x hx=>h x (by simp[hx]))
  have h2:=textB_len (h s (by simp))
  rw[textsB,List.length_append,List.length_cons]
  omega
theorem dictB_len (d:List ByteArray):(dictB d).1.length≤1000:=by
 unfold dictB
 split
 ·rename_i h
  have h1:=fitsB_len h
  have h2:=textsB_len d h1.2
  have h3:=putV_len10 (n:=d.length) (by omega)
  rw[List.length_append]
  omega
 ·simp
def natsL (at_:List Int):List Nat:=at_.map Int.toNat
def codedB (d:List ByteArray) (at_:List Int):List UInt8:=(dictB d).1++(runsB (natsL at_) (widthL (natsL at_))).1
end Go.Proofs.YtpiobnfakmmpdaaGreat.Lib0
namespace Go.Proofs.YtpiobnfakmmpdaaGreat.Lib0
open Go.RowKit Go.Proofs.YtpiobnfakmmpdaaGreatW.PrintWords Go.ChangeMaps
theorem made_set (l:List Nat) (k:Nat) (hk:k<l.length):(l.take k++List.replicate (l.length-k) 0).set k l[k]=l.take (k+1)++List.replicate (l.length-(k+1)) 0:=by
 apply List.ext_getElem
 ·simp;omega
 ·intro i h1 h2
  rw[List.getElem_set]
  split
  ·rename_i h;subst h;rw[List.getElem_append_left (by simp;omega)];simp
  ·rename_i h
   by_cases hi:i<k
   ·rw[List.getElem_append_left (by simp;omega),List.getElem_append_left (by simp;omega)];simp
   ·rw[List.getElem_append_right (by simp;omega),List.getElem_append_right (by simp;omega)];simp
theorem made_len (l:List Nat) (k:Nat) (hk:k≤l.length):(l.take k++List.replicate (l.length-k) 0).length=l.length:=by simp;omega
set_option maxHeartbeats 3200000 in
set_option maxRecDepth 100000 in
theorem chunk_places (A B:Option Addr) (c cb:Nat) (d:List ByteArray) (at_:List Int) (w:World) (hd:Kd.string.C w A d.length d) (h:(Kd.int .i64).C w B at_.length at_) (hdl:d.length≤1099511627776) (hl:at_.length≤65536) (hr:∀ x ∈ at_,0≤x∧x≤1099511627776) :
  Calls Tryz.prog 105 #[.slice A d.length c,.slice B at_.length cb] w (Row 5 w (codedB d at_)):=by
 have HD:=mk0 hd
 have HC:=mk0 h
 have HDL:=mk0 hdl
 have HL:=mk0 hl
 have hli:(at_.length:Int)≤65536:=by omega
 obtain ⟨N,hN⟩:∃ N,N=natsL at_:=⟨_,rfl⟩
 have HCB:Aside0 (codedB d at_=(dictB d).1++(runsB N (widthL N)).1):=⟨by rw[hN];rfl⟩
 have hNl:N.length=at_.length:=by rw[hN];simp[natsL]
 have HNL:=mk0 hNl
 have HNG:=mk0 (show ∀ k (hk:k<at_.length) (h2:k<N.length),0≤at_[k]∧at_[k]≤1099511627776∧(N[k]:Int)=at_[k] by
  intro k hk h2
  have:=hr at_[k] (List.getElem_mem hk)
  refine ⟨this.1,this.2,?_⟩
  simp only[hN,natsL,List.getElem_map]
  omega)
 have HNU:=mk0 (show ∀ n ∈ N,U64 n by
  intro n hn
  rw[hN] at hn
  obtain ⟨x,hx,rfl⟩:=List.mem_map.1 hn
  have:=hr x hx
  unfold U64;omega)
 have hmk:=print_make_int (P:=Tryz.prog) 191 117 (.int .u64 0) 8 Tryz.underlying191 info_u64 rfl (by omega) (at_.length:Int) (by omega) (by omega)
 rw[made_nums,Int.toNat_natCast] at hmk
 have HR0:=mk0 (kn_R_lit w (List.replicate at_.length (0:Nat)) 117 (by simp;omega))
 rw[List.length_replicate] at HR0
 have B0:=mk0 (below_alloc (Below.refl w.heap.size w) (.cells ((List.replicate at_.length (0:Nat)).map (fun n:Nat=>Value.int .u64 (n:Int))).toArray 117))
 obtain ⟨ob,hob⟩:∃ ob,ob=Obj.cells ((List.replicate at_.length (0:Nat)).map (fun n:Nat=>Value.int .u64 (n:Int))).toArray 117:=⟨_,rfl⟩
 rw[← hob] at hmk HR0 B0
 clear hob hN hNl h hd hl hdl hr
 go_enter Tryz.func105,Tryz.ntmps105
 go_wp2_with fail
 obtain ⟨g,hg⟩:∃ g,g=w.heap.size:=⟨_,rfl⟩
 rw[← hg] at HR0 ⊢
 have HG:=mk0 hg
 clear hg hmk
 go_loopw[17] (fun v17 wr=>∃ (k:Nat),k≤at_.length∧v17 = .int .i64 k∧Aside0 (kn.R 117 wr g (fun _=>True) (.slice (some ⟨g,0,none⟩) at_.length at_.length) (N.take k++List.replicate (N.length-k) 0))∧Aside0 (Below w.heap.size w wr)) (fun i _=>at_.length-(intOf i).toNat)
 case atStart=>exact ⟨0,by omega,rfl,⟨by rw[List.take_zero,List.nil_append,HNL.out,Nat.sub_zero];exact HR0.out⟩,B0⟩
 case round=>
  obtain ⟨k,hk,rfl,HRR,HB⟩:=hrel
  by_cases hlt:k<at_.length
  ·have hlti:(k:Int)<at_.length:=by omega
   have hkN:k<N.length:=by have:=HNL.out;omega
   obtain ⟨b,o,rfl,hx⟩:=sc_open HC.out (by omega)
   have hx1:wr.cell? ⟨b,o+k,none⟩=some (.int .i64 at_[k]):=pw_cell_below HB.out (hx k hlt)
   clear hx
   have HK:=mk0 (HNG.out k hlt hkN)
   have HLN:=mk0 (made_len N k (by omega))
   obtain ⟨g',c',hv,hv3,hv4,cur,hh,hcur⟩:=sc_row_open HRR.out (by have:=HLN.out;omega)
   clear hv3 hv4
   simp only[Value.slice.injEq,Option.some.injEq,Addr.mk.injEq,and_true] at hv
   obtain ⟨rfl,hv1,hv2⟩:=hv
   clear hv1 hv2
   have hcc:=hcur k (by have:=HLN.out;omega)
   have hx0:∃ u,wr.cell? ⟨g,k,none⟩=some u:=⟨_,cell_of_heap hh hcc⟩
   have hxf:wr.frozen? ⟨g,k,none⟩=false:=frozen_of_heap hh
   obtain ⟨u,hx0⟩:=hx0
   clear hcc hh hcur
   have HS:=mk0 (sc_R_set HRR.out k (by have:=HLN.out;omega) N[k])
   rw[made_set N k hkN] at HS
   have HBS:=mk0 (HB.out.setCell (p:=⟨g,k,none⟩) (by show w.heap.size≤g;rw[← HG.out];exact Nat.le_refl _) (.int .u64 at_[k]))
   have hy1:at_[k]≤1099511627776:=HK.out.2.1
   have hy2:0≤at_[k]:=HK.out.1
   rw[HK.out.2.2] at HS
   have hyw:IntKind.u64.wrap at_[k]=at_[k]:=by rw[IntKind.wrap_u64];omega
   clear HK
   generalize at_[k]=y at *
   go_wp2
   go_roundw
   case rel=>exact ⟨k+1,by omega,by go_num,HS,HBS⟩
   case measure=>simp[intOf];omega
  ·have HNF:Aside0 (kn.R 117 wr g (fun _=>True) (.slice (some ⟨g,0,none⟩) at_.length at_.length) N):=⟨by
    have:=HRR.out
    rwa [List.take_of_length_le (by have:=HNL.out;omega),show N.length-k=0 by have:=HNL.out;omega,List.replicate_zero,List.append_nil] at this⟩
   have hlti:¬ (k:Int)<at_.length:=by omega
   clear HRR HR0
   go_wp2_with fail
   (with_reducible refine (dict_Encode A c d _ (Kd.C_below HD.out HB.out) HDL.out).mono ?_)
   rintro e w1 ⟨v1,rfl,hr1,hb1⟩
   have B1:=mk0 (HB.out.trans (hb1.mono HB.out.size))
   have R1:=mk0 (Kd.R_lower hr1 HB.out.size)
   have HCN:=mk0 (C_of (Kd.R_below HNF.out hb1))
   have HWC:=bits_Width (some ⟨g,0,none⟩) at_.length N w1 HCN.out HNU.out
   rw[HNL.out] at HWC
   have HWC:=mk0 HWC
   have HD1:=mk0 (dictB_len d)
   clear hr1 hb1
   generalize dictB d=db at *
   obtain ⟨db1,db2⟩:=db
   simp only at R1 HCB HD1
   go_wp2_with fail
   (with_reducible refine HWC.out.mono ?_)
   rintro e w' ⟨rfl,rfl⟩
   have HEN:=runs_Encode (some ⟨g,0,none⟩) at_.length N (widthL N) w1 HCN.out (by have:=HNL.out;omega) HNU.out (by have:=HNL.out;have:=HL.out;omega)
   rw[HNL.out] at HEN
   have HEN:=mk0 HEN
   have HRL:=mk0 (runsB_len N (widthL N) (by have:=HNL.out;have:=HL.out;omega))
   generalize runsB N (widthL N)=rb at *
   obtain ⟨rb1,rb2⟩:=rb
   simp only at HCB HEN HRL
   go_wp2_with fail
   (with_reducible refine HEN.out.mono ?_)
   rintro e w2 ⟨v2,rfl,hr2,hb2⟩
   have B2:=mk0 (B1.out.trans (hb2.mono B1.out.size))
   have R2:=mk0 (Kd.R_below R1.out hb2)
   obtain ⟨A2,c2,rfl,_,hC2⟩:=u8_R_len hr2
   have HC2:=mk0 hC2
   clear hr2 hb2 hC2
   go_wp2_with (at_builtin;go_loud (refine u8_append (.tmp 40) (.tmp 41) 22 5 v1 db1 rb1 _ _ _ w.heap.size rfl rfl Tryz.underlying22 info_u8 rfl rfl R2.out HC2.out B2.out.size ?c1 ?_))
   case c1=>have:=HD1.out;have:=HRL.out;have:=HNL.out;have:=HL.out;omega
   intro v3 w3 hr3 hb3 _ _
   have R3:=mk0 hr3
   have B3:=mk0 (B2.out.trans hb3)
   clear hr3 hb3
   go_wp2
   go_ret
   rw[HCB.out]
   exact ⟨_,rfl,R3.out,B3.out⟩
end Go.Proofs.YtpiobnfakmmpdaaGreat.Lib0

import Derived.Laws.Cover1
import Derived.Test.YtpiobnfakmmpdaaGreatP07
set_option linter.unusedVariables false
set_option linter.unusedSimpArgs false
namespace Go.Proofs.YtpiobnfakmmpdaaGreat.Lib0
open Go.RowKit Go.Proofs.YtpiobnfakmmpdaaGreatW.PrintWords Go.ChangeMaps
section
variable {P:Program} {ops:Array Oper} {rest:List Oper} {o:Oper} {a:Act} {Q:Exit→Act→World→Prop}
theorem kn_append_row {W:World} (s x:Operand) (t e:TypeId) (v:Value) (xs ys:List Nat) (A:Option Addr) (m c:Nat) (base:Nat)
  (hgd:o.guard=none) (ho:o.op = .call { callee:=.builtin .append,args:=#[s,x],argTypes:=#[t,t] })
  (ht:P.underlying t=some (.slice e)) (hinfo:(P.info? e).map (fun i=>(i.zero,i.size,i.bytes))=some (some (.int .u64 0),1,8))
  (hs:a.eval s=v) (hx:a.eval x = .slice A m c)
  (HO:kn.R e W base (fun _=>True) v xs) (HR:kn.C W A m ys) (hbase:base≤W.heap.size) (hl:xs.length+m≤1099511627776)
  (h:∀ v1 w1,kn.R e w1 base (fun _=>True) v1 (xs++ys)→Below base W w1→W.grownBy w1 v.ownBlock→(v1.ownBlock=v.ownBlock∨∃ b,v1.ownBlock=some b∧W.heap.size≤b)→wpList P ops Q rest (a.put o.dst v1) w1) :
  wpList P ops Q (o :: rest) a W:=
 Kd.R_append_row (fun n:Nat=>Value.int .u64 (n:Int)) 0 (w0:=W) base hgd s x t e (.int .u64 0) 8 ho ht hinfo rfl (by decide) v xs ys A m c (fun _=>True) hs hx (fun _ _=>trivial) HO HR (Below.refl _ _) hbase (by omega) h
end
def groupsR (l:List UInt8) (p n wd:Nat) (out:List Nat) (m:Nat):Int × Nat × List Nat:=
 if 0<wd∧l.length<m then (10,p,out)
 else if l.length<p+m*wd then (10,p,out)
 else if m=0∨(n-out.length+7)/8<m then (12,p+m*wd,out)
 else (0,p+m*wd,out++unpackB ((l.take (p+m*wd)).drop p) (8*m) wd)
set_option maxHeartbeats 6400000 in
set_option maxRecDepth 100000 in
theorem runs_groups {base:Nat} {w:World} {rp:Nat} {A:Option Addr} {c:Nat} {l:List UInt8} {p n wd:Nat} {out:List Nat} (h:RdS base w rp A c l p n wd out) (hC:∀ W,Below base w W→u8.C W A l.length l) (hp:p≤l.length) (hl:l.length≤1099511627776) (hc:l.length≤c) (hn:n≤1048576) (ho:out.length≤n) (hwd:wd≤32) (m:Nat) (hm:m<18446744073709551616) :
  Calls Tryz.prog 261 #[.pointer (some ⟨rp,0,none⟩),.int .u64 m] w (RunS base w rp A c l n wd (groupsR l p n wd out m)):=by
 have HCW:=mk0 hC
 have H0:=mk0 h
 obtain ⟨x0,x3⟩:w.cell? ⟨rp,0,none⟩=some (.slice A l.length c)∧w.cell? ⟨rp,3,none⟩=some (.int .i64 wd):=by obtain ⟨v,h1,_⟩:=h;exact ⟨h1.c0,h1.c3⟩
 have HO:=mk0 ho
 have HNN:=mk0 hn
 have HWD:=mk0 hwd
 have HLL:=mk0 hl
 obtain ⟨R,hR⟩:∃ R,R=groupsR l p n wd out m:=⟨_,rfl⟩
 rw[← hR]
 unfold groupsR at hR
 have HRR:=mk0 hR
 clear hR hC
 have hwd2:(wd:Int)≤32:=by omega
 have hll:(l.length:Int)≤1099511627776:=by omega
 have hw0:IntKind.u64.wrap (l.length:Int)=(l.length:Int):=by rw[IntKind.wrap_u64];omega
 have hw1:IntKind.u64.wrap (wd:Int)=(wd:Int):=by rw[IntKind.wrap_u64];omega
 by_cases hbig:0<wd∧l.length<m
 ·have HS:=mk0 (show R=(10,p,out) by rw[HRR.out,if_pos hbig])
  have hb1:(0:Int)<wd:=by omega
  have hb2:(l.length:Int)<m:=by omega
  go_enter Tryz.func261,Tryz.ntmps261
  go_wp2
  go_ret
  exact ⟨by rw[HS.out];rfl,by rw[HS.out];exact h,Below.refl _ _⟩
 ·have HMW:=mk0 (show m*wd<18446744073709551616∧(0<wd→m≤1099511627776) by
   rcases Nat.eq_zero_or_pos wd with h0 | h0
   ·subst h0;simp
   ·have h1:m≤l.length:=by omega
    have:=Nat.mul_le_mul h1 hwd
    omega)
  have HT:=mk0 (take_S h hp hl hc (m*wd) HMW.out.1)
  have hmw:IntKind.u64.wrap ((m:Int)*wd)=((m*wd:Nat):Int):=by rw[← Int.natCast_mul,IntKind.wrap_u64];have:=HMW.out.1;omega
  have HRR:=mk0 (show R=_ by rw[HRR.out,if_neg hbig])
  have hcase:((0:Int)<wd∧0<wd∧¬ (l.length:Int)<m∧¬ l.length<m)∨(¬ (0:Int)<wd∧¬ 0<wd):=by omega
  obtain ⟨mw,hmwe⟩:∃ mw,mw=m*wd:=⟨_,rfl⟩
  have HMWE:=mk0 hmwe
  rw[← hmwe] at HT hmw HRR
  clear hmwe h hbig
  rcases hcase with ⟨hb1,hb2,hb3,hb4⟩ | ⟨hb1,hb2⟩
  all_goals
   go_enter Tryz.func261,Tryz.ntmps261
   go_wp2_with fail
   refine HT.out.mono ?_
   rintro e w1 (⟨g1,rfl,g2,g3⟩ | ⟨g1,A',c',rfl,g2,g3,g4,g5⟩)
   ·have HS:=mk0 (show R=(10,p,out) by rw[HRR.out,if_pos g1])
    go_wp2
    go_ret
    exact ⟨by rw[HS.out];rfl,by rw[HS.out];exact g2,g3⟩
   ·have HRR:=mk0 (show R=_ by rw[HRR.out,if_neg (by omega)])
    have HC1:=mk0 (g3 w1 (HCW.out w1 g5))
    have HR1:=mk0 g4
    have HB1:=mk0 g5
    have HTL:=mk0 (show ((l.take (p+mw)).drop p).length=mw by rw[List.length_drop,List.length_take];omega)
    clear g2 g3 g4 g5 HT x0 x3
    generalize (l.take (p+mw)).drop p=t at *
    obtain ⟨v,h1,h2,h3⟩:=HR1.out
    have x2:=h1.c2
    have x4:=h1.c4
    obtain ⟨Av,cv,rfl,_,_⟩:=Kd.R_reads h2
    obtain ⟨lf,hlf⟩:∃ lf,n=out.length+lf:=⟨n-out.length,by have:=HO.out;omega⟩
    have hlf2:(n:Int)-out.length=(lf:Int):=by omega
    have hlfb:(lf:Int)≤1048576:=by have:=HNN.out;omega
    have hw3:IntKind.i64.wrap ((n:Int)-out.length)=(lf:Int):=by rw[hlf2];exact IntWalk.i64_in _ (by omega)
    have hw4:IntKind.u64.wrap (lf:Int)=(lf:Int):=by rw[IntKind.wrap_u64];omega
    have hw4':IntKind.i64.wrap (lf:Int)=(lf:Int):=IntWalk.i64_in _ (by omega)
    have HLF:=mk0 (show n-out.length=lf by omega)
    obtain ⟨gq,hgq⟩:∃ gq,gq=(lf+7)/8:=⟨_,rfl⟩
    have hgq2:((lf:Int)+7)/8=(gq:Int):=by omega
    rw[HLF.out,← hgq] at HRR
    have HGB:=mk0 (show gq≤131073 by have:=HNN.out;omega)
    clear h1 h2 hlf hgq
    go_wp2_with fail
    go_quiet (fail)
    have hb:=Drawn0.below (Drawn0.step (Drawn0.refl w1) nq)
    have HR2:=mk0 (HR1.out.below hb)
    have HB2:=mk0 (HB1.out.trans (hb.mono HR1.out.base_le))
    have HC2:=mk0 (Kd.C_below HC1.out hb)
    clear hb x2 x4 HC1 HR1 HB1 hw3
    generalize w1.drewN nq=w2 at *
    obtain ⟨v2,h1,h2,h3⟩:=HR2.out
    have x3:=h1.c3
    clear h1 h2
    by_cases hm0:m=0∨gq<m
    ·have HS:=mk0 (show R=(12,p+mw,out) by rw[HRR.out,if_pos hm0])
     rcases (show m=0∨(¬ m=0∧gq<m) by omega) with rfl | ⟨hm1,hm2⟩
     ·go_wp2
      go_ret
      exact ⟨by rw[HS.out];rfl,by rw[HS.out];exact HR2.out,HB2.out⟩
     ·have hm3:((m:Int)==0)=false:=by rw[beq_eq_false_iff_ne];omega
      have hm4:¬ (m:Int)=0:=by omega
      have hm5:(gq:Int)<m:=by omega
      go_wp2
      go_ret
      exact ⟨by rw[HS.out];rfl,by rw[HS.out];exact HR2.out,HB2.out⟩
    ·have HS:=mk0 (show R=_ by rw[HRR.out,if_neg hm0])
     have hm1:((m:Int)==0)=false:=by rw[beq_eq_false_iff_ne];omega
     have hm2:¬ (m:Int)=0:=by omega
     have hm3:¬ m=0:=by omega
     have hm4:¬ (gq:Int)<m:=by omega
     have hmi:(m:Int)≤131073:=by have:=HGB.out;omega
     have HUN:=mk0 (bits_Unpack A' c' t (8*m) wd w2 HC2.out (by rw[HTL.out];omega) (by omega) (by have:=HWD.out;omega) (by rw[HTL.out,HMWE.out,Nat.mul_assoc]))
     rw[show ((8*m:Nat):Int)=8*(m:Int) from by rw[Int.natCast_mul];rfl] at HUN
     have HUL:=mk0 (show (unpackB t (8*m) wd).length=8*m by simp[unpackB])
     generalize unpackB t (8*m) wd=un at *
     clear hm0 HRR
     go_wp2_with fail
     refine HUN.out.mono ?_
     rintro e w3 ⟨v3,rfl,hr3,hb3⟩
     obtain ⟨A3,c3,rfl,_,hC3⟩:=Kd.R_reads hr3
     have HR3:=mk0 (HR2.out.below hb3)
     have HB3:=mk0 (HB2.out.trans (hb3.mono HR2.out.base_le))
     have C3:=mk0 hC3
     clear hr3 hb3 hC3 HUN HR2 HB2 HC2 x3
     obtain ⟨v,h1,h2,h3⟩:=HR3.out
     have x4:=h1.c4
     have x4f:=h1.fr 4
     have H1:=mk0 h1
     have H2:=mk0 h2
     have H3:=mk0 h3
     obtain ⟨Aq,cq,rfl,_,_⟩:=Kd.R_reads h2
     have HAL:=mk0 (show out.length+un.length≤1099511627776 by rw[HUL.out];have:=HO.out;have:=HNN.out;omega)
     clear h1 h2 h3
     go_wp2_with (at_builtin;go_loud (refine kn_append_row (.tmp 79) (.tmp 80) 191 117 (.slice Aq out.length cq) out un A3 un.length c3 base rfl rfl Tryz.underlying191 info_u64 rfl rfl H2.out C3.out HR3.out.base_le HAL.out ?_))
     intro v5 w5 hr5 hb5 hg5 ha5
     obtain ⟨on,hon⟩:∃ on,on=out++un:=⟨_,rfl⟩
     rw[← hon] at hr5
     have HS2:=mk0 (show R=(0,p+mw,on) by rw[HS.out,hon])
     have h15:RdAt w5 rp A c l (p+mw) n wd (.slice Aq out.length cq):=(hg5.block rp H1.out.lt (fun he=>R_not_at H2.out H1.out (by decide) he.symm)).trans H1.out
     have hnr:=R_not_at hr5 h15 (by decide)
     obtain ⟨A5,c5,rfl,_,_⟩:=Kd.R_reads hr5
     have x4g:=h15.fr 4
     have x4h:=h15.c4
     have H6:=mk0 (show RdAt (w5.setCell ⟨rp,4,none⟩ (.slice A5 on.length c5)) rp A c l (p+mw) n wd (.slice A5 on.length c5) from by
      unfold RdAt at h15 ⊢
      rw[heap_at_setCell h15]
      rfl)
     have R6:=mk0 (show kn.R 117 (w5.setCell ⟨rp,4,none⟩ (.slice A5 on.length c5)) base (fun _=>True) (.slice A5 on.length c5) on from R_moved rfl hr5 (fun k hk=>Below.heap_setCell _ _ _ _ (fun he=>hnr (by rw[hk,he]))))
     have B6:=mk0 ((HB3.out.trans hb5).setCell (p:=⟨rp,4,none⟩) H3.out (.slice A5 on.length c5))
     clear x4 x4f h15 hnr hr5 hb5 hg5 ha5 hon
     go_wp2
     go_ret
     exact ⟨by rw[HS2.out];rfl,by rw[HS2.out];exact ⟨_,H6.out,R6.out,H3.out⟩,B6.out⟩
end Go.Proofs.YtpiobnfakmmpdaaGreat.Lib0
namespace Go.Proofs.YtpiobnfakmmpdaaGreat.Lib0
open Go.RowKit Go.Proofs.YtpiobnfakmmpdaaGreatW.PrintWords Go.ChangeMaps
set_option maxHeartbeats 1600000 in
set_option maxRecDepth 100000 in
theorem bytes_Equal (A B:Option Addr) (ca cb:Nat) (xs ys:List UInt8) (w:World) (ha:u8.C w A xs.length xs) (hb:u8.C w B ys.length ys) :
  Calls Tryz.prog 46 #[.slice A xs.length ca,.slice B ys.length cb] w fun e w'=>e = .returned (.bool (decide (xs=ys)))∧w=w':=by
 have h1:=u8_string (P:=Tryz.prog) (c:=ca) Tryz.underlying22 Tryz.underlying5 Tryz.underlying9 ha
 have h2:=u8_string (P:=Tryz.prog) (c:=cb) Tryz.underlying22 Tryz.underlying5 Tryz.underlying9 hb
 by_cases he:xs=ys
 ·subst he
  rw[decide_eq_true rfl]
  have hbb:((str xs).toList==(str xs).toList)=true:=by simp
  clear ha hb
  go_enter Tryz.func46,Tryz.ntmps46
  go_wp2
  go_ret
  exact ⟨rfl,rfl⟩
 ·rw[decide_eq_false he]
  have hbb:((str xs).toList==(str ys).toList)=false:=by
   rw[beq_eq_false_iff_ne]
   exact fun h=>he (str_inj (toList_inj h))
  clear ha hb he
  go_enter Tryz.func46,Tryz.ntmps46
  go_wp2
  go_ret
  exact ⟨rfl,rfl⟩
def lessS (a b:ByteArray):Bool:=Op.bytesLess a.toList b.toList
def risesS:List ByteArray→Bool
 | a :: b :: t=>lessS a b && risesS (b :: t)
 | _=>true
theorem risesS_true:∀ (d:List ByteArray),(∀ i (h:i+1<d.length),lessS d[i] d[i+1]=true)→risesS d=true
 | [],_=>rfl
 | [_],_=>rfl
 | a :: b :: t,h=>by
  have h0:=h 0 (by simp)
  simp only[List.getElem_cons_zero,List.getElem_cons_succ] at h0
  rw[risesS,h0,Bool.true_and]
  exact risesS_true (b :: t) (fun i hi=>by have:=h (i+1) (by simp at hi ⊢;omega);simpa using this)
theorem risesS_false:∀ (d:List ByteArray) (i:Nat) (h:i+1<d.length),lessS d[i] d[i+1]=false→risesS d=false
 | [],i,h,_=>by simp at h
 | [_],i,h,_=>by simp at h
 | a :: b :: t,0,h,hf=>by
  simp only[List.getElem_cons_zero,List.getElem_cons_succ] at hf
  rw[risesS,hf,Bool.false_and]
 | a :: b :: t,i+1,h,hf=>by
  have:=risesS_false (b :: t) i (by simp at h ⊢;omega) (by simpa using hf)
  rw[risesS,this,Bool.and_false]
set_option maxHeartbeats 3200000 in
set_option maxRecDepth 100000 in
theorem dict_rising (A:Option Addr) (c:Nat) (d:List ByteArray) (w:World) (h:Kd.string.C w A d.length d) :
  Calls Tryz.prog 232 #[.slice A d.length c] w fun e w'=>e = .returned (.bool (risesS d))∧Below w.heap.size w w':=by
 have HC:=mk0 h
 have hl63:=h.2.1
 clear h
 obtain ⟨r,hr⟩:∃ r,r=risesS d:=⟨_,rfl⟩
 rw[← hr]
 have HRR:=mk0 hr
 clear hr
 go_enter Tryz.func232,Tryz.ntmps232
 go_wp2_with fail
 go_loopw[3] (fun v3 wr=>∃ (k:Nat),1≤k∧(k≤d.length∨d.length=0)∧v3 = .int .i64 k∧Aside0 (∀ i (h:i+1<d.length),i+1<k→lessS d[i] d[i+1]=true)∧Aside0 (Below w.heap.size w wr)) (fun i _=>d.length-(intOf i).toNat)
 case atStart=>exact ⟨1,by omega,by omega,rfl,⟨fun i h1 h2=>by omega⟩,⟨Below.refl _ _⟩⟩
 case round=>
  obtain ⟨k,hk1,hk,rfl,HA,HB⟩:=hrel
  by_cases hlt:k<d.length
  ·obtain ⟨b,o,rfl,hx⟩:=str_open (Kd.C_below HC.out HB.out) (by omega)
   obtain ⟨j,rfl⟩:∃ j,k=j+1:=⟨k-1,by omega⟩
   have hx1:=hx j (by omega)
   have hx2:=hx (j+1) hlt
   have hlt2:((j+1:Nat):Int)<d.length:=by omega
   have hjw:IntKind.i64.wrap (((j+1:Nat):Int)-1)=(j:Int):=by rw[IntWalk.i64_in _ (by omega)];omega
   have hjw2:wrap64 (((j+1:Nat):Int)-1)=(j:Int):=by unfold wrap64;omega
   have hjw3:((j+1:Nat):Int)-1=(j:Int):=by omega
   have hjl:(j:Int)<d.length:=by omega
   have hjw4:IntKind.i64.wrap (j:Int)=(j:Int):=IntWalk.i64_in _ (by omega)
   have hlt3:(j:Int)+1<d.length:=by omega
   have hge3:(0:Int)≤(j:Int)+1:=by omega
   have hto3:((j:Int)+1).toNat=j+1:=by omega
   have hj63:(j:Int)+1<9223372036854775807:=by omega
   clear hx
   cases hv:lessS d[j] d[j+1]
   ·have HS:=mk0 (show r=false by rw[HRR.out];exact risesS_false d j hlt hv)
    unfold lessS at hv
    generalize d[j]=x at *
    generalize d[j+1]=y at *
    have hv2:(!Op.bytesLess x.toList y.toList)=true:=by rw[hv];rfl
    go_wp2_with fail
    go_quiet (fail)
    have HB2:=mk0 (HB.out.trans ((Drawn0.below (Drawn0.step (Drawn0.refl wr) nq)).mono HB.out.size))
    generalize wr.drewN nq=w2 at *
    go_wp2
    go_ret
    exact ⟨by rw[HS.out];rfl,HB2.out⟩
   ·have HA2:=mk0 (show ∀ i (h:i+1<d.length),i+1<j+1+1→lessS d[i] d[i+1]=true from fun i h1 h2=>by
     by_cases hij:i=j
     ·subst hij;exact hv
     ·exact HA.out i h1 (by omega))
    unfold lessS at hv
    obtain ⟨x,hxx⟩:∃ x,x=d[j]:=⟨_,rfl⟩
    obtain ⟨y,hyy⟩:∃ y,y=d[j+1]:=⟨_,rfl⟩
    rw[← hxx] at hv hx1
    rw[← hyy] at hv hx2
    clear hxx hyy
    have hv2:(!Op.bytesLess x.toList y.toList)=false:=by rw[hv];rfl
    go_wp2_with fail
    go_quiet (fail)
    have HB2:=mk0 (HB.out.trans ((Drawn0.below (Drawn0.step (Drawn0.refl wr) nq)).mono HB.out.size))
    generalize wr.drewN nq=w2 at *
    go_wp2
    go_roundw
    case rel=>exact ⟨j+1+1,by omega,by omega,by go_num,HA2,HB2⟩
    case measure=>simp[intOf];omega
  ·have HS:=mk0 (show r=true by rw[HRR.out];exact risesS_true d (fun i h=>HA.out i h (by omega)))
   have hlt2:¬ (k:Int)<d.length:=by omega
   go_wp2
   go_ret
   exact ⟨by rw[HS.out];rfl,HB.out⟩
end Go.Proofs.YtpiobnfakmmpdaaGreat.Lib0
namespace Go.Proofs.YtpiobnfakmmpdaaGreat.Lib0
open Go.RowKit Go.Proofs.YtpiobnfakmmpdaaGreatW.PrintWords Go.ChangeMaps
def letterB (b:UInt8):Bool:=!(decide (b.toNat<97) || decide (122<b.toNat))
def nameB (s:ByteArray):Bool:=decide (0<s.size) && decide (s.size≤12) && (byt s).all letterB
set_option maxHeartbeats 1600000 in
set_option maxRecDepth 100000 in
theorem row_Name (s:ByteArray) (w:World) :
  Calls Tryz.prog 142 #[.string s] w fun e w'=>e = .returned (.bool (nameB s))∧w=w':=by
 obtain ⟨r,hr⟩:∃ r,r=nameB s:=⟨_,rfl⟩
 rw[← hr]
 have HR:=mk0 hr
 clear hr
 by_cases h0:s.size=0
 ·have he:s.toList.isEmpty=true:=by rw[List.isEmpty_iff,ByteArray.toList_eq];exact List.eq_nil_of_length_eq_zero h0
  have HS:=mk0 (show r=false by rw[HR.out,nameB,h0];rfl)
  go_enter Tryz.func142,Tryz.ntmps142
  go_wp2
  go_ret
  exact ⟨by rw[HS.out];rfl,rfl⟩
 ·have he:s.toList.isEmpty=false:=by rw[← Bool.not_eq_true,List.isEmpty_iff,ByteArray.toList_eq];exact fun h=>h0 (by have:=congrArg List.length h;simpa using this)
  by_cases h12:12<s.size
  ·have h12i:(12:Int)<s.size:=by omega
   have HS:=mk0 (show r=false by rw[HR.out,nameB,decide_eq_false (show ¬ s.size≤12 by omega),Bool.and_false,Bool.false_and])
   go_enter Tryz.func142,Tryz.ntmps142
   go_wp2
   go_ret
   exact ⟨by rw[HS.out];rfl,rfl⟩
  ·have h12i:¬ (12:Int)<s.size:=by omega
   go_enter Tryz.func142,Tryz.ntmps142
   go_wp2_with fail
   go_loopw[13] (fun v13 wr=>∃ (k:Nat),k≤s.size∧v13 = .int .i64 k∧Aside0 (∀ i (h:i<(byt s).length),i<k→letterB (byt s)[i]=true)∧wr=w) (fun i _=>s.size-(intOf i).toNat)
   case atStart=>exact ⟨0,by omega,rfl,⟨fun i h1 h2=>by omega⟩,rfl⟩
   case round=>
    obtain ⟨k,hk,rfl,HA,rfl⟩:=hrel
    by_cases hlt:k<s.size
    ·have hlt2:(k:Int)<s.size:=by omega
     have hkb:k<(byt s).length:=by rw[byt_length];exact hlt
     have hgy:(byt s)[k]=s[k]:=by simp[byt];rfl
     have HALL:=mk0 (show letterB s[k]=false→r=false from fun hf=>by
      rw[HR.out,nameB]
      have:(byt s).all letterB=false:=by
       rw[List.all_eq_false]
       exact ⟨(byt s)[k],List.getElem_mem hkb,by rw[hgy,hf];simp⟩
      rw[this,Bool.and_false])
     have HNX:=mk0 (show letterB s[k]=true→∀ i (h:i<(byt s).length),i<k+1→letterB (byt s)[i]=true from fun ht i h1 h2=>by
      by_cases hik:i=k
      ·subst hik;rw[hgy];exact ht
      ·exact HA.out i h1 (by omega))
     clear hgy
     rcases (show s[k].toNat<97∨122<s[k].toNat∨(¬ s[k].toNat<97∧¬ 122<s[k].toNat) by omega) with h1 | h1 | ⟨h1,h2⟩
     ·have h1i:(s[k].toNat:Int)<97:=by omega
      have HS:=mk0 (HALL.out (by unfold letterB;rw[decide_eq_true h1];rfl))
      go_wp2
      go_ret
      exact ⟨by rw[HS.out];rfl,rfl⟩
     ·have h1i:(122:Int)<(s[k].toNat:Int):=by omega
      have h2i:¬ (s[k].toNat:Int)<97:=by omega
      have HS:=mk0 (HALL.out (by unfold letterB;rw[decide_eq_true h1,Bool.or_true];rfl))
      go_wp2
      go_ret
      exact ⟨by rw[HS.out];rfl,rfl⟩
     ·have h1i:¬ (s[k].toNat:Int)<97:=by omega
      have h2i:¬ (122:Int)<(s[k].toNat:Int):=by omega
      have HS:=mk0 (HNX.out (by unfold letterB;rw[decide_eq_false h1,decide_eq_false h2];rfl))
      go_wp2
      go_roundw
      case rel=>exact ⟨k+1,by omega,by go_num,HS,by first | rfl | trivial⟩
      case measure=>simp[intOf];omega
    ·obtain rfl:k=s.size:=by omega
     have HS:=mk0 (show r=true by
      rw[HR.out,nameB,decide_eq_true (show 0<s.size by omega),decide_eq_true (show s.size≤12 by omega),Bool.and_self,Bool.true_and,List.all_eq_true]
      intro x hx
      obtain ⟨i,hi,rfl⟩:=List.mem_iff_getElem.1 hx
      exact HA.out i hi (by rw[byt_length] at hi;exact hi))
     go_wp2
     go_ret
     exact ⟨by rw[HS.out];rfl,rfl⟩
end Go.Proofs.YtpiobnfakmmpdaaGreat.Lib0
namespace Go.Proofs.YtpiobnfakmmpdaaGreat.Lib0
open Go.RowKit Go.Proofs.YtpiobnfakmmpdaaGreatW.PrintWords Go.ChangeMaps
structure CellM where
 col:ByteArray
 kind:Int
 n:Int
 s:ByteArray
def CellM.cells (c:CellM):List Value:=[.string c.col,.int .i64 c.kind,.int .i64 c.n,.string c.s]
def fineB (c:CellM):Bool:=
 if c.kind=1 then nameB c.col && decide (c.s.size=0)
 else if c.kind=2 then nameB c.col && (decide (c.n=0) && decide (c.s.size≤40))
 else false
theorem empty_size (s:ByteArray):s.toList.isEmpty=decide (s.size=0):=by
 by_cases h:s.size=0
 ·rw[decide_eq_true h,List.isEmpty_iff,ByteArray.toList_eq]
  exact List.eq_nil_of_length_eq_zero h
 ·rw[decide_eq_false h,← Bool.not_eq_true,List.isEmpty_iff,ByteArray.toList_eq]
  exact fun h2=>h (by have:=congrArg List.length h2;simpa using this)
end Go.Proofs.YtpiobnfakmmpdaaGreat.Lib0
namespace Go.Proofs.YtpiobnfakmmpdaaGreat.Lib0
open Go.RowKit Go.Proofs.YtpiobnfakmmpdaaGreatW.PrintWords Go.ChangeMaps
def kc:Kd CellM:=Kd.iso (Kd.pair Kd.string (Kd.pair (Kd.int .i64) (Kd.pair (Kd.int .i64) Kd.string))) (fun c=>(c.col,c.kind,c.n,c.s))
theorem kc_M {w:World} {base:Nat} {ok:Nat→Prop} (c:CellM):kc.M w base ok c c.cells:=
 ⟨[.string c.col],[.int .i64 c.kind,.int .i64 c.n,.string c.s],rfl,rfl,[.int .i64 c.kind],[.int .i64 c.n,.string c.s],rfl,rfl,[.int .i64 c.n],[.string c.s],rfl,rfl,rfl⟩
theorem kc_K {w:World} {c:CellM} {cs:List Value} (h:kc.K w c cs):cs=c.cells:=by
 obtain ⟨a,b,rfl,rfl,a',b',rfl,rfl,a'',b'',rfl,rfl,rfl⟩:=h
 rfl
theorem kc_open {w:World} {A:Option Addr} {n:Nat} {l:List CellM} (h:kc.C w A n l) (hn:0<l.length) :
  ∃ b o,A=some ⟨b,o,none⟩∧∀ k (hk:k<l.length),w.cell? ⟨b,o+k*4,none⟩=some (.string l[k].col)∧w.cell? ⟨b,o+k*4+1,none⟩=some (.int .i64 l[k].kind)∧w.cell? ⟨b,o+k*4+2,none⟩=some (.int .i64 l[k].n)∧w.cell? ⟨b,o+k*4+3,none⟩=some (.string l[k].s):=by
 obtain ⟨ad,rfl,hc⟩:=h.2.2 (by have:=h.1;omega)
 have hx:∀ k (hk:k<l.length) i u,l[k].cells[i]?=some u→w.cell? (ad.add (k*4+i))=some u:=fun k hk i u hu=>by
  obtain ⟨c,hl,hk',hcell⟩:=hc k _ (List.getElem?_eq_getElem hk)
  have hk2:=kc_K hk'
  subst hk2
  exact hcell i u hu
 have hs:ad.spot=none:=by
  have:=hx 0 hn 0 _ rfl
  have e0:ad.add (0*4+0)=ad:=by simp[Addr.add]
  rw[e0] at this
  exact cell_plain this
 obtain ⟨b,o,sp⟩:=ad
 simp only at hs
 subst hs
 have e1:∀ k,(⟨b,o,none⟩:Addr).add k=⟨b,o+k,none⟩:=fun k=>by unfold Addr.add;split<;>simp_all
 refine ⟨b,o,rfl,fun k hk=>⟨?_,?_,?_,?_⟩⟩
 ·have:=hx k hk 0 _ rfl
  rwa [e1,Nat.add_zero] at this
 ·have:=hx k hk 1 _ rfl
  rwa [e1,← Nat.add_assoc] at this
 ·have:=hx k hk 2 _ rfl
  rwa [e1,← Nat.add_assoc] at this
 ·have:=hx k hk 3 _ rfl
  rwa [e1,← Nat.add_assoc] at this
end Go.Proofs.YtpiobnfakmmpdaaGreat.Lib0

import Derived.Shelf.SlicesG.CompactS
import Derived.Shelf.SortM.Plain
import Derived.Shelf.SortM.SortNone
import Derived.Shelf.SlicesQ.IndexFunc
import Derived.Shelf.SlicesE.IndexFunc
import Derived.Sort.OwnSorted
import Derived.Lib.SliceRun
import Derived.Test.YtpiobnfakmmpdaaGreatP08
import Derived.Test.YtpiobnfakmmpdaaGreatP10
set_option linter.unusedVariables false
set_option linter.unusedSimpArgs false
namespace Go.Proofs.YtpiobnfakmmpdaaGreat.Lib0
open Go.RowKit Go.Proofs.YtpiobnfakmmpdaaGreatW.PrintWords Go.ChangeMaps
def stepR (l:List UInt8) (e n wd:Nat) (out:List Nat) (h:Nat):Int × Nat × List Nat:=if h%2=0 then runR l e n wd out (h/2) else groupsR l e n wd out (h/2)
def decR (l:List UInt8) (n wd:Nat):Nat→Nat→List Nat→Int × Nat × List Nat
 | 0,p,out=>(0,p,out)
 | f+1,p,out=>
  if n≤out.length then (0,p,out) else
  if (getA l p).2.2≠0 then ((getA l p).2.2,p,out) else
  if (stepR l (p+(getA l p).2.1) n wd out (getA l p).1).1≠0 then stepR l (p+(getA l p).2.1) n wd out (getA l p).1
  else decR l n wd f (stepR l (p+(getA l p).2.1) n wd out (getA l p).1).2.1 (stepR l (p+(getA l p).2.1) n wd out (getA l p).1).2.2
def endR (l:List UInt8) (p n wd:Nat) (r:Int × Nat × List Nat):List Nat × Nat × Int:=
 if r.1≠0 then ([],0,r.1) else
 if (r.2.2.drop n).any (fun x=>decide (0<x)) then ([],0,12) else
 if (runsB (r.2.2.take n) wd).2≠0∨(runsB (r.2.2.take n) wd).1≠(l.take r.2.1).drop p then ([],0,12) else (r.2.2.take n,r.2.1,0)
def runsD (l:List UInt8) (p n wd:Nat):List Nat × Nat × Int:=endR l p n wd (decR l n wd (l.length+1) p [])
theorem leN_lt:∀ (l:List UInt8) (k a:Nat),U64 a→U64 (leN k a l)
 | [],_,_,h=>h
 | c :: l,k,a,h=>by
  rw[leN]
  exact leN_lt l (k+1) _ (or_lt64 h (by unfold U64;omega))
theorem valK_lt (l:List UInt8) (p:Nat):∀ (m k a:Nat),U64 a→U64 (valK l p m k a)
 | 0,_,_,h=>h
 | m+1,k,a,h=>by
  rw[valK]
  exact valK_lt l p m (k+1) _ (or_lt64 h (by unfold U64;omega))
theorem unpackB_lt {l:List UInt8} {n wd x:Nat} (h:x ∈ unpackB l n wd):U64 x:=by
 unfold unpackB at h
 obtain ⟨i,_,rfl⟩:=List.mem_map.1 h
 exact valK_lt _ _ _ _ _ (by unfold U64;omega)
theorem unpackB_len (l:List UInt8) (n wd:Nat):(unpackB l n wd).length=n:=by simp[unpackB]
def OkR (l:List UInt8) (e n:Nat) (r:Int × Nat × List Nat):Prop:=r.1=0→e≤r.2.1∧r.2.1≤l.length∧r.2.2.length≤n+7∧∀ x ∈ r.2.2,U64 x
theorem runR_ok {l:List UInt8} {e n wd h:Nat} {out:List Nat} (ho:out.length≤n) (hu:∀ x ∈ out,U64 x):OkR l e n (runR l e n wd out h):=by
 unfold runR
 split
 ·intro h;cases h
 ·split
  ·intro h;cases h
  ·intro _
   refine ⟨by simp,by simp;omega,by simp;omega,fun x hm=>?_⟩
   rcases List.mem_append.1 hm with hm | hm
   ·exact hu x hm
   ·obtain rfl:=List.eq_of_mem_replicate hm
    exact leN_lt _ _ _ (by unfold U64;omega)
theorem groupsR_ok {l:List UInt8} {e n wd h:Nat} {out:List Nat} (ho:out.length≤n) (hu:∀ x ∈ out,U64 x):OkR l e n (groupsR l e n wd out h):=by
 unfold groupsR
 split
 ·intro h;cases h
 ·split
  ·intro h;cases h
  ·split
   ·intro h;cases h
   ·intro _
    refine ⟨by simp,by simp;omega,by simp[unpackB_len];omega,fun x hm=>?_⟩
    rcases List.mem_append.1 hm with hm | hm
    ·exact hu x hm
    ·exact unpackB_lt hm
theorem stepR_ok {l:List UInt8} {e n wd h:Nat} {out:List Nat} (ho:out.length≤n) (hu:∀ x ∈ out,U64 x):OkR l e n (stepR l e n wd out h):=by
 unfold stepR
 split
 ·exact runR_ok ho hu
 ·exact groupsR_ok ho hu
theorem kn_nil (w:World):kn.C w none 0 []:=⟨rfl,by simp,fun h=>absurd h (by simp)⟩
def ToldD (T:TypeId) (w:World) (r:List Nat × Nat × Int) (e:Ending) (w':World):Prop:=
 ∃ A c,e = .returned (.tuple #[.slice A r.1.length c,.int .i64 r.2.1,.int .i64 r.2.2])∧r.1.length≤c∧kn.C w' A r.1.length r.1∧Below w.heap.size w w'
set_option maxHeartbeats 6400000 in
set_option maxRecDepth 100000 in
theorem runs_Decode (A:Option Addr) (c:Nat) (l:List UInt8) (p n wd:Nat) (w:World) (h:u8.C w A l.length l) (hc:l.length≤c) (hl:l.length≤1073741824) (hp:p≤l.length) (hn:n≤1048576) (hwd:wd≤32) :
  Calls Tryz.prog 235 #[.slice A l.length c,.int .i64 p,.int .i64 n,.int .i64 wd] w (ToldD 117 w (runsD l p n wd)):=by
 have HC:=mk0 h
 have hd1:decide ((wd:Int)<0)=false:=decide_eq_false (by omega)
 have hd2:decide (32<(wd:Int))=false:=decide_eq_false (by omega)
 have hd3:decide ((n:Int)<0)=false:=decide_eq_false (by omega)
 have hd4:decide (1048576<(n:Int))=false:=decide_eq_false (by omega)
 have hd5:decide ((p:Int)<0)=false:=decide_eq_false (by omega)
 have hd6:decide ((l.length:Int)<(p:Int))=false:=decide_eq_false (by omega)
 have hd7:decide (l.length<p)=false:=decide_eq_false (by omega)
 have hni:(n:Int)≤1048576:=by omega
 have hli:(l.length:Int)≤1073741824:=by omega
 have HCC:=mk0 hc
 obtain ⟨R,hR⟩:∃ R,R=decR l n wd (l.length+1) p []:=⟨_,rfl⟩
 have HF:Aside0 (runsD l p n wd=endR l p n wd R):=⟨by rw[hR];rfl⟩
 have HR0:=mk0 hR
 clear h hR hc
 go_enter Tryz.func235,Tryz.ntmps235
 go_wp2_with fail
 obtain ⟨rp,hrp⟩:∃ rp,rp=w.heap.size:=⟨_,rfl⟩
 have S1:Aside0 (RdS w.heap.size (w.alloc (.cells #[.slice A l.length c,.int .i64 p,.int .i64 n,.int .i64 wd,.slice none 0 0] 329)) rp A c l p n wd []):=⟨⟨.slice none 0 0,by rw[hrp];exact heap_alloc_new w _,Kd.R_nil _ _ _ _ _,by omega⟩⟩
 have B1:=mk0 (below_alloc (Below.refl w.heap.size w) (.cells #[.slice A l.length c,.int .i64 p,.int .i64 n,.int .i64 wd,.slice none 0 0] 329))
 rw[← hrp]
 clear hrp
 generalize w.alloc (.cells #[.slice A l.length c,.int .i64 p,.int .i64 n,.int .i64 wd,.slice none 0 0] 329)=w1 at *
 go_loopg[] (l.length+1) (fun f wr=>∃ (q:Nat) (out:List Nat),Aside0 (decR l n wd f q out=R)∧Aside0 (q≤l.length∧l.length-q<f∧p≤q)∧Aside0 (out.length≤n+7)∧Aside0 (∀ x ∈ out,U64 x)∧Aside0 (RdS w.heap.size wr rp A c l q n wd out)∧Aside0 (Below w.heap.size w wr))
 case atStart=>exact ⟨p,[],⟨HR0.out.symm⟩,⟨by omega⟩,⟨by simp⟩,⟨by simp⟩,S1,B1⟩
 case round=>
  obtain ⟨q,out,HE,HQ,HO,HU,HS,HB⟩:=hrel
  obtain ⟨v,h1,h2,h3⟩:=HS.out
  obtain ⟨Av,cv,rfl,hcv,hCv⟩:=Kd.R_reads h2
  have x1:=h1.c1
  have x4:=h1.c4
  have x1f:=h1.fr 1
  have H1:=mk0 h1
  have HCV:=mk0 hCv
  have HBR:=mk0 h3
  have hcvi:(out.length:Int)≤cv:=by omega
  have hoi:(out.length:Int)≤1048583:=by have:=HO.out;omega
  clear h1 h2 h3 hCv
  obtain ⟨f,rfl⟩:∃ f',gk=f'+1:=⟨gk-1,by have:=HQ.out;omega⟩
  by_cases hlt:out.length<n
  ·have hlti:(out.length:Int)<n:=by omega
   have hq:=HQ.out.1
   have HG:=mk0 (v_GetA A c l q wr (Kd.C_below HC.out HB.out) HCC.out (by omega))
   have HGL:=mk0 (getA_lt l q)
   have HE2:=mk0 (show (if (getA l q).2.2≠0 then ((getA l q).2.2,q,out) else
     if (stepR l (q+(getA l q).2.1) n wd out (getA l q).1).1≠0 then stepR l (q+(getA l q).2.1) n wd out (getA l q).1
     else decR l n wd f (stepR l (q+(getA l q).2.1) n wd out (getA l q).1).2.1 (stepR l (q+(getA l q).2.1) n wd out (getA l q).1).2.2)=R by
    have:=HE.out
    rw[decR,if_neg (by omega)] at this
    exact this)
   generalize getA l q=g at *
   obtain ⟨gv,gn,gw⟩:=g
   simp only at HE2 HGL
   by_cases hgw:gw=0
   ·subst hgw
    have HE3:=mk0 HE2.out
    rw[if_neg (by simp)] at HE3
    have HN:=mk0 (HGL.out.2 rfl)
    have HV:=mk0 HGL.out.1
    clear HE2 HGL
    unfold Told3 at HG
    simp only[if_true] at HG
    obtain ⟨qe,hqe⟩:∃ qe,qe=q+gn:=⟨_,rfl⟩
    rw[← hqe] at HE3
    rw[show (q:Int)+gn=(qe:Int) by omega] at HG
    have HQE:=mk0 (show q<qe∧qe≤l.length by have:=HN.out;omega)
    clear hqe
    go_wp2_with fail
    refine HG.out.mono ?_
    rintro e w' ⟨rfl,rfl⟩
    have S2:=mk0 (HS.out.keep (Keep1.of_set wr ⟨rp,1,none⟩ (.int .i64 (qe:Int))) (fun v h=>h.set1 qe))
    have B2:=mk0 (HB.out.setCell (p:=⟨rp,1,none⟩) HBR.out (.int .i64 (qe:Int)))
    have HST:Aside0 (∀ W,W=wr.setCell ⟨rp,1,none⟩ (.int .i64 (qe:Int))→(gv%2=0→Calls Tryz.prog 260 #[.pointer (some ⟨rp,0,none⟩),.int .u64 (gv/2:Nat)] W (RunS w.heap.size W rp A c l n wd (stepR l qe n wd out gv)))∧(¬ gv%2=0→Calls Tryz.prog 261 #[.pointer (some ⟨rp,0,none⟩),.int .u64 (gv/2:Nat)] W (RunS w.heap.size W rp A c l n wd (stepR l qe n wd out gv)))):=⟨fun W hW=>by
     subst hW
     have hC2:∀ W,Below w.heap.size (wr.setCell ⟨rp,1,none⟩ (.int .i64 (qe:Int))) W→Lib0.u8.C W A l.length l:=fun W hb=>Kd.C_below HC.out (B2.out.trans hb)
     refine ⟨fun hm=>?_,fun hm=>?_⟩
     ·unfold stepR
      rw[if_pos hm]
      exact runs_run S2.out hC2 HQE.out.2 (by omega) HCC.out hn (by omega) hwd (gv/2) (by have:=HV.out;omega)
     ·unfold stepR
      rw[if_neg hm]
      exact runs_groups S2.out hC2 HQE.out.2 (by omega) HCC.out hn (by omega) hwd (gv/2) (by have:=HV.out;omega)⟩
    have HOK:=mk0 (stepR_ok (l:=l) (e:=qe) (n:=n) (wd:=wd) (h:=gv) (out:=out) (by omega) HU.out)
    have hrem1:(gv:Int)%2=((gv%2:Nat):Int):=by omega
    have hquo1:(gv:Int)/2=((gv/2:Nat):Int):=by omega
    have hquo2:IntKind.u64.wrap ((gv/2:Nat):Int)=((gv/2:Nat):Int):=by rw[IntKind.wrap_u64];have:=HV.out;omega
    have hp2:gv%2=0∨gv%2=1:=by omega
    have hm12:¬ (1:Nat)=0:=by omega
    generalize stepR l qe n wd out gv=s at *
    generalize hgm:gv%2=gm at *
    generalize gv/2=gd at *
    have HGM:=mk0 hgm
    clear hgm HG
    rcases hp2 with rfl | rfl
    ·have HCA:=mk0 (fun W hW=>(HST.out W hW).1 rfl)
     clear HST hm12
     go_wp2_with fail
     (with_reducible refine (HCA.out _ rfl).mono ?_)
     rintro e w2 ⟨rfl,S3,B3⟩
     have HS3:=mk0 S3
     have HB3:=mk0 (B2.out.trans B3)
     clear S3 B3
     obtain ⟨sw,sq,so⟩:=s
     simp only at HE3 HS3
     by_cases hsw:sw=0
     ·subst hsw
      have HE4:=mk0 HE3.out
      rw[if_neg (by simp)] at HE4
      have HOK2:=mk0 (HOK.out rfl)
      simp only at HOK2
      go_wp2
      go_roundg f
      case measure=>omega
      case rel=>exact ⟨sq,so,HE4,⟨by have:=HOK2.out;have:=HQE.out;have:=HQ.out;omega⟩,⟨HOK2.out.2.2.1⟩,⟨HOK2.out.2.2.2⟩,HS3,HB3⟩
     ·have HF2:=mk0 (show runsD l p n wd=([],0,sw) by
       rw[HF.out,← HE3.out,if_pos hsw]
       unfold endR
       rw[if_pos hsw])
      have hgb:(sw==0)=false:=by rw[beq_eq_false_iff_ne];exact hsw
      have hgb2:(sw != 0)=true:=by rw[bne_iff_ne];exact hsw
      clear HE3 HOK
      go_wp2
      go_ret3
      rw[HF2.out]
      exact ⟨none,0,rfl,Nat.le_refl _,kn_nil _,HB3.out⟩
    ·have HCA:=mk0 (fun W hW=>(HST.out W hW).2 hm12)
     clear HST hm12
     go_wp2_with fail
     (with_reducible refine (HCA.out _ rfl).mono ?_)
     rintro e w2 ⟨rfl,S3,B3⟩
     have HS3:=mk0 S3
     have HB3:=mk0 (B2.out.trans B3)
     clear S3 B3
     obtain ⟨sw,sq,so⟩:=s
     simp only at HE3 HS3
     by_cases hsw:sw=0
     ·subst hsw
      have HE4:=mk0 HE3.out
      rw[if_neg (by simp)] at HE4
      have HOK2:=mk0 (HOK.out rfl)
      simp only at HOK2
      go_wp2
      go_roundg f
      case measure=>omega
      case rel=>exact ⟨sq,so,HE4,⟨by have:=HOK2.out;have:=HQE.out;have:=HQ.out;omega⟩,⟨HOK2.out.2.2.1⟩,⟨HOK2.out.2.2.2⟩,HS3,HB3⟩
     ·have HF2:=mk0 (show runsD l p n wd=([],0,sw) by
       rw[HF.out,← HE3.out,if_pos hsw]
       unfold endR
       rw[if_pos hsw])
      have hgb:(sw==0)=false:=by rw[beq_eq_false_iff_ne];exact hsw
      have hgb2:(sw != 0)=true:=by rw[bne_iff_ne];exact hsw
      clear HE3 HOK
      go_wp2
      go_ret3
      rw[HF2.out]
      exact ⟨none,0,rfl,Nat.le_refl _,kn_nil _,HB3.out⟩
   ·have HF2:=mk0 (show runsD l p n wd=([],0,gw) by
     rw[HF.out,← HE2.out,if_pos hgw]
     unfold endR
     rw[if_pos hgw])
    have HT:Aside0 (Told3 wr q (0,0,gw)=Told3 wr q (0,0,gw)):=⟨rfl⟩
    unfold Told3 at HG
    simp only[if_neg hgw] at HG
    have hgb:(gw==0)=false:=by rw[beq_eq_false_iff_ne];exact hgw
    have hgb2:(gw != 0)=true:=by rw[bne_iff_ne];exact hgw
    clear HE2 HE HT
    go_wp2_with fail
    refine HG.out.mono ?_
    rintro e w' ⟨rfl,rfl⟩
    go_wp2
    go_ret3
    rw[HF2.out]
    exact ⟨none,0,rfl,Nat.le_refl _,kn_nil _,HB.out⟩
  ·have hlti:¬ (out.length:Int)<n:=by omega
   have hRq:R=(0,q,out):=by have:=HE.out;rw[decR,if_pos (by omega)] at this;exact this.symm
   have HF1:=mk0 (show runsD l p n wd=endR l p n wd (0,q,out) by rw[HF.out,hRq])
   clear hRq
   obtain ⟨ld,hld⟩:∃ ld,ld=out.drop n:=⟨_,rfl⟩
   obtain ⟨lt,hlt'⟩:∃ lt,lt=out.take n:=⟨_,rfl⟩
   have hltl:lt.length=n:=by rw[hlt'];simp;omega
   obtain ⟨A9,c9,hs,hc9,hC9⟩:=sl_drop (P:=Tryz.prog) kn 191 117 .i64 Tryz.underlying191 info_u64 rfl Av out cv (n:Int) (by omega) (by omega) hcv
   rw[Int.toNat_natCast,← hld] at hs hC9
   have HC9:=mk0 (hC9 wr HCV.out)
   have HCT:=mk0 (Kd.C_take HCV.out (show n≤out.length by omega))
   rw[← hlt'] at HCT
   have HTU:=mk0 (show ∀ x ∈ lt,U64 x by rw[hlt'];exact fun x hx=>HU.out x (List.mem_of_mem_take hx))
   have HF2:Aside0 (runsD l p n wd=if ld.any (fun x=>decide (0<x)) then ([],0,12) else if (runsB lt wd).2≠0∨(runsB lt wd).1≠(l.take q).drop p then ([],0,12) else (lt,q,0)):=⟨by
    rw[HF1.out];unfold endR;rw[if_neg (by simp)];simp only[hld,hlt']⟩
   have hnl:(n:Int)≤out.length:=by omega
   have hncv:(n:Int)≤cv:=by omega
   have HLT:=mk0 hltl
   have HLD:=mk0 (show ld.length≤1048583 by rw[hld,List.length_drop];have:=HO.out;omega)
   have hldi:(ld.length:Int)≤1048583:=by have:=HLD.out;omega
   have HEN:=runs_Encode Av n lt wd wr HCT.out (by omega) HTU.out (by omega)
   rw[hltl] at HEN
   have HEN:=mk0 HEN
   clear hld hlt' hltl hC9 hc9
   obtain ⟨wv,hwv⟩:∃ wv,wv=wr:=⟨_,rfl⟩
   subst hwv
   go_wp2_with fail
   go_loopw[95] (fun v95 wz=>∃ (k:Nat),k≤ld.length∧v95 = .int .i64 k∧Aside0 (∀ i (h:i<ld.length),i<k→ld[i]=0)∧wz=wv) (fun i _=>ld.length-(intOf i).toNat)
   case atStart=>exact ⟨0,by omega,rfl,⟨fun i h1 h2=>by omega⟩,rfl⟩
   case round=>
    obtain ⟨k,hk,rfl,HA,rfl⟩:=hrel
    by_cases hkl:k<ld.length
    ·have hkli:(k:Int)<ld.length:=by omega
     obtain ⟨b9,o9,rfl,hx⟩:=sc_open HC9.out (by omega)
     have hx1:=hx k hkl
     clear hx
     by_cases hz:ld[k]=0
     ·have HA2:=mk0 (show ∀ i (h:i<ld.length),i<k+1→ld[i]=0 from fun i h1 h2=>by
       by_cases hik:i=k
       ·subst hik;exact hz
       ·exact HA.out i h1 (by omega))
      rw[hz] at hx1
      go_wp2
      go_roundw
      case rel=>exact ⟨k+1,by omega,by go_num,HA2,by first | rfl | trivial⟩
      case measure=>simp[intOf];omega
     ·have HF3:=mk0 (show runsD l p n wd=([],0,12) by
       rw[HF2.out,if_pos]
       rw[List.any_eq_true]
       exact ⟨ld[k],List.getElem_mem hkl,by simp;omega⟩)
      have hzi:(0:Int)<(ld[k]:Int):=by omega
      generalize ld[k]=x at *
      go_wp2
      go_ret3
      rw[HF3.out]
      exact ⟨none,0,rfl,Nat.le_refl _,kn_nil _,HB.out⟩
    ·obtain rfl:k=ld.length:=by omega
     have HF3:Aside0 (runsD l p n wd=if (runsB lt wd).2≠0∨(runsB lt wd).1≠(l.take q).drop p then ([],0,12) else (lt,q,0)):=⟨by
      rw[HF2.out,if_neg]
      rw[Bool.not_eq_true,List.any_eq_false]
      intro x hx
      obtain ⟨i,hi,rfl⟩:=List.mem_iff_getElem.1 hx
      rw[HA.out i hi hi]
      simp⟩
     generalize runsB lt wd=rb at *
     obtain ⟨rbl,rbw⟩:=rb
     simp only at HF3 HEN
     obtain ⟨A3,c3,hs3,hc3,hC3⟩:=sl_mid (P:=Tryz.prog) Lib0.u8 22 5 .i64 .i64 Tryz.underlying22 info_u8 rfl A l c (p:Int) (q:Int) (by omega) (by have:=HQ.out.2.2;omega) (by have:=HQ.out.1;omega) HCC.out
     rw[Int.toNat_natCast,Int.toNat_natCast] at hs3 hC3
     generalize (l.take q).drop p=ys at *
     have HC3:=mk0 hC3
     clear hC3 hc3
     go_wp2_with fail
     (with_reducible refine HEN.out.mono ?_)
     rintro e w2 ⟨v2,rfl,hr2,hb2⟩
     have B2:=mk0 (HB.out.trans (hb2.mono HB.out.size))
     have HB2:=mk0 hb2
     obtain ⟨A2,c2,rfl,_,hC2⟩:=u8_R_len hr2
     have HC2:=mk0 hC2
     have xw1:w2.cell? ⟨rp,1,none⟩=some (.int .i64 q):=by obtain ⟨v,h1,_⟩:=HS.out.below hb2;exact h1.c1
     clear hr2 hb2 hC2 x1 x4 x1f
     by_cases hrw:rbw=0
     ·subst hrw
      go_wp2_with fail
      (with_reducible refine (bytes_Equal A2 A3 c2 c3 rbl ys _ HC2.out (HC3.out w2 (Kd.C_below HC.out B2.out))).mono ?_)
      rintro e w' ⟨rfl,rfl⟩
      by_cases hry:rbl=ys
      ·have HF4:=mk0 (show runsD l p n wd=(lt,q,0) by rw[HF3.out,if_neg (by simp[hry])])
       rw[decide_eq_true hry]
       clear hry
       go_wp2_with fail
       go_quiet (fail)
       have BQ:=mk0 (Drawn0.below (Drawn0.step (Drawn0.refl w2) nq))
       generalize w2.drewN nq=w3 at *
       go_wp2
       go_ret3
       rw[HF4.out]
       exact ⟨Av,n,by rw[HLT.out];rfl,by rw[HLT.out];exact Nat.le_refl _,Kd.C_below HCT.out (HB2.out.trans (BQ.out.mono HB2.out.size)),B2.out.trans (BQ.out.mono B2.out.size)⟩
      ·have HF4:=mk0 (show runsD l p n wd=([],0,12) by rw[HF3.out,if_pos (.inr hry)])
       rw[decide_eq_false hry]
       clear hry
       go_wp2
       go_ret3
       rw[HF4.out]
       exact ⟨none,0,rfl,Nat.le_refl _,kn_nil _,B2.out⟩
     ·have HF4:=mk0 (show runsD l p n wd=([],0,12) by rw[HF3.out,if_pos (.inl hrw)])
      have hgb:(rbw==0)=false:=by rw[beq_eq_false_iff_ne];exact hrw
      have hgb2:(rbw != 0)=true:=by rw[bne_iff_ne];exact hrw
      go_wp2
      go_ret3
      rw[HF4.out]
      exact ⟨none,0,rfl,Nat.le_refl _,kn_nil _,B2.out⟩
end Go.Proofs.YtpiobnfakmmpdaaGreat.Lib0
namespace Go.Proofs.YtpiobnfakmmpdaaGreat.Lib0
open Go.RowKit Go.Proofs.YtpiobnfakmmpdaaGreatW.PrintWords Go.ChangeMaps
def CrAt (w:World) (rp:Nat) (A:Option Addr) (c:Nat) (l:List UInt8) (p:Int) (why:Int):Prop:=
 w.heap[rp]?=some (.cells #[.slice A l.length c,.int .i64 p,.int .i64 why] 275 (0,0))
section
variable {w w':World} {rp:Nat} {A:Option Addr} {c:Nat} {l:List UInt8} {p why:Int}
theorem CrAt.c0 (h:CrAt w rp A c l p why):w.cell? ⟨rp,0,none⟩=some (.slice A l.length c):=cell_of_heap h rfl
theorem CrAt.c1 (h:CrAt w rp A c l p why):w.cell? ⟨rp,1,none⟩=some (.int .i64 p):=cell_of_heap h rfl
theorem CrAt.c2 (h:CrAt w rp A c l p why):w.cell? ⟨rp,2,none⟩=some (.int .i64 why):=cell_of_heap h rfl
theorem CrAt.fr (h:CrAt w rp A c l p why) (i:Nat):w.frozen? ⟨rp,i,none⟩=false:=frozen_of_heap h
theorem CrAt.lt (h:CrAt w rp A c l p why):rp<w.heap.size:=(Array.getElem?_eq_some_iff.1 h).1
theorem CrAt.below (h:CrAt w rp A c l p why) (hb:Below w.heap.size w w'):CrAt w' rp A c l p why:=(hb.block rp h.lt).trans h
theorem CrAt.set1 (h:CrAt w rp A c l p why) (q:Int):CrAt (w.setCell ⟨rp,1,none⟩ (.int .i64 q)) rp A c l q why:=by
 unfold CrAt at *
 rw[heap_at_setCell h]
 rfl
theorem CrAt.set2 (h:CrAt w rp A c l p why) (q:Int):CrAt (w.setCell ⟨rp,2,none⟩ (.int .i64 q)) rp A c l p q:=by
 unfold CrAt at *
 rw[heap_at_setCell h]
 rfl
end
def smallR (l:List UInt8) (p why:Int):Nat × Int × Int:=if why=0 then (small (getA l p).1,endA p (getA l p),(getA l p).2.2) else (0,p,why)
def SmallS (w:World) (rp:Nat) (A:Option Addr) (c:Nat) (l:List UInt8) (r:Nat × Int × Int) (e:Ending) (w':World):Prop:=
 e = .returned (.int .i64 r.1)∧CrAt w' rp A c l r.2.1 r.2.2∧Keep1 rp w w'
theorem Keep1.drew (b:Nat) (w:World):Keep1 b w w.drew:=Keep1.of_below (below_drew _ w)
theorem Keep1.drew' {b:Nat} {w w':World} (h:Keep1 b w w'):Keep1 b w w'.drew:=h.trans (Keep1.drew b w')
theorem Keep1.set {b:Nat} {w w':World} (h:Keep1 b w w') (i:Nat) (u:Value):Keep1 b w (w'.setCell ⟨b,i,none⟩ u):=h.trans (Keep1.of_set w' ⟨b,i,none⟩ u)
theorem C_set_other {α:Type} {enc:α→Value} {h1:∀ x,(enc x).oneCell'=true} {w:World} {A:Option Addr} {n:Nat} {l:List α} (h:(Kd.scalar enc h1).C w A n l) (rp:Nat) (hne:∀ o x,w.cell? ⟨rp,o,none⟩≠some (enc x)) (i:Nat) (u:Value):(Kd.scalar enc h1).C (w.setCell ⟨rp,i,none⟩ u) A n l:=by
 refine ⟨h.1,h.2.1,fun hn=>?_⟩
 obtain ⟨b,o,rfl,hx⟩:=sc_open h (by have:=h.1;omega)
 have hb:b≠rp:=by
  rintro rfl
  exact hne _ _ (hx 0 (by have:=h.1;omega))
 refine ⟨_,rfl,fun j p hp=>?_⟩
 obtain ⟨ad,e,hc⟩:=h.2.2 hn
 cases e
 obtain ⟨cs,hl,hk,hcell⟩:=hc j p hp
 refine ⟨cs,hl,hk,fun q v hv=>?_⟩
 have:=hcell q v hv
 rw[← this]
 exact World.cell?_of_block (Below.heap_setCell _ _ _ _ (by rw[add_block];exact hb))
theorem CrAt.no {w:World} {rp:Nat} {A:Option Addr} {c:Nat} {l:List UInt8} {p why:Int} (h:CrAt w rp A c l p why) (v:Value) (h1:∀ n,v≠.int .i64 n) (h2:∀ a b d,v≠.slice a b d) (o:Nat):w.cell? ⟨rp,o,none⟩≠some v:=by
 unfold CrAt at h
 unfold World.cell?
 simp only[h]
 rcases o with _ | _ | _ | o
 ·simp;exact fun he=>h2 _ _ _ he.symm
 ·simp;exact fun he=>h1 _ he.symm
 ·simp;exact fun he=>h1 _ he.symm
 ·simp
set_option maxHeartbeats 1600000 in
set_option maxRecDepth 100000 in
theorem cr_small {base:Nat} {w:World} {rp:Nat} {A:Option Addr} {c:Nat} {l:List UInt8} {p why:Int} (h:CrAt w rp A c l p why) (hC:∀ W,Below base w W→u8.C W A l.length l) (hc:l.length≤c) (hl:l.length≤1099511627776) :
  Calls Tryz.prog 196 #[.pointer (some ⟨rp,0,none⟩)] w (SmallS w rp A c l (smallR l p why)):=by
 have HS:Aside0 (smallR l p why=if why=0 then (small (getA l p).1,endA p (getA l p),(getA l p).2.2) else (0,p,why)):=⟨rfl⟩
 have H:=mk0 h
 have HG:=mk0 (fun W hb=>v_Small A c l p W (hC W hb) hc hl)
 generalize smallR l p why=r at *
 generalize endA p (getA l p)=pe at *
 generalize getA l p=g at *
 obtain ⟨gv,gn,gw⟩:=g
 simp only at HG HS
 generalize small gv=sv at *
 have x0:=h.c0
 have x1:=h.c1
 have x2:=h.c2
 have f1:=h.fr 1
 have f2:=h.fr 2
 clear h hC
 by_cases hw:why=0
 ·subst hw
  have HS2:=mk0 (show r=(sv,pe,gw) by rw[HS.out];simp)
  clear HS
  go_enter Tryz.func196,Tryz.ntmps196
  go_wp2_with fail
  go_region_with ((go_at_call 110;refine (HG.out _ (by exact below_drew _ _)).mono ?_;rintro e w' ⟨rfl,rfl⟩))
  all_goals
   clear x0 x1 x2 f1 f2
   go_wp2
   go_ret
   exact ⟨by rw[HS2.out];rfl,by rw[HS2.out];first | exact (H.out.set1 pe).set2 gw | exact (H.out.set2 gw).set1 pe,by first | exact (((Keep1.refl rp w).set 1 _).set 2 _).drew' | exact (((Keep1.refl rp w).set 2 _).set 1 _).drew'⟩
 ·have hwb:(why==0)=false:=by rw[beq_eq_false_iff_ne];exact hw
  have HS2:=mk0 (show r=(0,p,why) by rw[HS.out,if_neg hw])
  go_enter Tryz.func196,Tryz.ntmps196
  go_wp2
  go_ret
  exact ⟨by rw[HS2.out];rfl,by rw[HS2.out];exact H.out,Keep1.refl _ _⟩
def numbersR (l:List UInt8) (p why:Int) (n wd:Nat):List Nat × Int × Int:=if why=0 then ((runsD l p.toNat n wd).1,((runsD l p.toNat n wd).2.1:Int),(runsD l p.toNat n wd).2.2) else ([],p,why)
def NumbersS (w:World) (rp:Nat) (A:Option Addr) (c:Nat) (l:List UInt8) (r:List Nat × Int × Int) (e:Ending) (w':World):Prop:=
 ∃ A' c',e = .returned (.slice A' r.1.length c')∧r.1.length≤c'∧kn.C w' A' r.1.length r.1∧CrAt w' rp A c l r.2.1 r.2.2∧Keep1 rp w w'
theorem u64_no (x:Nat):(∀ n,(Value.int .u64 (x:Int))≠.int .i64 n)∧(∀ a b d,(Value.int .u64 (x:Int))≠.slice a b d):=⟨(by intro n h;cases h),(by intro a b d h;cases h)⟩
theorem str_no (x:ByteArray):(∀ n,(Value.string x)≠.int .i64 n)∧(∀ a b d,(Value.string x)≠.slice a b d):=⟨(by intro n h;cases h),(by intro a b d h;cases h)⟩
theorem CrAt.C_set {α:Type} {enc:α→Value} {h1:∀ x,(enc x).oneCell'=true} {w:World} {A':Option Addr} {n:Nat} {l':List α} (hc:(Kd.scalar enc h1).C w A' n l') (hno:∀ x,(∀ n,enc x≠.int .i64 n)∧(∀ a b d,enc x≠.slice a b d)) {rp:Nat} {A:Option Addr} {c:Nat} {l:List UInt8} {p why:Int} (h:CrAt w rp A c l p why) (i:Nat) (u:Value):(Kd.scalar enc h1).C (w.setCell ⟨rp,i,none⟩ u) A' n l':=
 C_set_other hc rp (fun o x=>h.no _ (hno x).1 (hno x).2 o) i u
set_option maxHeartbeats 1600000 in
set_option maxRecDepth 100000 in
theorem cr_numbers {base:Nat} {w:World} {rp:Nat} {A:Option Addr} {c:Nat} {l:List UInt8} {p why:Int} (h:CrAt w rp A c l p why) (hC:∀ W,Below base w W→u8.C W A l.length l) (hc:l.length≤c) (hl:l.length≤1073741824) (hp:why=0→0≤p∧p≤l.length) (n wd:Nat) (hn:n≤1048576) (hwd:wd≤32) :
  Calls Tryz.prog 197 #[.pointer (some ⟨rp,0,none⟩),.int .i64 n,.int .i64 wd] w (NumbersS w rp A c l (numbersR l p why n wd)):=by
 have HS:Aside0 (numbersR l p why n wd=if why=0 then ((runsD l p.toNat n wd).1,((runsD l p.toNat n wd).2.1:Int),(runsD l p.toNat n wd).2.2) else ([],p,why)):=⟨rfl⟩
 have H:=mk0 h
 have x0:=h.c0
 have x1:=h.c1
 have x2:=h.c2
 have f1:=h.fr 1
 have f2:=h.fr 2
 by_cases hw:why=0
 ·subst hw
  have HD:=mk0 (runs_Decode A c l p.toNat n wd w.drew (hC _ (below_drew _ _)) hc hl (by have:=hp rfl;omega) hn hwd)
  rw[show ((p.toNat:Nat):Int)=p by have:=hp rfl;omega] at HD
  generalize numbersR l p 0 n wd=r at *
  generalize runsD l p.toNat n wd=d at *
  obtain ⟨dl,dp,dw⟩:=d
  simp only at HD HS
  have HS2:=mk0 (show r=(dl,(dp:Int),dw) by rw[HS.out];simp)
  have HD2:=mk0 (HD.out.mono (R':=fun e w1=>∃ A1 c1,e = .returned (.tuple #[.slice A1 dl.length c1,.int .i64 dp,.int .i64 dw])∧Aside0 (dl.length≤c1∧kn.C w1 A1 dl.length dl∧CrAt w1 rp A c l p 0∧Keep1 rp w w1)∧w1.frozen? ⟨rp,1,none⟩=false∧w1.frozen? ⟨rp,2,none⟩=false∧w1.cell? ⟨rp,1,none⟩=some (.int .i64 p)∧w1.cell? ⟨rp,2,none⟩=some (.int .i64 0)) (by
   rintro e w1 ⟨A1,c1,rfl,hc1,hC1,hb1⟩
   have hb:=(below_drew w.heap.size w).trans hb1
   have hh:=H.out.below hb
   exact ⟨A1,c1,rfl,⟨hc1,hC1,hh,Keep1.of_below hb⟩,hh.fr 1,hh.fr 2,hh.c1,hh.c2⟩))
  clear HS h hC hp hc hl hn hwd HD
  go_enter Tryz.func197,Tryz.ntmps197
  go_wp2_with fail
  go_region_with ((go_at_call 235;refine HD2.out.mono ?_;rintro e w1 ⟨A1,c1,rfl,H1,y1,y2,z1,z2⟩))
  all_goals
   have HH:=H1.out.2.2.1
   have KK:=H1.out.2.2.2
   have Q1:=mk0 (CrAt.C_set (CrAt.C_set H1.out.2.1 u64_no HH 1 (.int .i64 dp)) u64_no (HH.set1 dp) 2 (.int .i64 dw))
   have Q2:=mk0 (CrAt.C_set (CrAt.C_set H1.out.2.1 u64_no HH 2 (.int .i64 dw)) u64_no (HH.set2 dw) 1 (.int .i64 dp))
   have Q3:=mk0 (And.intro HH KK)
   clear x0 x1 x2 f1 f2 y1 y2 z1 z2 HH KK
   go_wp2
   go_ret
   refine ⟨A1,c1,by rw[HS2.out];rfl,by rw[HS2.out];exact H1.out.1,?_,?_,?_⟩
   ·rw[HS2.out];first | exact Q1.out | exact Q2.out
   ·rw[HS2.out];first | exact (Q3.out.1.set1 dp).set2 dw | exact (Q3.out.1.set2 dw).set1 dp
   ·first | exact ((Q3.out.2.set 1 _).set 2 _) | exact ((Q3.out.2.set 2 _).set 1 _)
 ·have hwb:(why==0)=false:=by rw[beq_eq_false_iff_ne];exact hw
  have HS2:=mk0 (show numbersR l p why n wd=([],p,why) by rw[HS.out,if_neg hw])
  clear HS h hC hp hc hl hn hwd
  generalize numbersR l p why n wd=r at *
  go_enter Tryz.func197,Tryz.ntmps197
  go_wp2
  go_ret
  exact ⟨none,0,by rw[HS2.out];rfl,by rw[HS2.out];exact Nat.le_refl _,by rw[HS2.out];exact kn_nil _,by rw[HS2.out];exact H.out,Keep1.refl _ _⟩
end Go.Proofs.YtpiobnfakmmpdaaGreat.Lib0

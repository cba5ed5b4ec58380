import Derived.Test.YtpiobnfakmmpdaaGreatP09
import Derived.Test.YtpiobnfakmmpdaaGreatP11
set_option linter.unusedVariables false
set_option linter.unusedSimpArgs false
namespace Go.Proofs.YtpiobnfakmmpdaaGreat.Lib0
open Go.RowKit Go.Proofs.YtpiobnfakmmpdaaGreatW.PrintWords Go.ChangeMaps
theorem info_int:(Tryz.prog.info? 3).map (fun i=>(i.zero,i.size,i.bytes))=some (some (.int .i64 0),1,8):=by kernel_rfl
def placesL (d l:List ByteArray):List Int:=l.map fun s=>((findS d s).1:Int)
theorem placesL_take (d l:List ByteArray) (k:Nat) (h:k<l.length):placesL d (l.take (k+1))=placesL d (l.take k)++[((findS d l[k]).1:Int)]:=by
 simp only[placesL]
 rw[List.take_succ_eq_append_getElem h,List.map_append];rfl
def RowI (T:TypeId) (w:World) (r:List Int) (e:Ending) (w':World):Prop:=
 ∃ v,e = .returned v∧(Kd.int .i64).R T w' w.heap.size (fun _=>True) v r∧Below w.heap.size w w'
set_option maxHeartbeats 3200000 in
set_option maxRecDepth 100000 in
theorem dict_places (A B:Option Addr) (c cb:Nat) (d l:List ByteArray) (w:World) (hd:Kd.string.C w A d.length d) (h:Kd.string.C w B l.length l) (hdl:d.length≤1099511627776) (hl:l.length≤1099511627776) :
  Calls Tryz.prog 160 #[.slice A d.length c,.slice B l.length cb] w (RowI 3 w (placesL d l)):=by
 have HD:=mk0 hd
 have HC:=mk0 h
 have HDL:=mk0 hdl
 have hli:(l.length:Int)≤1099511627776:=by omega
 obtain ⟨r,hr⟩:∃ r,r=placesL d l:=⟨_,rfl⟩
 rw[← hr]
 have HR:=mk0 hr
 clear hr h hd
 go_enter Tryz.func160,Tryz.ntmps160
 go_wp2_with fail
 go_loopw[5,12] (fun v5 v12 wr=>∃ (k:Nat) (out:List Int),k≤l.length∧v12 = .int .i64 k∧Aside0 (out=placesL d (l.take k))∧Aside0 (out.length=k)∧Aside0 ((Kd.int .i64).R 3 wr w.heap.size (fun _=>True) v5 out)∧Aside0 (Below w.heap.size w wr)) (fun _ i _=>l.length-(intOf i).toNat)
 case atStart=>exact ⟨0,[],by omega,rfl,⟨by simp[placesL]⟩,⟨rfl⟩,⟨Kd.R_nil _ _ _ _ _⟩,⟨Below.refl _ _⟩⟩
 case round=>
  obtain ⟨k,out,hk,rfl,HO,HOL,HRR,HB⟩:=hrel
  by_cases hlt:k<l.length
  ·have hlti:(k:Int)<l.length:=by omega
   obtain ⟨b,o,rfl,hx⟩:=str_open (Kd.C_below HC.out HB.out) (by omega)
   have hx1:=hx k hlt
   have HO2:=mk0 (show out++[((findS d l[k]).1:Int)]=placesL d (l.take (k+1)) by rw[placesL_take d l k hlt,HO.out])
   have HF:=mk0 (dict_Find A c d l[k] wr (Kd.C_below HD.out HB.out) HDL.out)
   obtain ⟨A5,c5,rfl,_,_⟩:=Kd.R_reads HRR.out
   clear hx
   generalize l[k]=y at *
   generalize findS d y=q at *
   obtain ⟨q1,q2⟩:=q
   go_wp2_with fail
   (with_reducible refine HF.out.mono ?_)
   rintro e w' ⟨rfl,rfl⟩
   go_wp2_with (at_builtin;go_loud (refine int_append (.tmp 22) (.tmp 24) 62 3 (.slice A5 out.length c5) out (q1:Int) w.heap.size rfl rfl Tryz.underlying62 info_int rfl rfl HRR.out HB.out.size ?c1 ?_))
   case c1=>have:=HOL.out;omega
   intro v2 w2 hr2 hb2 _ _
   have R2:=mk0 hr2
   have B2:=mk0 (HB.out.trans hb2)
   clear hr2 hb2
   go_wp2
   go_roundw
   case rel=>exact ⟨k+1,_,by omega,by go_num,HO2,⟨by simp;exact HOL.out⟩,R2,B2⟩
   case measure=>simp[intOf];omega
  ·have HO2:=mk0 (show out=r by rw[HO.out,HR.out,List.take_of_length_le (by omega)])
   have hlti:¬ (k:Int)<l.length:=by omega
   go_wp2
   go_ret
   exact ⟨_,rfl,by rw[← HO2.out];exact HRR.out,HB.out⟩
def BuildS (w:World) (d:List ByteArray) (at_:List Int) (e:Ending) (w':World):Prop:=
 ∃ A c B cb,e = .returned (.tuple #[.slice A d.length c,.slice B at_.length cb])∧d.length≤c∧at_.length≤cb∧Kd.string.C w' A d.length d∧(Kd.int .i64).C w' B at_.length at_∧Below w.heap.size w w'
set_option maxHeartbeats 3200000 in
set_option maxRecDepth 100000 in
theorem dict_Build (A:Option Addr) (c:Nat) (l:List ByteArray) (w:World) (h:Kd.string.C w A l.length l) (hl:l.length≤1099511627776) :
  Calls Tryz.prog 104 #[.slice A l.length c] w (BuildS w (dictL l) (placesL (dictL l) l)):=by
 have HC:=mk0 h
 have HL:=mk0 hl
 have HC1:=mk0 (clone_str A c l w h hl)
 have HDL:=mk0 (show (dictL l).length≤l.length by unfold dictL;have:=compL_len (sortL l);rw[sortL_len] at this;exact this)
 obtain ⟨d,hd⟩:∃ d,d=dictL l:=⟨_,rfl⟩
 rw[← hd] at HDL ⊢
 have HD:=mk0 hd
 clear h hl hd
 go_enter Tryz.func104,Tryz.ntmps104
 go_wp2_with fail
 (with_reducible refine HC1.out.mono ?_)
 rintro e w1 ⟨v1,rfl,hr1,hb1⟩
 have R1:=mk0 hr1
 have B1:=mk0 hb1
 clear hr1 hb1
 go_wp2_with fail
 (with_reducible refine (sort_str R1.out B1.out.size HL.out).mono ?_)
 rintro e w2 ⟨rfl,hr2,hb2⟩
 have R2:=mk0 hr2
 have B2:=mk0 (B1.out.trans hb2)
 clear hr2 hb2
 go_wp2_with fail
 (with_reducible refine (compact_str R2.out B2.out.size (by rw[sortL_len];exact HL.out)).mono ?_)
 rintro e w3 ⟨A3,c3,rfl,hc3,hC3,hb3⟩
 have B3:=mk0 (B2.out.trans hb3)
 rw[show compL (sortL l)=d from HD.out.symm] at hC3 hc3 ⊢
 have HC3:=mk0 hC3
 have HCC3:=mk0 hc3
 clear hb3 hC3 hc3
 go_wp2_with fail
 (with_reducible refine (clip_str A3 c3 d _ HCC3.out (by have:=HDL.out;have:=HL.out;omega)).mono ?_)
 rintro e w' ⟨rfl,rfl⟩
 go_wp2_with fail
 (with_reducible refine (dict_places A3 A d.length c d l _ HC3.out (Kd.C_below HC.out B3.out) (by have:=HDL.out;have:=HL.out;omega) HL.out).mono ?_)
 rintro e w4 ⟨v4,rfl,hr4,hb4⟩
 have B4:=mk0 (B3.out.trans (hb4.mono B3.out.size))
 have HC4:=mk0 (Kd.C_below HC3.out hb4)
 obtain ⟨A4,c4,rfl,hc4,hC4⟩:=Kd.R_reads hr4
 have HP:=mk0 (And.intro hc4 hC4)
 clear hr4 hb4 hc4 hC4
 generalize placesL d l=pl at *
 go_wp2
 go_ret2
 exact ⟨A3,d.length,A4,c4,rfl,Nat.le_refl _,HP.out.1,HC4.out,HP.out.2,B4.out⟩
def fitsB (d:List ByteArray):Bool:=decide (d.length≤16) && (risesS d && !(d.any fun s=>decide (40<s.size)))
theorem fits_clo (s:ByteArray) (w:World):Calls Tryz.prog 234 #[.string s] w fun e w'=>e = .returned (.bool (decide (40<s.size)))∧Below w.heap.size w w':=by
 by_cases h:40<s.size
 ·have hi:(40:Int)<s.size:=by omega
  rw[decide_eq_true h]
  go_enter Tryz.func234,Tryz.ntmps234
  go_wp2
  go_ret
  exact ⟨by first | rfl | simp[hi],Below.refl _ _⟩
 ·have hi:¬ (40:Int)<s.size:=by omega
  rw[decide_eq_false h]
  go_enter Tryz.func234,Tryz.ntmps234
  go_wp2
  go_ret
  exact ⟨by first | rfl | simp[hi],Below.refl _ _⟩
set_option maxHeartbeats 3200000 in
set_option maxRecDepth 100000 in
theorem dict_Fits (A:Option Addr) (c:Nat) (d:List ByteArray) (w:World) (h:Kd.string.C w A d.length d) (hl:d.length≤1099511627776) :
  Calls Tryz.prog 195 #[.slice A d.length c] w fun e w'=>e = .returned (.bool (fitsB d))∧Below w.heap.size w w':=by
 have HC:=mk0 h
 have HL:=mk0 hl
 have HR:=mk0 (dict_rising A c d w h)
 have HF:Aside0 (fitsB d=(decide (d.length≤16) && (risesS d && !(d.any fun s=>decide (40<s.size))))):=⟨rfl⟩
 have HH:=mk0 (fun W (hb:Below w.heap.size w W)=>has_str A c d (fun s=>decide (40<s.size)) W (Kd.C_below h hb) hl (fun W' x _ _=>fits_clo x W'))
 generalize fitsB d=r at *
 generalize risesS d=q at *
 generalize (d.any fun s=>decide (40<s.size))=z at *
 have hli:(d.length:Int)≤1099511627776:=by omega
 clear h hl
 by_cases h16:d.length≤16
 ·have hd1:decide ((d.length:Int)≤16)=true:=decide_eq_true (by omega)
  have HF2:=mk0 (show r=(q && !z) by rw[HF.out,decide_eq_true h16,Bool.true_and])
  clear HF
  cases q
  ·have HF3:=mk0 (show r=false by rw[HF2.out];rfl)
   go_enter Tryz.func195,Tryz.ntmps195
   go_wp2_with fail
   (with_reducible refine HR.out.mono ?_)
   rintro e w1 ⟨rfl,hb1⟩
   have B1:=mk0 hb1
   clear hb1
   go_wp2
   go_ret
   exact ⟨by rw[HF3.out];rfl,B1.out⟩
  ·have HF3:=mk0 (show r = !z by rw[HF2.out];rfl)
   go_enter Tryz.func195,Tryz.ntmps195
   go_wp2_with fail
   (with_reducible refine HR.out.mono ?_)
   rintro e w1 ⟨rfl,hb1⟩
   have B1:=mk0 hb1
   clear hb1
   go_wp2_with fail
   (with_reducible refine (HH.out _ B1.out).mono ?_)
   rintro e w2 ⟨rfl,hb2⟩
   have B2:=mk0 (B1.out.trans (hb2.mono B1.out.size))
   clear hb2
   go_wp2
   go_ret
   exact ⟨by rw[HF3.out];rfl,B2.out⟩
 ·have hd1:decide ((d.length:Int)≤16)=false:=decide_eq_false (by omega)
  have HF3:=mk0 (show r=false by rw[HF.out,decide_eq_false h16,Bool.false_and])
  go_enter Tryz.func195,Tryz.ntmps195
  go_wp2
  go_ret
  exact ⟨by rw[HF3.out];rfl,Below.refl _ _⟩
end Go.Proofs.YtpiobnfakmmpdaaGreat.Lib0
namespace Go.Proofs.YtpiobnfakmmpdaaGreat.Lib0
open Go.RowKit Go.Proofs.YtpiobnfakmmpdaaGreatW.PrintWords Go.ChangeMaps
theorem v_Put0 (n:Nat) (w:World) (hn:n<18446744073709551616):Calls Tryz.prog 50 #[.slice none 0 0,.int .u64 n] w (Row 5 w (putV n)):=by
 have:=v_Put none 0 [] n w (u8_nil _) (by simp) hn
 rwa [List.nil_append] at this
theorem v_Put0I (x:Int) (w:World) (h0:0≤x) (hx:x<18446744073709551616):Calls Tryz.prog 50 #[.slice none 0 0,.int .u64 x] w (Row 5 w (putV x.toNat)):=by
 have:=v_PutI none 0 [] x w (u8_nil _) (by simp) h0 hx
 rwa [List.nil_append] at this
def textB (s:ByteArray):List UInt8:=putV s.size++byt s
def textsB:List ByteArray→List UInt8
 | []=>[]
 | s :: d=>textB s++textsB d
def dictB (d:List ByteArray):List UInt8 × Int:=if fitsB d then (putV d.length++textsB d,0) else ([],12)
theorem fitsB_len {d:List ByteArray} (h:fitsB d=true):d.length≤16∧∀ s ∈ d,s.size≤40:=by
 unfold fitsB at h
 rw[Bool.and_eq_true,Bool.and_eq_true] at h
 refine ⟨of_decide_eq_true h.1,fun s hs=>?_⟩
 have:=h.2.2
 rw[Bool.not_eq_true',List.any_eq_false] at this
 have:=this s hs
 simp at this
 omega
theorem textB_len {s:ByteArray} (h:s.size≤40):(textB s).length≤50:=by
 unfold textB
 have:=putV_len10 (n:=s.size) (by omega)
 rw[List.length_append,byt_length];omega
set_option maxHeartbeats 3200000 in
set_option maxRecDepth 100000 in
theorem dict_Encode (A:Option Addr) (c:Nat) (d:List ByteArray) (w:World) (h:Kd.string.C w A d.length d) (hl:d.length≤1099511627776) :
  Calls Tryz.prog 161 #[.slice A d.length c] w (ToldB 5 w (dictB d).1 (dictB d).2):=by
 have HC:=mk0 h
 have HF:=mk0 (dict_Fits A c d w h hl)
 have HDB:Aside0 (dictB d=if fitsB d then (putV d.length++textsB d,0) else ([],12)):=⟨rfl⟩
 have HFL:=mk0 (fitsB_len (d:=d))
 generalize fitsB d=q at *
 clear h
 cases q
 ·have HD2:=mk0 (show dictB d=([],12) by rw[HDB.out];rfl)
  go_enter Tryz.func161,Tryz.ntmps161
  go_wp2_with fail
  (with_reducible refine HF.out.mono ?_)
  rintro e w1 ⟨rfl,hb1⟩
  have B1:=mk0 hb1
  clear hb1
  go_wp2
  go_ret2
  rw[HD2.out]
  exact ⟨_,rfl,Kd.R_nil _ _ _ _ _,B1.out⟩
 ·have HD2:=mk0 (show dictB d=(putV d.length++textsB d,0) by rw[HDB.out];rfl)
  have hdl:=(HFL.out rfl).1
  have HSZ:=mk0 (HFL.out rfl).2
  have hdi:(d.length:Int)≤16:=by omega
  have hdw:IntKind.u64.wrap (d.length:Int)=(d.length:Int):=by rw[IntKind.wrap_u64];omega
  clear HDB HFL
  go_enter Tryz.func161,Tryz.ntmps161
  go_wp2_with fail
  (with_reducible refine HF.out.mono ?_)
  rintro e w1 ⟨rfl,hb1⟩
  have B1:=mk0 hb1
  clear hb1
  go_wp2_with fail
  (with_reducible refine (v_Put0 d.length _ (by omega)).mono ?_)
  rintro e w2 ⟨v2,rfl,hr2,hb2⟩
  have B2:=mk0 (B1.out.trans (hb2.mono B1.out.size))
  have R2:=mk0 (Kd.R_lower hr2 B1.out.size)
  have HP2:=mk0 (putV_len10 (n:=d.length) (by omega))
  clear hr2 hb2
  go_wp2_with fail
  go_loopw[4,16] (fun v4 v16 wr=>∃ (k:Nat) (out:List UInt8),k≤d.length∧v16 = .int .i64 k∧Aside0 (out++textsB (d.drop k)=putV d.length++textsB d)∧Aside0 (out.length≤10+50*k)∧Aside0 (Lib0.u8.R 5 wr w.heap.size (fun _=>True) v4 out)∧Aside0 (Below w.heap.size w wr)) (fun _ i _=>d.length-(intOf i).toNat)
  case atStart=>exact ⟨0,_,by omega,rfl,⟨by rw[List.drop_zero]⟩,⟨by have:=HP2.out;omega⟩,R2,B2⟩
  case round=>
   obtain ⟨k,out,hk,rfl,HO,HOL,HRR,HB⟩:=hrel
   by_cases hlt:k<d.length
   ·have hlti:(k:Int)<d.length:=by omega
    obtain ⟨b,o,rfl,hx⟩:=str_open (Kd.C_below HC.out HB.out) (by omega)
    have hx1:=hx k hlt
    have HS:=mk0 (HSZ.out d[k] (List.getElem_mem hlt))
    have HO2:=mk0 (show (out++putV d[k].size++byt d[k])++textsB (d.drop (k+1))=putV d.length++textsB d by
     rw[← HO.out,List.drop_eq_getElem_cons hlt,textsB,textB];simp)
    obtain ⟨A5,c5,rfl,_,hC5⟩:=u8_R_len HRR.out
    have HC5:=mk0 hC5
    clear hx hC5
    generalize d[k]=y at *
    go_wp2_with fail
    (with_reducible refine (v_PutText A5 c5 out y _ HC5.out (by have:=HOL.out;omega) (by have:=HS.out;omega)).mono ?_)
    rintro e w3 ⟨v3,rfl,hr3,hb3⟩
    have B3:=mk0 (HB.out.trans (hb3.mono HB.out.size))
    have R3:=mk0 (Kd.R_lower hr3 HB.out.size)
    clear hr3 hb3
    go_wp2
    go_roundw
    case rel=>exact ⟨k+1,_,by omega,by go_num,HO2,⟨by have:=HOL.out;have:=textB_len HS.out;simp[textB] at this ⊢;omega⟩,R3,B3⟩
    case measure=>simp[intOf];omega
   ·have HO2:=mk0 (show out=putV d.length++textsB d by rw[← HO.out,List.drop_eq_nil_of_le (by omega),textsB,List.append_nil])
    have hlti:¬ (k:Int)<d.length:=by omega
    go_wp2
    go_ret2
    rw[HD2.out]
    exact ⟨_,rfl,by rw[← HO2.out];exact HRR.out,HB.out⟩
def decDL (l:List UInt8):Nat→Int→List ByteArray→List ByteArray × Int × Int
 | 0,a,out=>(out,a,0)
 | m+1,a,out=>if (getT l a 40).2.2≠0 then ([],0,(getT l a 40).2.2) else decDL l m (getT l a 40).2.1 (out++[str (getT l a 40).1])
def dictE (r:List ByteArray × Int × Int):List ByteArray × Int × Int:=if r.2.2≠0 then ([],0,r.2.2) else if risesS r.1 then r else ([],0,12)
def dictR (l:List UInt8) (a:Int):List ByteArray × Int × Int:=
 if (getA l a).2.2≠0 then ([],0,(getA l a).2.2) else
 if 16<small (getA l a).1 then ([],0,4) else dictE (decDL l (small (getA l a).1) (endA a (getA l a)) [])
def ToldS (w:World) (r:List ByteArray × Int × Int) (e:Ending) (w':World):Prop:=
 ∃ A c,e = .returned (.tuple #[.slice A r.1.length c,.int .i64 r.2.1,.int .i64 r.2.2])∧r.1.length≤c∧Kd.string.C w' A r.1.length r.1∧Below w.heap.size w w'
theorem str_nil (w:World):Kd.string.C w none 0 []:=⟨rfl,by simp,fun h=>absurd h (by simp)⟩
set_option maxHeartbeats 3200000 in
set_option maxRecDepth 100000 in
theorem dict_Decode (A:Option Addr) (c:Nat) (l:List UInt8) (a:Int) (w:World) (h:u8.C w A l.length l) (hc:l.length≤c) (hl:l.length≤1099511627776) :
  Calls Tryz.prog 236 #[.slice A l.length c,.int .i64 a] w (ToldS w (dictR l a)):=by
 have HC:=mk0 h
 have HG:=mk0 (v_Small A c l a w h hc hl)
 have HT:Aside0 (∀ (a:Int) W,Below w.heap.size w W→Calls Tryz.prog 111 #[.slice A l.length c,.int .i64 a,.int .i64 40] W fun e w'=>e = .returned (.tuple #[.string (str (getT l a 40).1),.int .i64 (getT l a 40).2.1,.int .i64 (getT l a 40).2.2])∧W=w'):=⟨fun (a:Int) W hb=>v_GetText A c l a 40 W (Kd.C_below h hb) hc hl (by omega)⟩
 have HD:Aside0 (dictR l a=if (getA l a).2.2≠0 then ([],0,(getA l a).2.2) else if 16<small (getA l a).1 then ([],0,4) else dictE (decDL l (small (getA l a).1) (endA a (getA l a)) [])):=⟨rfl⟩
 generalize dictR l a=r at *
 generalize endA a (getA l a)=e0 at *
 generalize getA l a=g at *
 obtain ⟨gv,gn,gw⟩:=g
 simp only at HG HD
 generalize small gv=n at *
 clear h
 by_cases hgw:gw=0
 ·subst hgw
  by_cases h16:n≤16
  ·have h16i:¬ (16:Int)<n:=by omega
   have hd16:decide ((16:Int)<(n:Int))=false:=decide_eq_false h16i
   have hd16b:decide (16<n)=false:=decide_eq_false (by omega)
   have HD2:=mk0 (show r=dictE (decDL l n e0 []) by rw[HD.out,if_neg (by simp),if_neg (by omega)])
   generalize hD0:decDL l n e0 []=D at *
   have HD0:=mk0 hD0
   clear HD hD0
   go_enter Tryz.func236,Tryz.ntmps236
   go_wp2_with fail
   (with_reducible refine HG.out.mono ?_)
   rintro e w' ⟨rfl,rfl⟩
   go_wp2_with fail
   go_loopw[8,10,27] (fun v8 v10 v27 wr=>∃ (k:Nat) (a:Int) (out:List ByteArray),k≤n∧v8 = .int .i64 a∧v27 = .int .i64 k∧Aside0 (decDL l (n-k) a out=D)∧Aside0 (out.length=k)∧Aside0 (Kd.string.R 9 wr w.heap.size (fun _=>True) v10 out)∧Aside0 (Below w.heap.size w wr)) (fun _ _ i _=>n-(intOf i).toNat)
   case atStart=>exact ⟨0,e0,[],by omega,rfl,rfl,⟨HD0.out⟩,⟨rfl⟩,⟨Kd.R_nil _ _ _ _ _⟩,⟨Below.refl _ _⟩⟩
   case round=>
    obtain ⟨k,a2,out,hk,rfl,rfl,HE,HOL,HRR,HB⟩:=hrel
    obtain ⟨A5,c5,rfl,hc5,hC5⟩:=Kd.R_reads HRR.out
    have HC5:=mk0 hC5
    have HCL:=mk0 hc5
    have hol:out.length≤16:=by have:=HOL.out;omega
    clear hc5 hC5
    by_cases hlt:k<n
    ·have hlti:(k:Int)<n:=by omega
     have HTT:=mk0 (HT.out a2 wr HB.out)
     have HE2:=mk0 (show (if (getT l a2 40).2.2≠0 then ([],0,(getT l a2 40).2.2) else decDL l (n-(k+1)) (getT l a2 40).2.1 (out++[str (getT l a2 40).1]))=D by
      have:=HE.out
      rw[show n-k=(n-(k+1))+1 by omega,decDL] at this
      exact this)
     clear HE
     generalize getT l a2 40=t at *
     obtain ⟨tl,te,tw⟩:=t
     simp only at HTT HE2
     generalize str tl=ts at *
     by_cases htw:tw=0
     ·subst htw
      have HE3:=mk0 HE2.out
      rw[if_neg (by simp)] at HE3
      clear HE2
      go_wp2_with fail
      (with_reducible refine HTT.out.mono ?_)
      rintro e w' ⟨rfl,rfl⟩
      go_wp2_with (at_builtin;go_loud (refine str_append (.tmp 39) (.tmp 41) 48 9 (.slice A5 out.length c5) out ts w.heap.size rfl rfl Tryz.underlying48 info_str rfl rfl HRR.out HB.out.size ?c1 ?_))
      case c1=>omega
      intro v2 w2 hr2 hb2 _ _
      have R2:=mk0 hr2
      have B2:=mk0 (HB.out.trans hb2)
      clear hr2 hb2
      go_wp2
      go_roundw
      case rel=>exact ⟨k+1,te,_,by omega,rfl,by go_num,HE3,⟨by simp;exact HOL.out⟩,R2,B2⟩
      case measure=>simp[intOf];omega
     ·have HR2:=mk0 (show r=([],0,tw) by rw[HD2.out,← HE2.out,if_pos htw];unfold dictE;rw[if_pos htw])
      have hgb:(tw==0)=false:=by rw[beq_eq_false_iff_ne];exact htw
      have hgb2:(tw != 0)=true:=by rw[bne_iff_ne];exact htw
      go_wp2_with fail
      (with_reducible refine HTT.out.mono ?_)
      rintro e w' ⟨rfl,rfl⟩
      go_wp2
      go_ret3
      rw[HR2.out]
      exact ⟨none,0,rfl,Nat.le_refl _,str_nil _,HB.out⟩
    ·have hlti:¬ (k:Int)<n:=by omega
     have HR2:=mk0 (show r=if risesS out then (out,a2,0) else ([],0,12) by
      rw[HD2.out,← HE.out,show n-k=0 by omega,decDL];unfold dictE;rw[if_neg (by simp)])
     have HRI:=mk0 (dict_rising A5 c5 out wr HC5.out)
     generalize risesS out=q at *
     clear HE
     cases q
     ·have HR3:=mk0 (show r=([],0,12) by rw[HR2.out];rfl)
      go_wp2_with fail
      (with_reducible refine HRI.out.mono ?_)
      rintro e w2 ⟨rfl,hb2⟩
      have B2:=mk0 (HB.out.trans (hb2.mono HB.out.size))
      clear hb2
      go_wp2
      go_ret3
      rw[HR3.out]
      exact ⟨none,0,rfl,Nat.le_refl _,str_nil _,B2.out⟩
     ·have HR3:=mk0 (show r=(out,a2,0) by rw[HR2.out];rfl)
      go_wp2_with fail
      (with_reducible refine HRI.out.mono ?_)
      rintro e w2 ⟨rfl,hb2⟩
      have B2:=mk0 (HB.out.trans (hb2.mono HB.out.size))
      have HCO:=mk0 (Kd.C_below HC5.out hb2)
      clear hb2
      go_wp2
      go_ret3
      rw[HR3.out]
      exact ⟨A5,c5,rfl,HCL.out,HCO.out,B2.out⟩
  ·have h16i:(16:Int)<n:=by omega
   have HD2:=mk0 (show r=([],0,4) by rw[HD.out,if_neg (by simp),if_pos (by omega)])
   go_enter Tryz.func236,Tryz.ntmps236
   go_wp2_with fail
   (with_reducible refine HG.out.mono ?_)
   rintro e w' ⟨rfl,rfl⟩
   go_wp2
   go_ret3
   rw[HD2.out]
   exact ⟨none,0,rfl,Nat.le_refl _,str_nil _,Below.refl _ _⟩
 ·have HD2:=mk0 (show r=([],0,gw) by rw[HD.out,if_pos hgw])
  have hgb:(gw==0)=false:=by rw[beq_eq_false_iff_ne];exact hgw
  have hgb2:(gw != 0)=true:=by rw[bne_iff_ne];exact hgw
  go_enter Tryz.func236,Tryz.ntmps236
  go_wp2_with fail
  (with_reducible refine HG.out.mono ?_)
  rintro e w' ⟨rfl,rfl⟩
  go_wp2
  go_ret3
  rw[HD2.out]
  exact ⟨none,0,rfl,Nat.le_refl _,str_nil _,Below.refl _ _⟩
end Go.Proofs.YtpiobnfakmmpdaaGreat.Lib0

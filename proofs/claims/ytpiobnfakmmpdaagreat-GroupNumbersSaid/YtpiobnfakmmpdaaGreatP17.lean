import Derived.Test.YtpiobnfakmmpdaaGreatP16
set_option linter.unusedVariables false
set_option linter.unusedSimpArgs false
namespace Go.Proofs.YtpiobnfakmmpdaaGreat.Lib0
open Go.RowKit Go.Proofs.YtpiobnfakmmpdaaGreatW.PrintWords Go.ChangeMaps
theorem info_cell:(Tryz.prog.info? 37).map (fun i=>(i.zero,i.size,i.bytes))=some (some (.agg #[.string ⟨#[]⟩,.int .i64 0,.int .i64 0,.string ⟨#[]⟩]),4,48):=by kernel_rfl
section
variable {P:Program} {ops:Array Oper} {rest:List Oper} {o:Oper} {a:Act} {Q:Exit→Act→World→Prop}
theorem kc_append {W:World} (s x:Operand) (t e:TypeId) (v:Value) (xs:List CellM) (p:CellM) (base:Nat)
  (hgd:o.guard=none) (ho:o.op = .call { callee:=.builtin .append,args:=#[s,x],argTypes:=#[t,t] })
  (ht:P.underlying t=some (.slice e)) (hinfo:(P.info? e).map (fun i=>(i.zero,i.size,i.bytes))=some (some (.agg #[.string ⟨#[]⟩,.int .i64 0,.int .i64 0,.string ⟨#[]⟩]),4,48))
  (hs:a.eval s=v) (hx:a.eval x = .slice (some ⟨W.heap.size,0,none⟩) 1 1)
  (HO:kc.R e W base (fun _=>True) v xs) (hbase:base≤W.heap.size) (hl:xs.length≤1099511627776)
  (h:∀ v1 w1,kc.R e w1 base (fun _=>True) v1 (xs++[p])→Below base W w1→W.grownBy w1 v.ownBlock→(v1.ownBlock=v.ownBlock∨∃ b,v1.ownBlock=some b∧W.heap.size≤b)→wpList P ops Q rest (a.put o.dst v1) w1) :
  wpList P ops Q (o :: rest) a (W.alloc (.cells #[.string p.col,.int .i64 p.kind,.int .i64 p.n,.string p.s] e)):=
 Kd.R_append kc (w0:=W) base hgd s x t e (.agg #[.string ⟨#[]⟩,.int .i64 0,.int .i64 0,.string ⟨#[]⟩]) 48 ho ht hinfo rfl (by decide) (by decide) v xs p p.cells (fun _=>True) (fun _=>False) hs hx (kc_M p) (fun _ hk=>hk.elim) (fun _ _=>trivial)
  HO (Below.refl _ _) hbase (by omega) h
end
theorem R_set_rp {α:Type} {d:Kd α} {e:Nat} {w w':World} {base:Nat} {v:Value} {l':List α} (hE:d.E = []) (h:d.R e w base (fun _=>True) v l') {rp:Nat} {A:Option Addr} {c:Nat} {l:List UInt8} {p why:Int} (hc:CrAt w rp A c l p why) (ht:275≠e) (hk:Keep1 rp w w'):d.R e w' base (fun _=>True) v l':=
 R_moved hE h (fun k hv=>hk.block k (R_lt h k hv) (fun he=>by subst he;exact R_not_at h hc ht hv))
theorem smallR_ok {l:List UInt8} {p why:Int} (h:(smallR l p why).2.2=0):0≤(smallR l p why).2.1∧(smallR l p why).2.1≤l.length:=by
 unfold smallR at *
 split at h
 ·rename_i h1;rw[if_pos h1];exact endA_ok h
 ·exact absurd h (by assumption)
theorem numbersR_ok {l:List UInt8} {p why:Int} {n wd:Nat} (hp:why=0→0≤p∧p≤l.length) (h:(numbersR l p why n wd).2.2=0):(numbersR l p why n wd).1.length=n∧(widthL (numbersR l p why n wd).1≤wd)∧0≤(numbersR l p why n wd).2.1∧(numbersR l p why n wd).2.1≤l.length:=by
 unfold numbersR at *
 split at h
 ·rename_i h1
  rw[if_pos h1]
  have h2:=hp h1
  have:=runsD_ok (l:=l) (p:=p.toNat) (n:=n) (wd:=wd) (by omega) h
  exact ⟨this.1,this.2.1,by simp only;omega,by simp only;omega⟩
 ·exact absurd h (by assumption)
theorem zerosN_take (l:List Nat):∀ (k:Nat) (h:k<l.length),zerosN (l.take (k+1))=zerosN (l.take k)+(1-l[k]):=by
 induction l with
 | nil=>intro k h;simp at h
 | cons x t ih=>
  intro k h
  rcases k with _ | k
  ·simp[zerosN]
  ·have:=ih k (by simpa using h)
   simp only[List.take_succ_cons,zerosN,List.getElem_cons_succ]
   omega
theorem zerosN_le (l:List Nat):zerosN l≤l.length:=by
 induction l with
 | nil=>simp[zerosN]
 | cons x t ih=>simp only[zerosN,List.length_cons];omega
theorem zerosN_drop (l:List Nat) (k:Nat) (h:k<l.length):zerosN (l.drop k)=(1-l[k])+zerosN (l.drop (k+1)):=by
 rw[List.drop_eq_getElem_cons h,zerosN]
theorem kc_nil (w:World):kc.C w none 0 []:=⟨rfl,by simp,fun h=>absurd h (by simp)⟩
theorem int_nil (w:World):(Kd.int .i64).C w none 0 []:=⟨rfl,by simp,fun h=>absurd h (by simp)⟩
def ReadS (w:World) (r:ReadM) (e:Ending) (w':World):Prop:=
 ∃ A1 c1 A2 c2 A3 c3,e = .returned (.tuple #[.slice A1 r.cells.length c1,.slice A2 r.d.length c2,.slice A3 r.ats.length c3,.bool r.ok])∧r.cells.length≤c1∧r.d.length≤c2∧r.ats.length≤c3∧kc.C w' A1 r.cells.length r.cells∧Kd.string.C w' A2 r.d.length r.d∧(Kd.int .i64).C w' A3 r.ats.length r.ats∧Below w.heap.size w w'∧∀ ad,A1=some ad→w.heap.size≤ad.block
theorem readS_bad {w w':World} {v:Value} (hv:v = .tuple #[.slice none 0 0,.slice none 0 0,.slice none 0 0,.bool false]) (h:Below w.heap.size w w'):ReadS w ⟨[],[],[],false⟩ (.returned v) w':=by
 subst hv
 exact ⟨none,0,none,0,none,0,rfl,Nat.le_refl _,Nat.le_refl _,Nat.le_refl _,kc_nil _,str_nil _,int_nil _,h,fun ad e=>by cases e⟩
theorem R_at {α:Type} {d:Kd α} {e:Nat} {w:World} {base n c:Nat} {ok:Nat→Prop} {A:Option Addr} {l:List α} (h:d.R e w base ok (.slice A n c) l):∀ ad,A=some ad→base≤ad.block:=by
 rintro ad rfl
 exact R_base h ad.block (by simp[Value.ownBlock])
theorem codedR_ok {l:List UInt8} {p:Int} {n:Nat} (h:(codedR l p n).2.2.2=0):(codedR l p n).2.1.length=n:=by
 unfold codedR at *
 exact (numbersR_ok (fun h0=>(dictR_ok h0).1) h).1
theorem CrAt.grown {α:Type} {d:Kd α} {e:Nat} {w w':World} {base:Nat} {ok:Nat→Prop} {v:Value} {l':List α} {rp:Nat} {A:Option Addr} {c:Nat} {l:List UInt8} {p why:Int} (h:CrAt w rp A c l p why) (hr:d.R e w base ok v l') (ht:275≠e) (hg:w.grownBy w' v.ownBlock):CrAt w' rp A c l p why:=
 (hg.block rp h.lt (fun he=>R_not_at hr h ht he.symm)).trans h
theorem Keep1.more {b:Nat} {w W w':World} (h:Keep1 b w W) (hb:Below w.heap.size W w'):Keep1 b w w':=
 ⟨hb.os.trans h.os,hb.tape.trans h.tape,hb.output.trans h.output,Nat.le_trans h.size hb.size,fun k hk hn=>(hb.block k hk).trans (h.block k hk hn)⟩
theorem R_off {α:Type} {d:Kd α} {e:Nat} {w:World} {base:Nat} {ok:Nat→Prop} {v:Value} {l:List α} (hE:d.E = []) (h:d.R e w base ok v l) (q:Addr) (hn:∀ k,v.ownBlock=some k→k<q.block) (u:Value):d.R e (w.setCell q u) base ok v l:=
 R_moved hE h (fun k hv=>Below.heap_setCell _ _ _ _ (by have:=hn k hv;omega))
set_option maxHeartbeats 6400000 in
set_option maxRecDepth 100000 in
theorem chunk_read (A:Option Addr) (c:Nat) (l:List UInt8) (w:World) (h:u8.C w A l.length l) (hc:l.length≤c) (hl:l.length≤1073741824) :
  Calls Tryz.prog 164 #[.slice A l.length c] w (ReadS w (readR l)):=by
 have HC:=mk0 h
 have HCC:=mk0 hc
 have hli:(l.length:Int)≤1073741824:=by omega
 have HL:=mk0 hl
 have HR:Aside0 (readR l=if (smallR l 0 0).1<1∨3<(smallR l 0 0).1∨65536<(smallR l (smallR l 0 0).2.1 (smallR l 0 0).2.2).1 then ⟨[],[],[],false⟩
  else readQ l (smallR l 0 0).1 (numbersR l (smallR l (smallR l 0 0).2.1 (smallR l 0 0).2.2).2.1 (smallR l (smallR l 0 0).2.1 (smallR l 0 0).2.2).2.2 (smallR l (smallR l 0 0).2.1 (smallR l 0 0).2.2).1 1)):=⟨rfl⟩
 generalize readR l=r at *
 have hb0:=below_alloc (Below.refl w.heap.size w) (.cells #[.slice A l.length c,.int .i64 0,.int .i64 0] 275)
 have hcr:CrAt (w.alloc (.cells #[.slice A l.length c,.int .i64 0,.int .i64 0] 275)) w.heap.size A c l 0 0:=heap_alloc_new w _
 clear h hc hl
 go_enter Tryz.func164,Tryz.ntmps164
 go_wp2_with fail
 obtain ⟨rp,hrp⟩:∃ rp,rp=w.heap.size:=⟨_,rfl⟩
 generalize w.alloc (.cells #[.slice A l.length c,.int .i64 0,.int .i64 0] 275)=w1 at *
 rw[← hrp] at hcr ⊢
 have B1:=mk0 hb0
 have HRP:=mk0 hrp
 have C1:=mk0 hcr
 have HCW:=mk0 (fun (w':World) (hk:Keep1 rp w1 w')=>show ∀ W,Below w.heap.size w' W→u8.C W A l.length l from fun W hb=>Kd.C_below HC.out (B1.out.trans ((hk.below (by omega) B1.out.size).trans hb)))
 clear hb0 hcr hrp
 have HS1:=mk0 (cr_small C1.out (HCW.out _ (Keep1.refl _ _)) HCC.out (by have:=HL.out;omega))
 have HSO:=mk0 (fun p y=>smallR_ok (l:=l) (p:=p) (why:=y))
 generalize smallR l 0 0=s1 at *
 obtain ⟨form,p1,y1⟩:=s1
 simp only at HR HS1
 have HSO2:=mk0 (HSO.out p1 y1)
 (with_reducible refine HS1.out.mono ?_)
 rintro e w2 ⟨rfl,c2,k2⟩
 have C2:=mk0 c2
 have K2:=mk0 k2
 clear c2 k2
 simp only at C2
 have HS2:=mk0 (cr_small C2.out (HCW.out _ K2.out) HCC.out (by have:=HL.out;omega))
 clear HSO
 generalize smallR l p1 y1=s2 at *
 obtain ⟨rows,p2,y2⟩:=s2
 simp only at HR HS2 HSO2
 go_wp2_with fail
 (with_reducible refine HS2.out.mono ?_)
 rintro e w3 ⟨rfl,c3,k3⟩
 have C3:=mk0 c3
 have K3:=mk0 (K2.out.trans k3)
 simp only at C3
 clear c3 k3
 have B3:=mk0 (B1.out.trans (K3.out.below (show w.heap.size≤rp by have:=HRP.out;omega) B1.out.size))
 by_cases hbad:form<1∨3<form∨65536<rows
 ·have HF:=mk0 (show r=⟨[],[],[],false⟩ by rw[HR.out,if_pos hbad])
  rcases hbad with h1 | h1 | h1
  ·have hd1:decide ((form:Int)<1)=true:=decide_eq_true (by omega)
   have hd1b:form=0:=by omega
   subst hd1b
   go_wp2
   refine bodyPost_ret (v:=.tuple #[.slice none 0 0,.slice none 0 0,.slice none 0 0,.bool false]) (by simp[results,Tryz.results164,go_sem]) rfl ?_
   rw[HF.out]
   exact readS_bad rfl B3.out
  ·have hd1:decide ((form:Int)<1)=false:=decide_eq_false (by omega)
   have hd2:decide ((3:Int)<(form:Int))=true:=decide_eq_true (by omega)
   have hd2b:decide (3<form)=true:=decide_eq_true h1
   have hd3b:¬ form=0:=by omega
   have hd3c:(1:Int)≤form:=by omega
   go_wp2
   refine bodyPost_ret (v:=.tuple #[.slice none 0 0,.slice none 0 0,.slice none 0 0,.bool false]) (by simp[results,Tryz.results164,go_sem]) rfl ?_
   rw[HF.out]
   exact readS_bad rfl B3.out
  ·by_cases h2:form<1
   ·have hd1b:form=0:=by omega
    subst hd1b
    go_wp2
    refine bodyPost_ret (v:=.tuple #[.slice none 0 0,.slice none 0 0,.slice none 0 0,.bool false]) (by simp[results,Tryz.results164,go_sem]) rfl ?_
    rw[HF.out]
    exact readS_bad rfl B3.out
   ·have hd1:decide ((form:Int)<1)=false:=decide_eq_false (by omega)
    have hd3b:¬ form=0:=by omega
    have hd3c:(1:Int)≤form:=by omega
    by_cases h3:3<form
    ·have hd2:decide ((3:Int)<(form:Int))=true:=decide_eq_true (by omega)
     have hd2b:decide (3<form)=true:=decide_eq_true h3
     go_wp2
     refine bodyPost_ret (v:=.tuple #[.slice none 0 0,.slice none 0 0,.slice none 0 0,.bool false]) (by simp[results,Tryz.results164,go_sem]) rfl ?_
     rw[HF.out]
     exact readS_bad rfl B3.out
    ·have hd2:decide ((3:Int)<(form:Int))=false:=decide_eq_false (by omega)
     have hd2b:decide (3<form)=false:=decide_eq_false h3
     have hd4:decide ((65536:Int)<(rows:Int))=true:=decide_eq_true (by omega)
     have hd4b:decide (65536<rows)=true:=decide_eq_true h1
     go_wp2
     refine bodyPost_ret (v:=.tuple #[.slice none 0 0,.slice none 0 0,.slice none 0 0,.bool false]) (by simp[results,Tryz.results164,go_sem]) rfl ?_
     rw[HF.out]
     exact readS_bad rfl B3.out
 ·have hf1:1≤form:=by omega
  have hf3:form≤3:=by omega
  have hrows:rows≤65536:=by omega
  have HR2:=mk0 (show r=readQ l form (numbersR l p2 y2 rows 1) by rw[HR.out,if_neg hbad])
  have hd1:decide ((form:Int)<1)=false:=decide_eq_false (by omega)
  have hd3b:¬ form=0:=by omega
  have hd3c:(1:Int)≤form:=by omega
  have hd2:decide ((3:Int)<(form:Int))=false:=decide_eq_false (by omega)
  have hd2b:decide (3<form)=false:=decide_eq_false (by omega)
  have hd4:decide ((65536:Int)<(rows:Int))=false:=decide_eq_false (by omega)
  have hd4b:decide (65536<rows)=false:=decide_eq_false (by omega)
  have HSO3:=mk0 HSO2.out
  have HNM:Aside0 (Calls Tryz.prog 197 #[.pointer (some ⟨rp,0,none⟩),.int .i64 rows,.int .i64 1] w3 (NumbersS w3 rp A c l (numbersR l p2 y2 rows 1))):=⟨cr_numbers C3.out (HCW.out _ K3.out) HCC.out HL.out HSO3.out rows 1 (by omega) (by omega)⟩
  have HNO:=mk0 (numbersR_ok (l:=l) (p:=p2) (why:=y2) (n:=rows) (wd:=1) HSO3.out)
  clear HR hbad
  generalize numbersR l p2 y2 rows 1=q at *
  obtain ⟨nl,p3,y3⟩:=q
  simp only at HNM HNO
  go_wp2_with fail
  (with_reducible refine HNM.out.mono ?_)
  rintro e w4 ⟨A4,c4,rfl,hc4,hC4,cr4,k4⟩
  have C4:=mk0 cr4
  have N4:=mk0 (And.intro hc4 hC4)
  have K4:=mk0 (K3.out.trans k4)
  simp only at C4 N4
  clear hc4 hC4 cr4 k4
  have B4:=mk0 (B1.out.trans (K4.out.below (show w.heap.size≤rp by have:=HRP.out;omega) B1.out.size))
  have x2:=C4.out.c2
  by_cases hy3:y3=0
  ·subst hy3
   have HNO2:=mk0 (HNO.out rfl)
   have HR3:=mk0 (show r=readE l form nl (codesOf l form p3 (zerosN nl)) by rw[HR2.out];unfold readQ;rw[if_neg (by simp)])
   have HN2:=mk0 (show ∀ x ∈ nl,x<2 from fun x hx=>by have:=width_mem HNO2.out.2.1 hx;omega)
   have HNL:=mk0 HNO2.out.1
   have hnl:nl.length≤65536:=by have:=HNL.out;omega
   have hnli:(nl.length:Int)≤65536:=by omega
   obtain ⟨wv,hwv⟩:∃ wv,wv=w4:=⟨_,rfl⟩
   subst hwv
   go_wp2_with fail
   go_loopw[10,45] (fun v10 v45 wr=>∃ (k:Nat),k≤nl.length∧v10 = .int .i64 (zerosN (nl.take k))∧v45 = .int .i64 k∧wr=wv) (fun _ i _=>nl.length-(intOf i).toNat)
   case atStart=>exact ⟨0,by omega,by simp[zerosN],rfl,rfl⟩
   case round=>
    obtain ⟨k,hk,rfl,rfl,rfl⟩:=hrel
    by_cases hkl:k<nl.length
    ·have hkli:(k:Int)<nl.length:=by omega
     obtain ⟨b,o,rfl,hx⟩:=sc_open N4.out.2 (by omega)
     have hx1:=hx k hkl
     have HZ:=mk0 (zerosN_take nl k hkl)
     have hz:=zerosN_le (nl.take k)
     rw[List.length_take] at hz
     have hx2:=HN2.out nl[k] (List.getElem_mem hkl)
     clear hx
     generalize zerosN (nl.take k)=zk at *
     have hzi:(zk:Int)≤65536:=by omega
     generalize nl[k]=y at *
     have hy:y=0∨y=1:=by omega
     rcases hy with rfl | rfl
     ·go_wp2
      go_roundw
      case rel=>exact ⟨k+1,by omega,by rw[HZ.out];go_num,by go_num,by first | rfl | trivial⟩
      case measure=>simp[intOf];omega
     ·go_wp2
      go_roundw
      case rel=>exact ⟨k+1,by omega,by rw[HZ.out];simp,by go_num,by first | rfl | trivial⟩
      case measure=>simp[intOf];omega
    ·have HZ:=mk0 (show zerosN (nl.take k)=zerosN nl by rw[List.take_of_length_le (by omega)])
     rw[HZ.out]
     have hz:=zerosN_le nl
     have hkli:¬ (k:Int)<nl.length:=by omega
     generalize hzn:zerosN nl=left at *
     have HZN:=mk0 hzn
     clear hzn HZ
     by_cases hf2:form=2
     ·skip
      have hf2b:((form:Int)==2)=true:=by rw[beq_iff_eq];omega
      have hf2c:((form:Int) != 2)=false:=by rw[bne_eq_false_iff_eq];omega
      have HCE:=mk0 (show codesOf l form p3 left=codedR l p3 left by unfold codesOf;rw[if_pos (by omega)])
      have HCO:=mk0 (cr_coded (base:=w.heap.size) C4.out (HCW.out _ K4.out) (by have:=HRP.out;omega) HCC.out HL.out left (by omega))
      have HOK:=mk0 (codedR_ok (l:=l) (p:=p3) (n:=left))
      have HDL:=mk0 (dictR_len l p3)
      have HR4:=mk0 (show r=readE l form nl (codedR l p3 left) by rw[HR3.out,HCE.out])
      rw[show (dictR l p3).1=(codedR l p3 left).1 from rfl] at HDL
      clear HCE
      generalize codedR l p3 left=cdr at *
      obtain ⟨d,cdl,p5,y5⟩:=cdr
      simp only at HCO HOK HDL
      have HOKC:=mk0 HOK.out
      obtain ⟨wv,hwv⟩:∃ wv,wv=wr:=⟨_,rfl⟩
      subst hwv
      go_wp2_with fail
      (with_reducible refine HCO.out.mono ?_)
      rintro e w5 ⟨Ad,cd,Ac,cc,rfl,hd5,hc5,hD5,hC5,cr5,k5⟩
      simp only at hd5 hc5 hD5 hC5 cr5
      have HDQ:=mk0 (And.intro hd5 hD5)
      have HCQ:=mk0 (And.intro hc5 hC5)
      have C5:=mk0 cr5
      have K5:=mk0 (K4.out.trans k5)
      have N5:=mk0 (And.intro N4.out.1 (C4.out.C_keep N4.out.2 u64_no k5))
      have B5:=mk0 (B1.out.trans (K5.out.below (show w.heap.size≤rp by have:=HRP.out;omega) B1.out.size))
      clear hd5 hc5 hD5 hC5 cr5 k5 x2
      have HF0:=mk0 (show readF l d form nl cdl p5 y5 [] []=readF l d form nl cdl p5 y5 [] [] from rfl)
      obtain ⟨F,hF⟩:∃ F,F=readF l d form nl cdl p5 y5 [] []:=⟨_,rfl⟩
      have HFE:=mk0 hF
      have HR5:Aside0 (r=⟨F.1,d,F.2.1,decide (F.2.2.2=0) && decide (F.2.2.1=l.length)⟩):=⟨by rw[HR4.out,hF];rfl⟩
      clear hF HF0
      go_wp2_with fail
      go_loopw[2,4,13,65] (fun v2 v4 v13 v65 wz=>∃ (k:Nat) (cs:List CellM) (ats:List Int) (codes:List Nat) (p why:Int) (A13:Option Addr) (c13:Nat),k≤nl.length∧v13 = .slice A13 codes.length c13∧v65 = .int .i64 k∧Aside0 (readF l d form (nl.drop k) codes p why cs ats=F∧codes.length≤c13∧kn.C w5 A13 codes.length codes)∧Aside0 (cs.length=k∧ats.length=k)∧Aside0 (kc.R 37 wz w5.heap.size (fun _=>True) v2 cs)∧Aside0 ((Kd.int .i64).R 3 wz w5.heap.size (fun _=>True) v4 ats)∧Aside0 (CrAt wz rp A c l p why)∧Aside0 (Keep1 rp w5 wz)∧Aside0 (why=0→codes.length=zerosN (nl.drop k))) (fun _ _ _ i _=>nl.length-(intOf i).toNat)
      case atStart=>exact ⟨0,[],[],cdl,p5,y5,Ac,cc,by omega,rfl,rfl,⟨by rw[List.drop_zero];exact HFE.out.symm,HCQ.out.1,HCQ.out.2⟩,⟨rfl,rfl⟩,⟨Kd.R_nil _ _ _ _ _⟩,⟨Kd.R_nil _ _ _ _ _⟩,C5,⟨Keep1.refl _ _⟩,⟨by rw[List.drop_zero,HZN.out];exact HOKC.out⟩⟩
      case round=>
       obtain ⟨k,cs,ats,codes,p,why,A13,c13,hk,rfl,rfl,HE,HLN,HRC,HRA,HCR,HKP,HINV⟩:=hrel
       by_cases hkl:k<nl.length
       ·have hkli:(k:Int)<nl.length:=by omega
        obtain ⟨b,o,rfl,hx⟩:=sc_open (C5.out.C_keep N5.out.2 u64_no HKP.out) (by omega)
        have hx1:=hx k hkl
        have hx2:=HN2.out nl[k] (List.getElem_mem hkl)
        have HE2:=mk0 (show readF l d form (nl[k] :: nl.drop (k+1)) codes p why cs ats=F by rw[← List.drop_eq_getElem_cons hkl];exact HE.out.1)
        have HZD:=mk0 (zerosN_drop nl k hkl)
        clear hx
        generalize nl[k]=x at *
        obtain ⟨A2,cc2,rfl,_,_⟩:=Kd.R_reads HRC.out
        have BO:=below_alloc (Below.refl wr.heap.size wr) (.cells #[.string ⟨#[]⟩,.int .i64 0,.int .i64 0,.string ⟨#[]⟩] 37)
        have RCa:=mk0 (Kd.R_below HRC.out BO)
        have RAa:=mk0 (Kd.R_below HRA.out BO)
        have CRa:=mk0 (HCR.out.below BO)
        have KPa:=mk0 (HKP.out.trans (Keep1.of_below BO))
        have HSZa:=mk0 KPa.out.size
        have y2:=CRa.out.c2
        clear BO
        by_cases hx1':x=1∨why≠0
        ·have HE3:=mk0 (show readF l d form (nl.drop (k+1)) codes p why (cs++[⟨⟨#[]⟩,0,0,⟨#[]⟩⟩]) (ats++[-1])=F by
          have:=HE2.out
          rw[readF,show stepC l d form x codes p why=(noCell,-1,codes,p,why) by unfold stepC;rw[if_pos hx1']] at this
          exact this)
         have HIN2:=mk0 (show why=0→codes.length=zerosN (nl.drop (k+1)) by intro h0;have h1:=HINV.out h0;have h2:=HZD.out;rcases hx1' with h | h;(subst h;omega);exact absurd h0 h)
         by_cases hxx:x=1
         ·subst hxx
          go_wp2_with (at_builtin;go_loud (refine kc_append (W:=wr.alloc (.cells #[.string ⟨#[]⟩,.int .i64 0,.int .i64 0,.string ⟨#[]⟩] 37)) (.tmp 108) (.tmp 110) 33 37 (.slice A2 cs.length cc2) cs ⟨⟨#[]⟩,0,0,⟨#[]⟩⟩ w5.heap.size rfl rfl Tryz.underlying33 info_cell rfl (by show Value.slice (some ⟨_,0,none⟩) 1 1=_;simp) RCa.out HSZa.out (by have:=HLN.out;omega) ?_))
          intro v8 w8 hr8 hb8 hg8 _
          have RC8:=mk0 hr8
          have RA8:=mk0 (R_grown_ne rfl RAa.out RCa.out (by decide) hg8)
          have CR8:=mk0 (CRa.out.grown RCa.out (by decide) hg8)
          have KP8:=mk0 (KPa.out.more hb8)
          have SZ8:=mk0 KP8.out.size
          clear hr8 hb8 hg8
          obtain ⟨A9,cc9,rfl,_,_⟩:=Kd.R_reads RA8.out
          go_wp2_with (at_builtin;go_loud (refine int_append (.tmp 112) (.tmp 114) 62 3 (.slice A9 ats.length cc9) ats (-1) w5.heap.size rfl rfl Tryz.underlying62 info_int rfl rfl RA8.out SZ8.out (by have:=HLN.out;omega) ?_))
          intro v9 w9 hr9 hb9 hg9 _
          have RA9:=mk0 hr9
          have RC9:=mk0 (R_grown_ne rfl RC8.out RA8.out (by decide) hg9)
          have CR9:=mk0 (CR8.out.grown RA8.out (by decide) hg9)
          have KP9:=mk0 (KP8.out.more hb9)
          clear hr9 hb9 hg9
          go_wp2
          go_roundw
          case rel=>exact ⟨k+1,cs++[⟨⟨#[]⟩,0,0,⟨#[]⟩⟩],ats++[(-1)],codes,p,why,A13,c13,by omega,rfl,by go_num,⟨HE3.out,HE.out.2⟩,⟨by simp;have:=HLN.out;omega⟩,RC9,RA9,CR9,KP9,HIN2⟩
          case measure=>simp[intOf];omega
         ·have hx0:x=0:=by omega
          have hww:why≠0:=by rcases hx1' with h | h;exact absurd h hxx;exact h
          subst hx0
          have hwb:(why==0)=false:=by rw[beq_eq_false_iff_ne];exact hww
          have hwb2:(why != 0)=true:=by rw[bne_iff_ne];exact hww
          clear hx1' hxx hww
          go_wp2_with (at_builtin;go_loud (refine kc_append (W:=wr.alloc (.cells #[.string ⟨#[]⟩,.int .i64 0,.int .i64 0,.string ⟨#[]⟩] 37)) (.tmp 108) (.tmp 110) 33 37 (.slice A2 cs.length cc2) cs ⟨⟨#[]⟩,0,0,⟨#[]⟩⟩ w5.heap.size rfl rfl Tryz.underlying33 info_cell rfl (by show Value.slice (some ⟨_,0,none⟩) 1 1=_;simp) RCa.out HSZa.out (by have:=HLN.out;omega) ?_))
          intro v8 w8 hr8 hb8 hg8 _
          have RC8:=mk0 hr8
          have RA8:=mk0 (R_grown_ne rfl RAa.out RCa.out (by decide) hg8)
          have CR8:=mk0 (CRa.out.grown RCa.out (by decide) hg8)
          have KP8:=mk0 (KPa.out.more hb8)
          have SZ8:=mk0 KP8.out.size
          clear hr8 hb8 hg8
          obtain ⟨A9,cc9,rfl,_,_⟩:=Kd.R_reads RA8.out
          go_wp2_with (at_builtin;go_loud (refine int_append (.tmp 112) (.tmp 114) 62 3 (.slice A9 ats.length cc9) ats (-1) w5.heap.size rfl rfl Tryz.underlying62 info_int rfl rfl RA8.out SZ8.out (by have:=HLN.out;omega) ?_))
          intro v9 w9 hr9 hb9 hg9 _
          have RA9:=mk0 hr9
          have RC9:=mk0 (R_grown_ne rfl RC8.out RA8.out (by decide) hg9)
          have CR9:=mk0 (CR8.out.grown RA8.out (by decide) hg9)
          have KP9:=mk0 (KP8.out.more hb9)
          clear hr9 hb9 hg9
          go_wp2
          go_roundw
          case rel=>exact ⟨k+1,cs++[⟨⟨#[]⟩,0,0,⟨#[]⟩⟩],ats++[(-1)],codes,p,why,A13,c13,by omega,rfl,by go_num,⟨HE3.out,HE.out.2⟩,⟨by simp;have:=HLN.out;omega⟩,RC9,RA9,CR9,KP9,HIN2⟩
          case measure=>simp[intOf];omega
        ·obtain rfl:why=0:=by by_cases h:why=0;exact h;exact absurd (.inr h) hx1'
         obtain rfl:x=0:=by by_cases h:x=1;exact absurd (.inl h) hx1';omega
         clear hx1'
         have HCL:=mk0 (show codes.length=zerosN (nl.drop (k+1))+1 by have h1:=HINV.out rfl;have h2:=HZD.out;omega)
         have hcl:0<codes.length:=by have:=HCL.out;omega
         have hcli:(0:Int)<codes.length:=by omega
         have HCW':=mk0 (C5.out.C_keep HE.out.2.2 u64_no KPa.out)
         obtain ⟨b13,o13,rfl,hx13⟩:=sc_open HCW'.out hcl
         have hy13:=hx13 0 hcl
         rw[Nat.add_zero] at hy13
         have HG0:=mk0 (show codes.getD 0 0=codes[0] by simp[List.getD,List.getElem?_eq_getElem hcl])
         obtain ⟨As,cs',hs,hcs',hCs⟩:=sl_drop (P:=Tryz.prog) kn 191 117 .i64 Tryz.underlying191 info_u64 rfl (some ⟨b13,o13,none⟩) codes c13 (1:Int) (by omega) (by omega) HE.out.2.1
         rw[show (1:Int).toNat=1 from rfl] at hs hcs' hCs
         have HCS:=mk0 (And.intro hcs' (hCs w5 HE.out.2.2))
         have hc13:(codes.length:Int)≤c13:=by have:=HE.out.2.1;omega
         have hvb:=heap_alloc_new wr (.cells #[.string ⟨#[]⟩,.int .i64 0,.int .i64 0,.string ⟨#[]⟩] 37)
         have hvr:rp≠wr.heap.size:=by have:=HCR.out.lt;omega
         have hdl16:(d.length:Int)≤65536:=by have:=HDL.out;omega
         have hdw:IntKind.u64.wrap (d.length:Int)=(d.length:Int):=by rw[IntKind.wrap_u64];omega
         clear hx13 hcs' hCs
         by_cases hyd:d.length≤codes[0]
         ·have HE3:=mk0 (show readF l d form (nl.drop (k+1)) codes p 12 (cs++[⟨⟨#[]⟩,0,0,⟨#[]⟩⟩]) (ats++[-1])=F by
           have:=HE2.out
           rw[readF,show stepC l d form 0 codes p 0=(noCell,-1,codes,p,12) by unfold stepC;rw[if_neg (by simp),if_neg (by omega),if_pos (by rw[HG0.out];exact hyd)]] at this
           exact this)
          have hydi:(d.length:Int)≤codes[0]:=by omega
          have HIN2:=mk0 (show (12:Int)=0→codes.length=zerosN (nl.drop (k+1)) by intro h;cases h)
          have y2f:=CRa.out.fr 2
          have k6:=(Keep1.refl rp (wr.alloc (.cells #[.string ⟨#[]⟩,.int .i64 0,.int .i64 0,.string ⟨#[]⟩] 37))).set 2 (.int .i64 12)
          have hv6:=(Below.heap_setCell (wr.alloc (.cells #[.string ⟨#[]⟩,.int .i64 0,.int .i64 0,.string ⟨#[]⟩] 37)) ⟨rp,2,none⟩ (.int .i64 12) wr.heap.size hvr.symm).trans hvb
          have c0:=cell_of_heap (i:=0) hv6 rfl
          have c1:=cell_of_heap (i:=1) hv6 rfl
          have c2:=cell_of_heap (i:=2) hv6 rfl
          have c3:=cell_of_heap (i:=3) hv6 rfl
          have RC6:=R_set_rp rfl RCa.out CRa.out (by decide) k6
          have RA6:=R_set_rp rfl RAa.out CRa.out (by decide) k6
          have CR6:=CRa.out.set2 12
          have KP6:=KPa.out.trans k6
          clear RCa RAa CRa KPa HSZa k6 hvb hv6 hvr
          have RCa:=mk0 RC6
          have RAa:=mk0 RA6
          have CRa:=mk0 CR6
          have KPa:=mk0 KP6
          have HSZa:=mk0 KPa.out.size
          clear RC6 RA6 CR6 KP6
          generalize codes[0]=y at *
          go_wp2_with (at_builtin;go_loud (refine kc_append (W:=(wr.alloc (.cells #[.string ⟨#[]⟩,.int .i64 0,.int .i64 0,.string ⟨#[]⟩] 37)).setCell ⟨rp,2,none⟩ (.int .i64 12)) (.tmp 108) (.tmp 110) 33 37 (.slice A2 cs.length cc2) cs ⟨⟨#[]⟩,0,0,⟨#[]⟩⟩ w5.heap.size rfl rfl Tryz.underlying33 info_cell rfl (by show Value.slice (some ⟨_,0,none⟩) 1 1=_;simp) RCa.out HSZa.out (by have:=HLN.out;omega) ?_))
          intro v8 w8 hr8 hb8 hg8 _
          have RC8:=mk0 hr8
          have RA8:=mk0 (R_grown_ne rfl RAa.out RCa.out (by decide) hg8)
          have CR8:=mk0 (CRa.out.grown RCa.out (by decide) hg8)
          have KP8:=mk0 (KPa.out.more hb8)
          have SZ8:=mk0 KP8.out.size
          clear hr8 hb8 hg8
          obtain ⟨A9,cc9,rfl,_,_⟩:=Kd.R_reads RA8.out
          go_wp2_with (at_builtin;go_loud (refine int_append (.tmp 112) (.tmp 114) 62 3 (.slice A9 ats.length cc9) ats (-1) w5.heap.size rfl rfl Tryz.underlying62 info_int rfl rfl RA8.out SZ8.out (by have:=HLN.out;omega) ?_))
          intro v9 w9 hr9 hb9 hg9 _
          have RA9:=mk0 hr9
          have RC9:=mk0 (R_grown_ne rfl RC8.out RA8.out (by decide) hg9)
          have CR9:=mk0 (CR8.out.grown RA8.out (by decide) hg9)
          have KP9:=mk0 (KP8.out.more hb9)
          clear hr9 hb9 hg9
          go_wp2
          go_roundw
          case rel=>exact ⟨k+1,cs++[⟨⟨#[]⟩,0,0,⟨#[]⟩⟩],ats++[(-1)],codes,p,12,_,c13,by omega,rfl,by go_num,⟨HE3.out,HE.out.2⟩,⟨by simp;have:=HLN.out;omega⟩,RC9,RA9,CR9,KP9,HIN2⟩
          case measure=>simp[intOf];omega
         ·have hydi:¬ (d.length:Int)≤codes[0]:=by omega
          have hyl:codes[0]<d.length:=by omega
          have hyli:(codes[0]:Int)<d.length:=by omega
          obtain ⟨bd,od,hAd,hxd⟩:=str_open (C5.out.C_keep HDQ.out.2 str_no KPa.out) (by omega)
          have hy9:=hxd codes[0] hyl
          rw[hAd]
          have HAD:=mk0 hAd
          have HE3:=mk0 (show readF l d form (nl.drop (k+1)) (codes.drop 1) p 0 (cs++[⟨⟨#[]⟩,2,0,d[codes[0]]⟩]) (ats++[(codes[0]:Int)])=F by
           have:=HE2.out
           rw[readF,show stepC l d form 0 codes p 0=(⟨⟨#[]⟩,2,0,d[codes[0]]⟩,(codes[0]:Int),codes.drop 1,p,0) by
            unfold stepC;rw[if_neg (by simp),if_neg (by omega),if_neg (by rw[HG0.out];exact hyd),HG0.out]
            simp[List.getD,List.getElem?_eq_getElem hyl];rfl] at this
           exact this)
          have HIN2:=mk0 (show (0:Int)=0→(codes.drop 1).length=zerosN (nl.drop (k+1)) by intro _;rw[List.length_drop];have:=HCL.out;omega)
          generalize d[codes[0]]=dy at *
          generalize codes[0]=y at *
          have hyw:IntKind.i64.wrap (y:Int)=(y:Int):=IntWalk.i64_in _ (by omega)
          have BO':=below_alloc (Below.refl wr.heap.size wr) (.cells #[.string ⟨#[]⟩,.int .i64 2,.int .i64 0,.string dy] 37)
          clear RCa RAa CRa KPa HSZa hvb hvr hyd hxd hAd
          have RCa:=mk0 (Kd.R_below HRC.out BO')
          have RAa:=mk0 (Kd.R_below HRA.out BO')
          have CRa:=mk0 (HCR.out.below BO')
          have KPa:=mk0 (HKP.out.trans (Keep1.of_below BO'))
          have HSZa:=mk0 KPa.out.size
          clear BO'
          obtain ⟨cd1,hcd1⟩:∃ cd1,cd1=codes.drop 1:=⟨_,rfl⟩
          rw[← hcd1] at hs HCS HE3 HIN2
          clear hcd1
          go_wp2_with (at_builtin;go_loud (refine kc_append (W:=wr.alloc (.cells #[.string ⟨#[]⟩,.int .i64 2,.int .i64 0,.string dy] 37)) (.tmp 108) (.tmp 110) 33 37 (.slice A2 cs.length cc2) cs ⟨⟨#[]⟩,2,0,dy⟩ w5.heap.size rfl rfl Tryz.underlying33 info_cell rfl (by show Value.slice (some ⟨_,0,none⟩) 1 1=_;simp) RCa.out HSZa.out (by have:=HLN.out;omega) ?_))
          intro v8 w8 hr8 hb8 hg8 _
          have RC8:=mk0 hr8
          have RA8:=mk0 (R_grown_ne rfl RAa.out RCa.out (by decide) hg8)
          have CR8:=mk0 (CRa.out.grown RCa.out (by decide) hg8)
          have KP8:=mk0 (KPa.out.more hb8)
          have SZ8:=mk0 KP8.out.size
          clear hr8 hb8 hg8
          obtain ⟨A9,cc9,rfl,_,_⟩:=Kd.R_reads RA8.out
          go_wp2_with (at_builtin;go_loud (refine int_append (.tmp 112) (.tmp 114) 62 3 (.slice A9 ats.length cc9) ats (y:Int) w5.heap.size rfl rfl Tryz.underlying62 info_int rfl rfl RA8.out SZ8.out (by have:=HLN.out;omega) ?_))
          intro v9 w9 hr9 hb9 hg9 _
          have RA9:=mk0 hr9
          have RC9:=mk0 (R_grown_ne rfl RC8.out RA8.out (by decide) hg9)
          have CR9:=mk0 (CR8.out.grown RA8.out (by decide) hg9)
          have KP9:=mk0 (KP8.out.more hb9)
          clear hr9 hb9 hg9
          go_wp2
          go_roundw
          case rel=>exact ⟨k+1,cs++[⟨⟨#[]⟩,2,0,dy⟩],ats++[(y:Int)],cd1,p,0,As,cs',by omega,rfl,by go_num,⟨HE3.out,HCS.out.1,HCS.out.2⟩,⟨by simp;have:=HLN.out;omega⟩,RC9,RA9,CR9,KP9,⟨fun _=>HIN2.out trivial⟩⟩
          case measure=>simp[intOf];omega
       ·have HE3:=mk0 (show (cs,ats,p,why)=F by rw[← HE.out.1,List.drop_eq_nil_of_le (by omega),readF])
        have hkli:¬ (k:Int)<nl.length:=by omega
        have HR6:=mk0 (show r=⟨cs,d,ats,decide (why=0) && decide (p=l.length)⟩ by rw[HR5.out,← HE3.out])
        have z1:=HCR.out.c1
        have z2:=HCR.out.c2
        obtain ⟨A2,cc2,rfl,hq2,hQ2⟩:=Kd.R_reads HRC.out
        obtain ⟨A9,cc9,rfl,hq9,hQ9⟩:=Kd.R_reads HRA.out
        have Q2:=mk0 (And.intro hq2 hQ2)
        have Q9:=mk0 (And.intro hq9 hQ9)
        clear hq2 hQ2 hq9 hQ9
        by_cases hwz:why=0
        ·subst hwz
         by_cases hpl:p=l.length
         ·subst hpl
          have HR7:=mk0 (show r=⟨cs,d,ats,true⟩ by rw[HR6.out];simp)
          go_wp2_with fail
          go_quiet (fail)
          have BQ:=Drawn0.below (Drawn0.step (Drawn0.refl wr) nq)
          have QF1:=mk0 (Kd.C_below Q2.out.2 BQ)
          have QF2:=mk0 (Kd.C_below Q9.out.2 BQ)
          have QF3:=mk0 (show Below w.heap.size w (wr.drewN nq) from B5.out.trans ((HKP.out.below (show w.heap.size≤rp by have:=HRP.out;omega) B5.out.size).trans (BQ.mono (Nat.le_trans B5.out.size HKP.out.size))))
          have QF4:=mk0 (HKP.out.trans (Keep1.of_below (b:=rp) BQ))
          clear BQ z1 z2
          generalize wr.drewN nq=wf at *
          go_wp2
          refine bodyPost_ret (v:=.tuple #[.slice A2 cs.length cc2,.slice Ad d.length cd,.slice A9 ats.length cc9,.bool true]) (by simp[results,Tryz.results164,go_sem]) rfl ?_
          rw[HR7.out]
          exact ⟨A2,cc2,Ad,cd,A9,cc9,rfl,Q2.out.1,HDQ.out.1,Q9.out.1,QF1.out,C5.out.C_keep HDQ.out.2 str_no QF4.out,QF2.out,QF3.out,fun ad he=>Nat.le_trans B5.out.size (R_at HRC.out ad he)⟩
         ·have hpb:(p==(l.length:Int))=false:=by rw[beq_eq_false_iff_ne];exact hpl
          have HR7:=mk0 (show r=⟨cs,d,ats,false⟩ by rw[HR6.out,decide_eq_false hpl,Bool.and_false])
          clear hpl
          go_wp2_with fail
          go_quiet (fail)
          have BQ:=Drawn0.below (Drawn0.step (Drawn0.refl wr) nq)
          have QF1:=mk0 (Kd.C_below Q2.out.2 BQ)
          have QF2:=mk0 (Kd.C_below Q9.out.2 BQ)
          have QF3:=mk0 (show Below w.heap.size w (wr.drewN nq) from B5.out.trans ((HKP.out.below (show w.heap.size≤rp by have:=HRP.out;omega) B5.out.size).trans (BQ.mono (Nat.le_trans B5.out.size HKP.out.size))))
          have QF4:=mk0 (HKP.out.trans (Keep1.of_below (b:=rp) BQ))
          clear BQ z1 z2
          generalize wr.drewN nq=wf at *
          go_wp2
          refine bodyPost_ret (v:=.tuple #[.slice A2 cs.length cc2,.slice Ad d.length cd,.slice A9 ats.length cc9,.bool false]) (by simp[results,Tryz.results164,go_sem]) rfl ?_
          rw[HR7.out]
          exact ⟨A2,cc2,Ad,cd,A9,cc9,rfl,Q2.out.1,HDQ.out.1,Q9.out.1,QF1.out,C5.out.C_keep HDQ.out.2 str_no QF4.out,QF2.out,QF3.out,fun ad he=>Nat.le_trans B5.out.size (R_at HRC.out ad he)⟩
        ·have hwb:(why==0)=false:=by rw[beq_eq_false_iff_ne];exact hwz
         have HR7:=mk0 (show r=⟨cs,d,ats,false⟩ by rw[HR6.out,decide_eq_false hwz,Bool.false_and])
         clear hwz
         go_wp2_with fail
         go_quiet (fail)
         have BQ:=Drawn0.below (Drawn0.step (Drawn0.refl wr) nq)
         have QF1:=mk0 (Kd.C_below Q2.out.2 BQ)
         have QF2:=mk0 (Kd.C_below Q9.out.2 BQ)
         have QF3:=mk0 (show Below w.heap.size w (wr.drewN nq) from B5.out.trans ((HKP.out.below (show w.heap.size≤rp by have:=HRP.out;omega) B5.out.size).trans (BQ.mono (Nat.le_trans B5.out.size HKP.out.size))))
         have QF4:=mk0 (HKP.out.trans (Keep1.of_below (b:=rp) BQ))
         clear BQ z1 z2
         generalize wr.drewN nq=wf at *
         go_wp2
         refine bodyPost_ret (v:=.tuple #[.slice A2 cs.length cc2,.slice Ad d.length cd,.slice A9 ats.length cc9,.bool false]) (by simp[results,Tryz.results164,go_sem]) rfl ?_
         rw[HR7.out]
         exact ⟨A2,cc2,Ad,cd,A9,cc9,rfl,Q2.out.1,HDQ.out.1,Q9.out.1,QF1.out,C5.out.C_keep HDQ.out.2 str_no QF4.out,QF2.out,QF3.out,fun ad he=>Nat.le_trans B5.out.size (R_at HRC.out ad he)⟩
     ·have hf2b:((form:Int)==2)=false:=by rw[beq_eq_false_iff_ne];omega
      have hf2c:((form:Int) != 2)=true:=by rw[bne_iff_ne];omega
      have HR4:=mk0 (show r=readE l form nl ([],[],p3,0) by rw[HR3.out];unfold codesOf;rw[if_neg (by omega)])
      obtain ⟨w5,hw5⟩:∃ w5,w5=wr:=⟨_,rfl⟩
      subst hw5
      have C5:=C4
      have N5:=N4
      have K5:=K4
      have B5:=B4
      have HF0:=mk0 (show readF l [] form nl [] p3 0 [] []=readF l [] form nl [] p3 0 [] [] from rfl)
      obtain ⟨F,hF⟩:∃ F,F=readF l [] form nl [] p3 0 [] []:=⟨_,rfl⟩
      have HFE:=mk0 hF
      have HR5:Aside0 (r=⟨F.1,[],F.2.1,decide (F.2.2.2=0) && decide (F.2.2.1=l.length)⟩):=⟨by rw[HR4.out,hF];rfl⟩
      clear hF HF0
      go_wp2_with fail
      go_loopw[2,4,13,65] (fun v2 v4 v13 v65 wz=>∃ (k:Nat) (cs:List CellM) (ats:List Int) (codes:List Nat) (p why:Int) (A13:Option Addr) (c13:Nat),k≤nl.length∧v13 = .slice A13 codes.length c13∧v65 = .int .i64 k∧Aside0 (readF l [] form (nl.drop k) codes p why cs ats=F∧codes.length≤c13∧kn.C w5 A13 codes.length codes)∧Aside0 (cs.length=k∧ats.length=k)∧Aside0 (kc.R 37 wz w5.heap.size (fun _=>True) v2 cs)∧Aside0 ((Kd.int .i64).R 3 wz w5.heap.size (fun _=>True) v4 ats)∧Aside0 (CrAt wz rp A c l p why)∧Aside0 (Keep1 rp w5 wz)∧Aside0 (True)) (fun _ _ _ i _=>nl.length-(intOf i).toNat)
      case atStart=>exact ⟨0,[],[],[],p3,0,none,0,by omega,rfl,rfl,⟨by rw[List.drop_zero];exact HFE.out.symm,Nat.le_refl _,kn_nil _⟩,⟨rfl,rfl⟩,⟨Kd.R_nil _ _ _ _ _⟩,⟨Kd.R_nil _ _ _ _ _⟩,C5,⟨Keep1.refl _ _⟩,⟨trivial⟩⟩
      case round=>
       obtain ⟨k,cs,ats,codes,p,why,A13,c13,hk,rfl,rfl,HE,HLN,HRC,HRA,HCR,HKP,HINV⟩:=hrel
       by_cases hkl:k<nl.length
       ·have hkli:(k:Int)<nl.length:=by omega
        obtain ⟨b,o,rfl,hx⟩:=sc_open (C5.out.C_keep N5.out.2 u64_no HKP.out) (by omega)
        have hx1:=hx k hkl
        have hx2:=HN2.out nl[k] (List.getElem_mem hkl)
        have HE2:=mk0 (show readF l [] form (nl[k] :: nl.drop (k+1)) codes p why cs ats=F by rw[← List.drop_eq_getElem_cons hkl];exact HE.out.1)
        have HZD:=mk0 (zerosN_drop nl k hkl)
        clear hx
        generalize nl[k]=x at *
        obtain ⟨A2,cc2,rfl,_,_⟩:=Kd.R_reads HRC.out
        have BO:=below_alloc (Below.refl wr.heap.size wr) (.cells #[.string ⟨#[]⟩,.int .i64 0,.int .i64 0,.string ⟨#[]⟩] 37)
        have RCa:=mk0 (Kd.R_below HRC.out BO)
        have RAa:=mk0 (Kd.R_below HRA.out BO)
        have CRa:=mk0 (HCR.out.below BO)
        have KPa:=mk0 (HKP.out.trans (Keep1.of_below BO))
        have HSZa:=mk0 KPa.out.size
        have y2:=CRa.out.c2
        clear BO
        by_cases hx1':x=1∨why≠0
        ·have HE3:=mk0 (show readF l [] form (nl.drop (k+1)) codes p why (cs++[⟨⟨#[]⟩,0,0,⟨#[]⟩⟩]) (ats++[-1])=F by
          have:=HE2.out
          rw[readF,show stepC l [] form x codes p why=(noCell,-1,codes,p,why) by unfold stepC;rw[if_pos hx1']] at this
          exact this)
         have HIN2:=mk0 (show True by trivial)
         by_cases hxx:x=1
         ·subst hxx
          go_wp2_with (at_builtin;go_loud (refine kc_append (W:=wr.alloc (.cells #[.string ⟨#[]⟩,.int .i64 0,.int .i64 0,.string ⟨#[]⟩] 37)) (.tmp 108) (.tmp 110) 33 37 (.slice A2 cs.length cc2) cs ⟨⟨#[]⟩,0,0,⟨#[]⟩⟩ w5.heap.size rfl rfl Tryz.underlying33 info_cell rfl (by show Value.slice (some ⟨_,0,none⟩) 1 1=_;simp) RCa.out HSZa.out (by have:=HLN.out;omega) ?_))
          intro v8 w8 hr8 hb8 hg8 _
          have RC8:=mk0 hr8
          have RA8:=mk0 (R_grown_ne rfl RAa.out RCa.out (by decide) hg8)
          have CR8:=mk0 (CRa.out.grown RCa.out (by decide) hg8)
          have KP8:=mk0 (KPa.out.more hb8)
          have SZ8:=mk0 KP8.out.size
          clear hr8 hb8 hg8
          obtain ⟨A9,cc9,rfl,_,_⟩:=Kd.R_reads RA8.out
          go_wp2_with (at_builtin;go_loud (refine int_append (.tmp 112) (.tmp 114) 62 3 (.slice A9 ats.length cc9) ats (-1) w5.heap.size rfl rfl Tryz.underlying62 info_int rfl rfl RA8.out SZ8.out (by have:=HLN.out;omega) ?_))
          intro v9 w9 hr9 hb9 hg9 _
          have RA9:=mk0 hr9
          have RC9:=mk0 (R_grown_ne rfl RC8.out RA8.out (by decide) hg9)
          have CR9:=mk0 (CR8.out.grown RA8.out (by decide) hg9)
          have KP9:=mk0 (KP8.out.more hb9)
          clear hr9 hb9 hg9
          go_wp2
          go_roundw
          case rel=>exact ⟨k+1,cs++[⟨⟨#[]⟩,0,0,⟨#[]⟩⟩],ats++[(-1)],codes,p,why,A13,c13,by omega,rfl,by go_num,⟨HE3.out,HE.out.2⟩,⟨by simp;have:=HLN.out;omega⟩,RC9,RA9,CR9,KP9,HIN2⟩
          case measure=>simp[intOf];omega
         ·have hx0:x=0:=by omega
          have hww:why≠0:=by rcases hx1' with h | h;exact absurd h hxx;exact h
          subst hx0
          have hwb:(why==0)=false:=by rw[beq_eq_false_iff_ne];exact hww
          have hwb2:(why != 0)=true:=by rw[bne_iff_ne];exact hww
          clear hx1' hxx hww
          go_wp2_with (at_builtin;go_loud (refine kc_append (W:=wr.alloc (.cells #[.string ⟨#[]⟩,.int .i64 0,.int .i64 0,.string ⟨#[]⟩] 37)) (.tmp 108) (.tmp 110) 33 37 (.slice A2 cs.length cc2) cs ⟨⟨#[]⟩,0,0,⟨#[]⟩⟩ w5.heap.size rfl rfl Tryz.underlying33 info_cell rfl (by show Value.slice (some ⟨_,0,none⟩) 1 1=_;simp) RCa.out HSZa.out (by have:=HLN.out;omega) ?_))
          intro v8 w8 hr8 hb8 hg8 _
          have RC8:=mk0 hr8
          have RA8:=mk0 (R_grown_ne rfl RAa.out RCa.out (by decide) hg8)
          have CR8:=mk0 (CRa.out.grown RCa.out (by decide) hg8)
          have KP8:=mk0 (KPa.out.more hb8)
          have SZ8:=mk0 KP8.out.size
          clear hr8 hb8 hg8
          obtain ⟨A9,cc9,rfl,_,_⟩:=Kd.R_reads RA8.out
          go_wp2_with (at_builtin;go_loud (refine int_append (.tmp 112) (.tmp 114) 62 3 (.slice A9 ats.length cc9) ats (-1) w5.heap.size rfl rfl Tryz.underlying62 info_int rfl rfl RA8.out SZ8.out (by have:=HLN.out;omega) ?_))
          intro v9 w9 hr9 hb9 hg9 _
          have RA9:=mk0 hr9
          have RC9:=mk0 (R_grown_ne rfl RC8.out RA8.out (by decide) hg9)
          have CR9:=mk0 (CR8.out.grown RA8.out (by decide) hg9)
          have KP9:=mk0 (KP8.out.more hb9)
          clear hr9 hb9 hg9
          go_wp2
          go_roundw
          case rel=>exact ⟨k+1,cs++[⟨⟨#[]⟩,0,0,⟨#[]⟩⟩],ats++[(-1)],codes,p,why,A13,c13,by omega,rfl,by go_num,⟨HE3.out,HE.out.2⟩,⟨by simp;have:=HLN.out;omega⟩,RC9,RA9,CR9,KP9,HIN2⟩
          case measure=>simp[intOf];omega
        ·obtain rfl:why=0:=by by_cases h:why=0;exact h;exact absurd (.inr h) hx1'
         obtain rfl:x=0:=by by_cases h:x=1;exact absurd (.inl h) hx1';omega
         clear hx1'
         have HSV:=mk0 (show stepC l [] form 0 codes p 0=((valueR l p form).1,-1,codes,(valueR l p form).2.1,(valueR l p form).2.2) by unfold stepC;rw[if_neg (by simp),if_pos (by omega)])
         have HV:=mk0 (cr_value (base:=w.heap.size) CRa.out (HCW.out _ (K5.out.trans KPa.out)) (Nat.le_trans B5.out.size (KPa.out.size)) HCC.out (by have:=HL.out;omega) (form:Int))
         have HE3:=mk0 (show readF l [] form (nl.drop (k+1)) codes (valueR l p form).2.1 (valueR l p form).2.2 (cs++[(valueR l p form).1]) (ats++[-1])=F by
          have:=HE2.out
          rw[readF,HSV.out] at this
          exact this)
         clear HSV HE2
         generalize valueR l p form=vr at *
         obtain ⟨⟨vc,vk,vn,vs⟩,vp,vw⟩:=vr
         simp only at HV HE3
         go_wp2_with fail
         (with_reducible refine HV.out.mono ?_)
         rintro e w6 ⟨rfl,cr6,k6⟩
         simp only at cr6
         have hvb:=heap_alloc_new wr (.cells #[.string ⟨#[]⟩,.int .i64 0,.int .i64 0,.string ⟨#[]⟩] 37)
         have hvr:rp≠wr.heap.size:=by have:=HCR.out.lt;omega
         have hv6:=(k6.block wr.heap.size (by simp) hvr.symm).trans hvb
         have c0:=cell_of_heap (i:=0) hv6 rfl
         have c1:=cell_of_heap (i:=1) hv6 rfl
         have c2:=cell_of_heap (i:=2) hv6 rfl
         have c3:=cell_of_heap (i:=3) hv6 rfl
         have e0:=frozen_of_heap (i:=0) hv6
         have e1:=frozen_of_heap (i:=1) hv6
         have e2:=frozen_of_heap (i:=2) hv6
         have e3:=frozen_of_heap (i:=3) hv6
         have s4:=set4 hv6 (.string vc) (.int .i64 vk) (.int .i64 vn) (.string vs)
         have g0:=cell_of_heap (i:=0) s4 rfl
         have g1:=cell_of_heap (i:=1) s4 rfl
         have g2:=cell_of_heap (i:=2) s4 rfl
         have g3:=cell_of_heap (i:=3) s4 rfl
         have RC6:=R_set_rp rfl RCa.out CRa.out (by decide) k6
         have RA6:=R_set_rp rfl RAa.out CRa.out (by decide) k6
         have KP6:=KPa.out.trans k6
         have hsv:w5.heap.size≤wr.heap.size:=HKP.out.size
         have hn1:=R_lt HRC.out
         have hn2:=R_lt HRA.out
         have CRb:=mk0 ((((cr6.far (q:=⟨wr.heap.size,0,none⟩) hvr (.string vc)).far (q:=⟨wr.heap.size,1,none⟩) hvr (.int .i64 vk)).far (q:=⟨wr.heap.size,2,none⟩) hvr (.int .i64 vn)).far (q:=⟨wr.heap.size,3,none⟩) hvr (.string vs))
         have KPb:=mk0 ((((KP6.far (p:=⟨wr.heap.size,0,none⟩) hsv (.string vc)).far (p:=⟨wr.heap.size,1,none⟩) hsv (.int .i64 vk)).far (p:=⟨wr.heap.size,2,none⟩) hsv (.int .i64 vn)).far (p:=⟨wr.heap.size,3,none⟩) hsv (.string vs))
         have RCb:=mk0 (R_off rfl (R_off rfl (R_off rfl (R_off rfl RC6 ⟨wr.heap.size,0,none⟩ hn1 (.string vc)) ⟨wr.heap.size,1,none⟩ hn1 (.int .i64 vk)) ⟨wr.heap.size,2,none⟩ hn1 (.int .i64 vn)) ⟨wr.heap.size,3,none⟩ hn1 (.string vs))
         have RAb:=mk0 (R_off rfl (R_off rfl (R_off rfl (R_off rfl RA6 ⟨wr.heap.size,0,none⟩ hn2 (.string vc)) ⟨wr.heap.size,1,none⟩ hn2 (.int .i64 vk)) ⟨wr.heap.size,2,none⟩ hn2 (.int .i64 vn)) ⟨wr.heap.size,3,none⟩ hn2 (.string vs))
         clear RCa RAa CRa KPa HSZa cr6 k6 hvb hv6 s4 RC6 RA6 KP6 hn1 hn2 hvr y2
         have RCa:=RCb
         have RAa:=RAb
         have CRa:=CRb
         have KPa:=KPb
         have HSZa:=mk0 KPa.out.size
         clear RCb RAb CRb KPb
         go_wp2_with (at_builtin;go_loud (refine kc_append (W:=(((w6.setCell ⟨wr.heap.size,0,none⟩ (.string vc)).setCell ⟨wr.heap.size,1,none⟩ (.int .i64 vk)).setCell ⟨wr.heap.size,2,none⟩ (.int .i64 vn)).setCell ⟨wr.heap.size,3,none⟩ (.string vs)) (.tmp 108) (.tmp 110) 33 37 (.slice A2 cs.length cc2) cs ⟨vc,vk,vn,vs⟩ w5.heap.size rfl rfl Tryz.underlying33 info_cell rfl (by show Value.slice (some ⟨_,0,none⟩) 1 1=_;simp) RCa.out HSZa.out (by have:=HLN.out;omega) ?_))
         intro v8 w8 hr8 hb8 hg8 _
         have RC8:=mk0 hr8
         have RA8:=mk0 (R_grown_ne rfl RAa.out RCa.out (by decide) hg8)
         have CR8:=mk0 (CRa.out.grown RCa.out (by decide) hg8)
         have KP8:=mk0 (KPa.out.more hb8)
         have SZ8:=mk0 KP8.out.size
         clear hr8 hb8 hg8
         obtain ⟨A9,cc9,rfl,_,_⟩:=Kd.R_reads RA8.out
         go_wp2_with (at_builtin;go_loud (refine int_append (.tmp 112) (.tmp 114) 62 3 (.slice A9 ats.length cc9) ats (-1) w5.heap.size rfl rfl Tryz.underlying62 info_int rfl rfl RA8.out SZ8.out (by have:=HLN.out;omega) ?_))
         intro v9 w9 hr9 hb9 hg9 _
         have RA9:=mk0 hr9
         have RC9:=mk0 (R_grown_ne rfl RC8.out RA8.out (by decide) hg9)
         have CR9:=mk0 (CR8.out.grown RA8.out (by decide) hg9)
         have KP9:=mk0 (KP8.out.more hb9)
         clear hr9 hb9 hg9
         go_wp2
         go_roundw
         case rel=>exact ⟨k+1,cs++[⟨vc,vk,vn,vs⟩],ats++[(-1)],codes,vp,vw,A13,c13,by omega,rfl,by go_num,⟨HE3.out,HE.out.2⟩,⟨by simp;have:=HLN.out;omega⟩,RC9,RA9,CR9,KP9,⟨trivial⟩⟩
         case measure=>simp[intOf];omega
       ·have HE3:=mk0 (show (cs,ats,p,why)=F by rw[← HE.out.1,List.drop_eq_nil_of_le (by omega),readF])
        have hkli:¬ (k:Int)<nl.length:=by omega
        have HR6:=mk0 (show r=⟨cs,[],ats,decide (why=0) && decide (p=l.length)⟩ by rw[HR5.out,← HE3.out])
        have z1:=HCR.out.c1
        have z2:=HCR.out.c2
        obtain ⟨A2,cc2,rfl,hq2,hQ2⟩:=Kd.R_reads HRC.out
        obtain ⟨A9,cc9,rfl,hq9,hQ9⟩:=Kd.R_reads HRA.out
        have Q2:=mk0 (And.intro hq2 hQ2)
        have Q9:=mk0 (And.intro hq9 hQ9)
        clear hq2 hQ2 hq9 hQ9
        by_cases hwz:why=0
        ·subst hwz
         by_cases hpl:p=l.length
         ·subst hpl
          have HR7:=mk0 (show r=⟨cs,[],ats,true⟩ by rw[HR6.out];simp)
          go_wp2_with fail
          go_quiet (fail)
          have BQ:=Drawn0.below (Drawn0.step (Drawn0.refl wr) nq)
          have QF1:=mk0 (Kd.C_below Q2.out.2 BQ)
          have QF2:=mk0 (Kd.C_below Q9.out.2 BQ)
          have QF3:=mk0 (show Below w.heap.size w (wr.drewN nq) from B5.out.trans ((HKP.out.below (show w.heap.size≤rp by have:=HRP.out;omega) B5.out.size).trans (BQ.mono (Nat.le_trans B5.out.size HKP.out.size))))
          have QF4:=mk0 (HKP.out.trans (Keep1.of_below (b:=rp) BQ))
          clear BQ z1 z2
          generalize wr.drewN nq=wf at *
          go_wp2
          refine bodyPost_ret (v:=.tuple #[.slice A2 cs.length cc2,.slice none 0 0,.slice A9 ats.length cc9,.bool true]) (by simp[results,Tryz.results164,go_sem]) rfl ?_
          rw[HR7.out]
          exact ⟨A2,cc2,none,0,A9,cc9,rfl,Q2.out.1,Nat.le_refl _,Q9.out.1,QF1.out,str_nil _,QF2.out,QF3.out,fun ad he=>Nat.le_trans B5.out.size (R_at HRC.out ad he)⟩
         ·have hpb:(p==(l.length:Int))=false:=by rw[beq_eq_false_iff_ne];exact hpl
          have HR7:=mk0 (show r=⟨cs,[],ats,false⟩ by rw[HR6.out,decide_eq_false hpl,Bool.and_false])
          clear hpl
          go_wp2_with fail
          go_quiet (fail)
          have BQ:=Drawn0.below (Drawn0.step (Drawn0.refl wr) nq)
          have QF1:=mk0 (Kd.C_below Q2.out.2 BQ)
          have QF2:=mk0 (Kd.C_below Q9.out.2 BQ)
          have QF3:=mk0 (show Below w.heap.size w (wr.drewN nq) from B5.out.trans ((HKP.out.below (show w.heap.size≤rp by have:=HRP.out;omega) B5.out.size).trans (BQ.mono (Nat.le_trans B5.out.size HKP.out.size))))
          have QF4:=mk0 (HKP.out.trans (Keep1.of_below (b:=rp) BQ))
          clear BQ z1 z2
          generalize wr.drewN nq=wf at *
          go_wp2
          refine bodyPost_ret (v:=.tuple #[.slice A2 cs.length cc2,.slice none 0 0,.slice A9 ats.length cc9,.bool false]) (by simp[results,Tryz.results164,go_sem]) rfl ?_
          rw[HR7.out]
          exact ⟨A2,cc2,none,0,A9,cc9,rfl,Q2.out.1,Nat.le_refl _,Q9.out.1,QF1.out,str_nil _,QF2.out,QF3.out,fun ad he=>Nat.le_trans B5.out.size (R_at HRC.out ad he)⟩
        ·have hwb:(why==0)=false:=by rw[beq_eq_false_iff_ne];exact hwz
         have HR7:=mk0 (show r=⟨cs,[],ats,false⟩ by rw[HR6.out,decide_eq_false hwz,Bool.false_and])
         clear hwz
         go_wp2_with fail
         go_quiet (fail)
         have BQ:=Drawn0.below (Drawn0.step (Drawn0.refl wr) nq)
         have QF1:=mk0 (Kd.C_below Q2.out.2 BQ)
         have QF2:=mk0 (Kd.C_below Q9.out.2 BQ)
         have QF3:=mk0 (show Below w.heap.size w (wr.drewN nq) from B5.out.trans ((HKP.out.below (show w.heap.size≤rp by have:=HRP.out;omega) B5.out.size).trans (BQ.mono (Nat.le_trans B5.out.size HKP.out.size))))
         have QF4:=mk0 (HKP.out.trans (Keep1.of_below (b:=rp) BQ))
         clear BQ z1 z2
         generalize wr.drewN nq=wf at *
         go_wp2
         refine bodyPost_ret (v:=.tuple #[.slice A2 cs.length cc2,.slice none 0 0,.slice A9 ats.length cc9,.bool false]) (by simp[results,Tryz.results164,go_sem]) rfl ?_
         rw[HR7.out]
         exact ⟨A2,cc2,none,0,A9,cc9,rfl,Q2.out.1,Nat.le_refl _,Q9.out.1,QF1.out,str_nil _,QF2.out,QF3.out,fun ad he=>Nat.le_trans B5.out.size (R_at HRC.out ad he)⟩
  ·have HF:=mk0 (show r=⟨[],[],[],false⟩ by rw[HR2.out];unfold readQ;rw[if_pos hy3])
   have hyb:(y3==0)=false:=by rw[beq_eq_false_iff_ne];exact hy3
   have hyb2:(y3 != 0)=true:=by rw[bne_iff_ne];exact hy3
   go_wp2
   refine bodyPost_ret (v:=.tuple #[.slice none 0 0,.slice none 0 0,.slice none 0 0,.bool false]) (by simp[results,Tryz.results164,go_sem]) rfl ?_
   rw[HF.out]
   exact readS_bad rfl B4.out
end Go.Proofs.YtpiobnfakmmpdaaGreat.Lib0

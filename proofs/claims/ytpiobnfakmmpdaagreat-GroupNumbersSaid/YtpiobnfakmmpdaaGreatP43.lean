import Derived.Test.YtpiobnfakmmpdaaGreatP41
import Derived.Test.YtpiobnfakmmpdaaGreatP42
set_option linter.unusedVariables false
set_option linter.unusedSimpArgs false
namespace Go.Proofs.YtpiobnfakmmpdaaGreat.Lib0
open Go.RowKit Go.Proofs.YtpiobnfakmmpdaaGreatW.PrintWords Go.ChangeMaps
theorem texts_clo (s:ByteArray) (w:World):Calls Tryz.prog 237 #[.string s] w fun e w'=>e = .returned (.bool (decide (40<s.size)))∧Below w.heap.size w w':=by
 by_cases h:40<s.size
 ·have hi:(40:Int)<s.size:=by omega
  rw[decide_eq_true h]
  go_enter Tryz.func237,Tryz.ntmps237
  go_wp2
  go_ret
  exact ⟨by first | rfl | simp[hi],Below.refl _ _⟩
 ·have hi:¬ (40:Int)<s.size:=by omega
  rw[decide_eq_false h]
  go_enter Tryz.func237,Tryz.ntmps237
  go_wp2
  go_ret
  exact ⟨by first | rfl | simp[hi],Below.refl _ _⟩
theorem any_all40 (d:List ByteArray):(!d.any fun s=>decide (40<s.size))=d.all fun s=>decide (s.size≤40):=by
 induction d with
 | nil=>rfl
 | cons s d ih=>
  rw[List.any_cons,List.all_cons,← ih]
  by_cases h:40<s.size
  ·rw[decide_eq_true h,decide_eq_false (show ¬ s.size≤40 by omega)];rfl
  ·rw[decide_eq_false h,decide_eq_true (show s.size≤40 by omega)];simp
set_option maxHeartbeats 1600000 in
set_option maxRecDepth 100000 in
theorem pred_texts (A:Option Addr) (c:Nat) (d:List ByteArray) (w:World) (h:Kd.string.C w A d.length d) (hl:d.length≤1099511627776) :
  Calls Tryz.prog 203 #[.slice A d.length c] w fun e w'=>e = .returned (.bool (d.all fun s=>decide (s.size≤40)))∧Below w.heap.size w w':=by
 have HH:=mk0 (has_strT A c d (fun s=>decide (40<s.size)) w h hl (fun W' x _ _=>texts_clo x W'))
 rw[← any_all40]
 generalize (d.any fun s=>decide (40<s.size))=z at *
 clear h
 go_enter Tryz.func203,Tryz.ntmps203
 go_wp2_with fail
 (with_reducible refine HH.out.mono ?_)
 rintro e w2 ⟨rfl,hb2⟩
 have B2:=mk0 hb2
 clear hb2
 go_wp2
 go_ret
 exact ⟨rfl,B2.out⟩
set_option maxHeartbeats 3200000 in
set_option maxRecDepth 100000 in
theorem pred_rising (A:Option Addr) (c:Nat) (d:List ByteArray) (w:World) (h:Kd.string.C w A d.length d) :
  Calls Tryz.prog 204 #[.slice A d.length c] w fun e w'=>e = .returned (.bool (risesS d))∧Below w.heap.size w w':=by
 have HC:=mk0 h
 have hl63:=h.2.1
 clear h
 obtain ⟨r,hr⟩:∃ r,r=risesS d:=⟨_,rfl⟩
 rw[← hr]
 have HRR:=mk0 hr
 clear hr
 go_enter Tryz.func204,Tryz.ntmps204
 go_wp2_with fail
 go_loopw[3] (fun v3 wr=>∃ (k:Nat),1≤k∧(k≤d.length∨d.length=0)∧v3 = .int .i64 k∧Aside0 (∀ i (h:i+1<d.length),i+1<k→lessS d[i] d[i+1]=true)∧Aside0 (Below w.heap.size w wr)) (fun i _=>d.length-(intOf i).toNat)
 case atStart=>exact ⟨1,by omega,by omega,rfl,⟨fun i h1 h2=>by omega⟩,⟨Below.refl _ _⟩⟩
 case round=>
  obtain ⟨k,hk1,hk,rfl,HA,HB⟩:=hrel
  by_cases hlt:k<d.length
  ·obtain ⟨b,o,rfl,hx⟩:=str_open (Kd.C_below HC.out HB.out) (by omega)
   obtain ⟨j,rfl⟩:∃ j,k=j+1:=⟨k-1,by omega⟩
   have hx1:=hx j (by omega)
   have hx2:=hx (j+1) hlt
   have hlt2:((j+1:Nat):Int)<d.length:=by omega
   have hjw:IntKind.i64.wrap (((j+1:Nat):Int)-1)=(j:Int):=by rw[IntWalk.i64_in _ (by omega)];omega
   have hjw2:wrap64 (((j+1:Nat):Int)-1)=(j:Int):=by unfold wrap64;omega
   have hjw3:((j+1:Nat):Int)-1=(j:Int):=by omega
   have hjl:(j:Int)<d.length:=by omega
   have hjw4:IntKind.i64.wrap (j:Int)=(j:Int):=IntWalk.i64_in _ (by omega)
   have hlt3:(j:Int)+1<d.length:=by omega
   have hge3:(0:Int)≤(j:Int)+1:=by omega
   have hto3:((j:Int)+1).toNat=j+1:=by omega
   have hj63:(j:Int)+1<9223372036854775807:=by omega
   clear hx
   cases hv:lessS d[j] d[j+1]
   ·have HS:=mk0 (show r=false by rw[HRR.out];exact risesS_false d j hlt hv)
    unfold lessS at hv
    generalize d[j]=x at *
    generalize d[j+1]=y at *
    have hv2:(!Op.bytesLess x.toList y.toList)=true:=by rw[hv];rfl
    go_wp2_with fail
    go_quiet (fail)
    have HB2:=mk0 (HB.out.trans ((Drawn0.below (Drawn0.step (Drawn0.refl wr) nq)).mono HB.out.size))
    generalize wr.drewN nq=w2 at *
    go_wp2
    go_ret
    exact ⟨by rw[HS.out];rfl,HB2.out⟩
   ·have HA2:=mk0 (show ∀ i (h:i+1<d.length),i+1<j+1+1→lessS d[i] d[i+1]=true from fun i h1 h2=>by
     by_cases hij:i=j
     ·subst hij;exact hv
     ·exact HA.out i h1 (by omega))
    unfold lessS at hv
    obtain ⟨x,hxx⟩:∃ x,x=d[j]:=⟨_,rfl⟩
    obtain ⟨y,hyy⟩:∃ y,y=d[j+1]:=⟨_,rfl⟩
    rw[← hxx] at hv hx1
    rw[← hyy] at hv hx2
    clear hxx hyy
    have hv2:(!Op.bytesLess x.toList y.toList)=false:=by rw[hv];rfl
    go_wp2_with fail
    go_quiet (fail)
    have HB2:=mk0 (HB.out.trans ((Drawn0.below (Drawn0.step (Drawn0.refl wr) nq)).mono HB.out.size))
    generalize wr.drewN nq=w2 at *
    go_wp2
    go_roundw
    case rel=>exact ⟨j+1+1,by omega,by omega,by go_num,HA2,HB2⟩
    case measure=>simp[intOf];omega
  ·have HS:=mk0 (show r=true by rw[HRR.out];exact risesS_true d (fun i h=>HA.out i h (by omega)))
   have hlt2:¬ (k:Int)<d.length:=by omega
   go_wp2
   go_ret
   exact ⟨by rw[HS.out];rfl,HB.out⟩
theorem bareB_eq (p:PredM):bareB p=(!(bK p.kind==0) && ((bCol p.kind p.col).toList==p.col.toList) && decide (bN p.kind p.n=p.n) && decide (bM p.kind p.m=p.m) && ((bS p.kind p.s).toList==p.s.toList) && decide (bNs p.kind p.set.length=p.set.length) && decide (bNk p.kind p.kids.length=p.kids.length)):=by
 have em:∀ c:ByteArray,((⟨#[]⟩:ByteArray).toList==c.toList)=decide (c.size=0):=fun c=>by
  by_cases h:c.size=0
  ·have:c=⟨#[]⟩:=byt_inj (by rw[List.eq_nil_of_length_eq_zero (l:=byt c) (by rw[byt_length,h])];rfl)
   rw[decide_eq_true h,this];simp
  ·rw[decide_eq_false h,beq_eq_false_iff_ne]
   intro e
   have:=congrArg List.length e
   rw[toList_byt,toList_byt,byt_length,byt_length] at this
   exact h this.symm
 have h1:(!(bK p.kind==0))=(decide (1≤p.kind) && decide (p.kind≤10)):=by
  unfold bK
  split
  ·rename_i h
   rw[decide_eq_true h.1,decide_eq_true h.2,beq_eq_false_iff_ne.2 (show p.kind≠0 by omega)];rfl
  ·rename_i h
   by_cases h1:1≤p.kind
   ·rw[decide_eq_false (show ¬ p.kind≤10 by omega),Bool.and_false];rfl
   ·rw[decide_eq_false h1];rfl
 have h2:((bCol p.kind p.col).toList==p.col.toList)=((decide (4≤p.kind) && decide (p.kind≤9)) || decide (p.col.size=0)):=by
  unfold bCol
  split
  ·rename_i h
   rw[decide_eq_true h.1,decide_eq_true h.2];simp
  ·rename_i h
   rw[em,show (decide (4≤p.kind) && decide (p.kind≤9))=false by rw[← Bool.not_eq_true,Bool.and_eq_true,decide_eq_true_eq,decide_eq_true_eq];exact h,Bool.false_or]
 have h3:decide (bN p.kind p.n=p.n)=((decide (p.kind=4) || decide (p.kind=5) || decide (p.kind=10)) || decide (p.n=0)):=by
  unfold bN
  split
  ·rename_i h
   rw[show (decide (p.kind=4) || decide (p.kind=5) || decide (p.kind=10))=true by simpa [Bool.or_eq_true,or_assoc] using h];simp
  ·rename_i h
   rw[show (decide (p.kind=4) || decide (p.kind=5) || decide (p.kind=10))=false by rw[← Bool.not_eq_true];simpa [or_assoc] using h,Bool.false_or]
   exact decide_eq_decide.2 ⟨fun h=>h.symm,fun h=>h.symm⟩
 have h4:decide (bM p.kind p.m=p.m)=(decide (p.kind=10) || decide (p.m=0)):=by
  unfold bM
  split
  ·rename_i h
   rw[decide_eq_true h];simp
  ·rename_i h
   rw[decide_eq_false h,Bool.false_or]
   exact decide_eq_decide.2 ⟨fun h=>h.symm,fun h=>h.symm⟩
 have h5:((bS p.kind p.s).toList==p.s.toList)=((decide (p.kind=6) || decide (p.kind=8)) || decide (p.s.size=0)):=by
  unfold bS
  split
  ·rename_i h
   rw[show (decide (p.kind=6) || decide (p.kind=8))=true by simpa [Bool.or_eq_true] using h];simp
  ·rename_i h
   rw[em,show (decide (p.kind=6) || decide (p.kind=8))=false by rw[← Bool.not_eq_true];simpa using h,Bool.false_or]
 have h6:decide (bNs p.kind p.set.length=p.set.length)=(decide (p.kind=7) || decide (p.set.length=0)):=by
  unfold bNs
  split
  ·rename_i h
   rw[decide_eq_true h];simp
  ·rename_i h
   rw[decide_eq_false h,Bool.false_or]
   exact decide_eq_decide.2 ⟨fun h=>h.symm,fun h=>h.symm⟩
 rw[h1,h2,h3,h4,h5,h6]
 unfold bareB
 by_cases hr:1≤p.kind
 ·congr 1
  unfold bNk
  split
  ·rename_i h
   rw[decide_eq_true (show p.kind≤3 by omega)];simp
  ·rename_i h
   rw[decide_eq_false (show ¬ p.kind≤3 by omega),Bool.false_or]
   exact decide_eq_decide.2 ⟨fun h=>h.symm,fun h=>h.symm⟩
 ·rw[decide_eq_false hr]
  simp
theorem str_C_one (w:World) (s:ByteArray):Kd.string.C (w.alloc (.cells #[.string s] 9)) (some ⟨w.heap.size,0,none⟩) 1 [s]:=str_C_lit w [s] _ (by simp)
def leafP (p:PredM):Bool:=nameB p.col && decide (p.s.size≤40) && decide (p.set.length≤8) && risesS p.set && p.set.all fun s=>decide (s.size≤40)
set_option maxHeartbeats 12800000 in
set_option maxRecDepth 100000 in
theorem pred_part (p:PredM) (h:PredH) (w:World) (hp:PredS AllB w h p) (hl:p.set.length≤1099511627776) :
  Calls Tryz.prog 168 #[h.val] w fun e w'=>e = .returned (.bool (partP p))∧Below w.heap.size w w':=by
 obtain ⟨K,q⟩:=hp.ex
 obtain ⟨r,hr⟩:∃ r,r=partP p:=⟨_,rfl⟩
 rw[← hr]
 unfold partP at hr
 rw[bareB_eq,show (nameB p.col && decide (p.s.size≤40) && decide (p.set.length≤8) && risesS p.set && p.set.all fun s=>decide (s.size≤40))=leafP p from rfl] at hr
 have HLF:=mk0 (show leafP p=(nameB p.col && decide (p.s.size≤40) && decide (p.set.length≤8) && risesS p.set && p.set.all fun s=>decide (s.size≤40)) from rfl)
 have HSET:=mk0 (fun w' (hb:Below w.heap.size w w')=>Kd.C_below q.set hb)
 have HBR:=mk0 (fun w'=>pred_bare h w')
 have e1:=q.kind;have e2:=q.col;have e3:=q.n;have e4:=q.m;have e5:=q.s;have e6:=q.ns;have e7:=q.nk
 rw[← e1,← e2,← e3,← e4,← e5,← e6,← e7] at hr
 rw[← e2,← e5,← e6] at HLF
 obtain ⟨kind,col,n,m,s,As,ns,cs,Ak,nk,ck⟩:=h
 dsimp only at hr HLF HBR HSET e6
 subst e6
 generalize p.set=d at *
 generalize leafP p=lf at *
 clear q hp e1 e2 e3 e4 e5 e7
 change Aside0 (∀ w',Calls Tryz.prog 202 #[.agg #[.int .i64 kind,.string col,.int .i64 n,.int .i64 m,.string s,.slice As d.length cs,.slice Ak nk ck]] w' (BareS w' ⟨kind,col,n,m,s,As,d.length,cs,Ak,nk,ck⟩)) at HBR
 show Calls _ _ #[.agg #[.int .i64 kind,.string col,.int .i64 n,.int .i64 m,.string s,.slice As d.length cs,.slice Ak nk ck]] w _
 have hd63:(d.length:Int)≤1099511627776:=by omega
 have hn0:=heap_alloc_new w (.cells #[.int .i64 kind,.string col,.int .i64 n,.int .i64 m,.string s,.slice As d.length cs,.slice Ak nk ck] 51)
 have hb0:=below_alloc (Below.refl w.heap.size w) (.cells #[.int .i64 kind,.string col,.int .i64 n,.int .i64 m,.string s,.slice As d.length cs,.slice Ak nk ck] 51)
 have HB1:=mk0 (HBR.out (w.alloc (.cells #[.int .i64 kind,.string col,.int .i64 n,.int .i64 m,.string s,.slice As d.length cs,.slice Ak nk ck] 51)))
 obtain ⟨w0,hw0⟩:∃ w0,w0=w.alloc (.cells #[.int .i64 kind,.string col,.int .i64 n,.int .i64 m,.string s,.slice As d.length cs,.slice Ak nk ck] 51):=⟨_,rfl⟩
 have HW0:=mk0 hw0
 rw[← hw0] at hn0 hb0
 have HN0:=mk0 hn0
 have HB0:=mk0 hb0
 clear hn0 hb0 hw0
 go_enter Tryz.func168,Tryz.ntmps168
 go_wp2_with fail
 (with_reducible refine HB1.out.mono ?_)
 rintro e w1 ⟨bA,bcs,bB,bck,rfl,hb1⟩
 rw[← HW0.out] at hb1
 generalize bNk kind nk=bnk at *
 generalize bNs kind d.length=bns at *
 generalize bS kind s=bs at *
 generalize bM kind m=bm at *
 generalize bN kind n=bn at *
 generalize bCol kind col=bc at *
 generalize bK kind=bk at *
 have hn1:=(hb1.block w.heap.size (Array.getElem?_eq_some_iff.1 HN0.out).1).trans HN0.out
 have hlt1:=(Array.getElem?_eq_some_iff.1 hn1).1
 have B1:=mk0 (HB0.out.trans (hb1.mono HB0.out.size))
 have hn2:=heap_alloc_new w1 (.cells #[.int .i64 bk,.string bc,.int .i64 bn,.int .i64 bm,.string bs,.slice bA bns bcs,.slice bB bnk bck] 51)
 have B2:=mk0 (B1.out.trans ((below_alloc (Below.refl w1.heap.size w1) (.cells #[.int .i64 bk,.string bc,.int .i64 bn,.int .i64 bm,.string bs,.slice bA bns bcs,.slice bB bnk bck] 51)).mono B1.out.size))
 have hn3:=(heap_alloc_old w1 (.cells #[.int .i64 bk,.string bc,.int .i64 bn,.int .i64 bm,.string bs,.slice bA bns bcs,.slice bB bnk bck] 51) hlt1).trans hn1
 obtain ⟨W,hW⟩:∃ W,W=w1.alloc (.cells #[.int .i64 bk,.string bc,.int .i64 bn,.int .i64 bm,.string bs,.slice bA bns bcs,.slice bB bnk bck] 51):=⟨_,rfl⟩
 have HWW:=mk0 hW
 rw[← hW] at hn2 hn3 B2
 have x0:=cell_of_heap (i:=0) hn3 rfl
 have x1:=cell_of_heap (i:=1) hn3 rfl
 have x2:=cell_of_heap (i:=2) hn3 rfl
 have x3:=cell_of_heap (i:=3) hn3 rfl
 have x4:=cell_of_heap (i:=4) hn3 rfl
 have x5:=cell_of_heap (i:=5) hn3 rfl
 have x6:=cell_of_heap (i:=6) hn3 rfl
 have y0:=cell_of_heap (i:=0) hn2 rfl
 have y1:=cell_of_heap (i:=1) hn2 rfl
 have y2:=cell_of_heap (i:=2) hn2 rfl
 have y3:=cell_of_heap (i:=3) hn2 rfl
 have y4:=cell_of_heap (i:=4) hn2 rfl
 have y5:=cell_of_heap (i:=5) hn2 rfl
 have y6:=cell_of_heap (i:=6) hn2 rfl
 rw[hW] at x0 x1 x2 x3 x4 x5 x6 y0 y1 y2 y3 y4 y5 y6
 have hkeep:=mk0 (And.intro hn3 B2.out)
 clear hn1 hn2 hn3 hb1 HB1 HBR HN0 HB0 hW HW0
 by_cases k0:bk=0
 ·subst k0
  have HR:=mk0 (show r=false by rw[hr];simp[])
  clear hr
  go_wp2
  go_ret
  exact ⟨by rw[HR.out];rfl,by rw[← HWW.out];exact B2.out⟩
 have k0b:(bk==0)=false:=by rw[beq_eq_false_iff_ne];exact k0
 by_cases k1:col=bc
 case neg=>
  have k1b:(bc.toList==col.toList)=false:=by rw[beq_eq_false_iff_ne];exact fun e=>k1 (toList_inj e).symm
  have HR:=mk0 (show r=false by rw[hr];simp[k1b])
  clear hr
  go_wp2
  go_ret
  exact ⟨by rw[HR.out];rfl,by rw[← HWW.out];exact B2.out⟩
 subst k1
 by_cases k2:n=bn
 case neg=>
  have k2b:(bn != n)=true:=by rw[bne_iff_ne];exact fun e=>k2 e.symm
  have k2c:decide (bn=n)=false:=decide_eq_false (fun e=>k2 e.symm)
  have HR:=mk0 (show r=false by rw[hr];simp[k2c])
  clear hr
  go_wp2
  go_ret
  exact ⟨by rw[HR.out];rfl,by rw[← HWW.out];exact B2.out⟩
 subst k2
 by_cases k3:m=bm
 case neg=>
  have k3b:(bm != m)=true:=by rw[bne_iff_ne];exact fun e=>k3 e.symm
  have k3c:decide (bm=m)=false:=decide_eq_false (fun e=>k3 e.symm)
  have HR:=mk0 (show r=false by rw[hr];simp[k3c])
  clear hr
  go_wp2
  go_ret
  exact ⟨by rw[HR.out];rfl,by rw[← HWW.out];exact B2.out⟩
 subst k3
 by_cases k4:s=bs
 case neg=>
  have k4b:(bs.toList==s.toList)=false:=by rw[beq_eq_false_iff_ne];exact fun e=>k4 (toList_inj e).symm
  have HR:=mk0 (show r=false by rw[hr];simp[k4b])
  clear hr
  go_wp2
  go_ret
  exact ⟨by rw[HR.out];rfl,by rw[← HWW.out];exact B2.out⟩
 subst k4
 by_cases k5:d.length=bns
 case neg=>
  have k5b:((bns:Int) != d.length)=true:=by rw[bne_iff_ne];omega
  have k5d:(bns != d.length)=true:=by rw[bne_iff_ne];exact fun e=>k5 e.symm
  have k5c:decide (bns=d.length)=false:=decide_eq_false (fun e=>k5 e.symm)
  have HR:=mk0 (show r=false by rw[hr];simp[k5c])
  clear hr
  go_wp2
  go_ret
  exact ⟨by rw[HR.out];rfl,by rw[← HWW.out];exact B2.out⟩
 subst k5
 by_cases k6:nk=bnk
 case neg=>
  have k6b:((bnk:Int) != nk)=true:=by rw[bne_iff_ne];omega
  have k6d:(bnk != nk)=true:=by rw[bne_iff_ne];exact fun e=>k6 e.symm
  have k6c:decide (bnk=nk)=false:=decide_eq_false (fun e=>k6 e.symm)
  have HR:=mk0 (show r=false by rw[hr];simp[k6c])
  clear hr
  go_wp2
  go_ret
  exact ⟨by rw[HR.out];rfl,by rw[← HWW.out];exact B2.out⟩
 subst k6
 have HR:=mk0 (show r=(if kind=1∨kind=2∨kind=10 then true else if kind=3 then decide (nk=1) else lf) by rw[hr];simp[k0b])
 clear hr
 by_cases j1:kind=1
 ·subst j1
  have HR2:=mk0 (show r=true by rw[HR.out];simp)
  clear HR
  go_wp2
  go_ret
  exact ⟨by rw[HR2.out];rfl,by rw[← HWW.out];exact B2.out⟩
 by_cases j2:kind=2
 ·subst j2
  have HR2:=mk0 (show r=true by rw[HR.out];simp)
  clear HR
  go_wp2
  go_ret
  exact ⟨by rw[HR2.out];rfl,by rw[← HWW.out];exact B2.out⟩
 by_cases j10:kind=10
 ·subst j10
  have HR2:=mk0 (show r=true by rw[HR.out];simp)
  clear HR
  go_wp2
  go_ret
  exact ⟨by rw[HR2.out];rfl,by rw[← HWW.out];exact B2.out⟩
 by_cases j3:kind=3
 ·subst j3
  have HR2:=mk0 (show r=decide (nk=1) by rw[HR.out];simp)
  clear HR
  by_cases h1:nk=1
  ·subst h1
   go_wp2
   go_ret
   exact ⟨by rw[HR2.out];rfl,by rw[← HWW.out];exact B2.out⟩
  ·have h1b:((nk:Int)==1)=false:=by rw[beq_eq_false_iff_ne];omega
   have h1d:(nk==1)=false:=by rw[beq_eq_false_iff_ne];exact h1
   have HR3:=mk0 (show r=false by rw[HR2.out,decide_eq_false h1])
   go_wp2
   go_ret
   exact ⟨by rw[HR3.out];rfl,by rw[← HWW.out];exact B2.out⟩
 have HR2:=mk0 (show r=lf by rw[HR.out,if_neg (by omega),if_neg j3])
 rw[HLF.out] at HR2
 clear HR HLF
 have j1b:(kind==1)=false:=by rw[beq_eq_false_iff_ne];exact j1
 have j2b:(kind==2)=false:=by rw[beq_eq_false_iff_ne];exact j2
 have j10b:(kind==10)=false:=by rw[beq_eq_false_iff_ne];exact j10
 have j3b:(kind==3)=false:=by rw[beq_eq_false_iff_ne];exact j3
 have HNM:=mk0 (row_Name col (w1.alloc (.cells #[.int .i64 bk,.string col,.int .i64 n,.int .i64 m,.string s,.slice bA d.length bcs,.slice bB nk bck] 51)))
 have HTX:=mk0 (fun W' (hb:Below w.heap.size w W')=>pred_texts (some ⟨W'.heap.size,0,none⟩) 1 [s] (W'.alloc (.cells #[.string s] 9)) (str_C_one W' s) (by simp))
 have HRI:=mk0 (fun W' (hb:Below w.heap.size w W')=>pred_rising As cs d W' (HSET.out W' hb))
 have HTS:=mk0 (fun W' (hb:Below w.heap.size w W')=>pred_texts As cs d W' (HSET.out W' hb) (by omega))
 have HTX:Aside0 (∀ W',Below w.heap.size w W'→Calls Tryz.prog 203 #[.slice (some ⟨W'.heap.size,0,none⟩) 1 1] (W'.alloc (.cells #[.string s] 9)) fun e w'=>e = .returned (.bool (decide (s.size≤40)))∧Below (W'.alloc (.cells #[.string s] 9)).heap.size (W'.alloc (.cells #[.string s] 9)) w'):=⟨fun W' hb=>by have:=HTX.out W' hb;simpa using this⟩
 have B2W:=B2.out
 rw[HWW.out] at B2W
 have BW:=mk0 B2W
 have HTX2:=mk0 (HTX.out _ BW.out)
 rw[show ((w1.alloc (.cells #[.int .i64 bk,.string col,.int .i64 n,.int .i64 m,.string s,.slice bA d.length bcs,.slice bB nk bck] 51))).heap.size=w1.heap.size+1 by simp] at HTX2
 have BX:=mk0 (BW.out.trans ((below_alloc (Below.refl ((w1.alloc (.cells #[.int .i64 bk,.string col,.int .i64 n,.int .i64 m,.string s,.slice bA d.length bcs,.slice bB nk bck] 51))).heap.size (w1.alloc (.cells #[.int .i64 bk,.string col,.int .i64 n,.int .i64 m,.string s,.slice bA d.length bcs,.slice bB nk bck] 51))) (.cells #[.string s] 9)).mono BW.out.size))
 have HKP:=mk0 (show ∀ W',Below (w1.alloc (.cells #[.int .i64 bk,.string col,.int .i64 n,.int .i64 m,.string s,.slice bA d.length bcs,.slice bB nk bck] 51)).heap.size (w1.alloc (.cells #[.int .i64 bk,.string col,.int .i64 n,.int .i64 m,.string s,.slice bA d.length bcs,.slice bB nk bck] 51)) W'→W'.cell? ⟨w.heap.size,5,none⟩=some (.slice As d.length cs) from fun W' hb=>(hb.cell (World.block_lt_of_cell? _ _ x5)).trans x5)
 have BA:=mk0 (below_alloc (Below.refl ((w1.alloc (.cells #[.int .i64 bk,.string col,.int .i64 n,.int .i64 m,.string s,.slice bA d.length bcs,.slice bB nk bck] 51))).heap.size (w1.alloc (.cells #[.int .i64 bk,.string col,.int .i64 n,.int .i64 m,.string s,.slice bA d.length bcs,.slice bB nk bck] 51))) (.cells #[.string s] 9))
 generalize nameB col=b1 at *
 generalize decide (s.size≤40)=b2 at *
 generalize risesS d=b4 at *
 generalize (d.all fun s=>decide (s.size≤40))=b5 at *
 clear B2W
 cases b1
 ·have HR3:=mk0 (show r=false by rw[HR2.out];rfl)
  clear HR2
  go_wp2_with fail
  (with_reducible refine HNM.out.mono ?_)
  rintro e w2 ⟨rfl,rfl⟩
  go_wp2
  go_ret
  exact ⟨by rw[HR3.out];rfl,BW.out⟩
 cases b2
 ·have HR3:=mk0 (show r=false by rw[HR2.out];rfl)
  clear HR2
  go_wp2_with fail
  (with_reducible refine HNM.out.mono ?_)
  rintro e w2 ⟨rfl,rfl⟩
  go_wp2_with fail
  (with_reducible refine HTX2.out.mono ?_)
  rintro e w3 ⟨rfl,hb3⟩
  have B3:=mk0 (BX.out.trans (hb3.mono BX.out.size))
  clear hb3
  go_wp2
  go_ret
  exact ⟨by rw[HR3.out];rfl,B3.out⟩
 by_cases h8:d.length≤8
 case neg=>
  have h8i:¬ (d.length:Int)≤8:=by omega
  have h8d:decide ((d.length:Int)≤8)=false:=decide_eq_false h8i
  have HR3:=mk0 (show r=false by rw[HR2.out,decide_eq_false h8];rfl)
  clear HR2
  go_wp2_with fail
  (with_reducible refine HNM.out.mono ?_)
  rintro e w2 ⟨rfl,rfl⟩
  go_wp2_with fail
  (with_reducible refine HTX2.out.mono ?_)
  rintro e w3 ⟨rfl,hb3⟩
  have z5:=HKP.out w3 (BA.out.trans (hb3.mono BA.out.size))
  have B3:=mk0 (BX.out.trans (hb3.mono BX.out.size))
  clear hb3
  go_wp2
  go_ret
  exact ⟨by rw[HR3.out];rfl,B3.out⟩
 have h8i:(d.length:Int)≤8:=by omega
 have h8d:decide ((d.length:Int)≤8)=true:=decide_eq_true h8i
 have HR3:=mk0 (show r=(b4 && b5) by rw[HR2.out,decide_eq_true h8];cases b4<;>rfl)
 clear HR2
 cases b4
 ·have HR4:=mk0 (show r=false by rw[HR3.out];rfl)
  clear HR3
  go_wp2_with fail
  (with_reducible refine HNM.out.mono ?_)
  rintro e w2 ⟨rfl,rfl⟩
  go_wp2_with fail
  (with_reducible refine HTX2.out.mono ?_)
  rintro e w3 ⟨rfl,hb3⟩
  have z5:=HKP.out w3 (BA.out.trans (hb3.mono BA.out.size))
  have B3:=mk0 (BX.out.trans (hb3.mono BX.out.size))
  have HRI2:=mk0 (HRI.out w3 B3.out)
  clear hb3
  go_wp2_with fail
  (with_reducible refine HRI2.out.mono ?_)
  rintro e w4 ⟨rfl,hb4⟩
  have B4:=mk0 (B3.out.trans (hb4.mono B3.out.size))
  clear hb4
  go_wp2
  go_ret
  exact ⟨by rw[HR4.out];rfl,B4.out⟩
 ·have HR4:=mk0 (show r=b5 by rw[HR3.out];rfl)
  clear HR3
  go_wp2_with fail
  (with_reducible refine HNM.out.mono ?_)
  rintro e w2 ⟨rfl,rfl⟩
  go_wp2_with fail
  (with_reducible refine HTX2.out.mono ?_)
  rintro e w3 ⟨rfl,hb3⟩
  have z5:=HKP.out w3 (BA.out.trans (hb3.mono BA.out.size))
  have B3:=mk0 (BX.out.trans (hb3.mono BX.out.size))
  have B23:=mk0 (BA.out.trans (hb3.mono BA.out.size))
  have HRI2:=mk0 (HRI.out w3 B3.out)
  clear hb3
  go_wp2_with fail
  (with_reducible refine HRI2.out.mono ?_)
  rintro e w4 ⟨rfl,hb4⟩
  have z6:=HKP.out w4 (B23.out.trans (hb4.mono B23.out.size))
  have B4:=mk0 (B3.out.trans (hb4.mono B3.out.size))
  have HTS2:=mk0 (HTS.out w4 B4.out)
  clear hb4
  go_wp2_with fail
  (with_reducible refine HTS2.out.mono ?_)
  rintro e w5 ⟨rfl,hb5⟩
  have B5:=mk0 (B4.out.trans (hb5.mono B4.out.size))
  clear hb5
  go_wp2
  go_ret
  exact ⟨by rw[HR4.out];rfl,B5.out⟩
end Go.Proofs.YtpiobnfakmmpdaaGreat.Lib0
namespace Go.Proofs.YtpiobnfakmmpdaaGreat.Lib0
open Go.RowKit Go.Proofs.YtpiobnfakmmpdaaGreatW.PrintWords Go.ChangeMaps
set_option maxHeartbeats 3200000 in
set_option maxRecDepth 100000 in
theorem pred_Size:∀ (p:PredM) (h:PredH) (w:World),PredS AllB w h p→p.size≤4611686018427387904→
  Calls Tryz.prog 117 #[h.val] w fun e w'=>e = .returned (.int .i64 p.size)∧Below w.heap.size w w':=by
 refine PredM.ind fun p ih h w hp hs=>?_
 obtain ⟨K,q⟩:=hp.ex
 have HS:=mk0 (p.size_eq)
 have hle:=hs
 rw[p.size_eq] at hle
 have HQ:=mk0 (fun wr (hb:Below w.heap.size w wr)=>q.row hb)
 have hnk:=q.nk
 have hsl:=PredM.sizes_len p.kids
 obtain ⟨kind,col,n,m,s,As,ns,cs,Ak,nk,ck⟩:=h
 dsimp only at hnk HQ
 subst hnk
 generalize p.size=r at *
 generalize hl:p.kids=l at *
 have HIH:=mk0 ih
 have HLE:=mk0 hle
 clear ih q hp hl hs
 show Calls _ _ #[.agg #[.int .i64 kind,.string col,.int .i64 n,.int .i64 m,.string s,.slice As ns cs,.slice Ak l.length ck]] w _
 have HB0:=mk0 (below_alloc (Below.refl w.heap.size w) (.cells #[.int .i64 kind,.string col,.int .i64 n,.int .i64 m,.string s,.slice As ns cs,.slice Ak l.length ck] 51))
 have hll:(l.length:Int)≤4611686018427387904:=by omega
 clear hle hsl
 go_enter Tryz.func117,Tryz.ntmps117
 go_wp2_with fail
 go_loopw[3,9] (fun v3 v9 wr=>∃ (i:Nat),i≤l.length∧v3 = .int .i64 (1+PredM.sizes (l.take i):Nat)∧v9 = .int .i64 i∧Aside0 (Below w.heap.size w wr)) (fun _ i _=>l.length-(intOf i).toNat)
 case atStart=>exact ⟨0,by omega,by simp[PredM.sizes],rfl,HB0⟩
 case round=>
  clear HB0
  obtain ⟨i,hi,rfl,rfl,HB⟩:=hrel
  by_cases hlt:i<l.length
  ·have hlt2:(i:Int)<l.length:=by omega
   obtain ⟨b,o,rfl,hx⟩:=HQ.out wr HB.out (by omega)
   obtain ⟨d,hd,x0,x1,x2,x3,x4,x5,x6⟩:=hx i hlt
   have htk:=PredM.sizes_take l i hlt
   have htl:=PredM.sizes_take_le l (i+1)
   have hlq:=HLE.out
   have HTK:=mk0 htk
   obtain ⟨dk,dc,dn,dm,ds,dA,dns,dcs,dB,dnk,dck⟩:=d
   dsimp only at x0 x1 x2 x3 x4 x5 x6
   have ba:=below_alloc (Below.refl wr.heap.size wr) (.cells #[.int .i64 dk,.string dc,.int .i64 dn,.int .i64 dm,.string ds,.slice dA dns dcs,.slice dB dnk dck] 51)
   have HC:=mk0 (show Calls Tryz.prog 117 #[.agg #[.int .i64 dk,.string dc,.int .i64 dn,.int .i64 dm,.string ds,.slice dA dns dcs,.slice dB dnk dck]] _ _ from HIH.out l[i] (List.getElem_mem hlt) ⟨dk,dc,dn,dm,ds,dA,dns,dcs,dB,dnk,dck⟩ _ (hd.below ba) (by omega))
   have HBA:=mk0 (HB.out.trans (ba.mono HB.out.size))
   obtain ⟨sz,hsz⟩:∃ sz,sz=l[i].size:=⟨_,rfl⟩
   rw[← hsz] at HC htk HTK
   have hsm:(1:Int)+PredM.sizes (l.take i)+sz≤4611686018427387904:=by omega
   have HSM:=mk0 (show 1+PredM.sizes (l.take (i+1))=1+PredM.sizes (l.take i)+sz by rw[HTK.out];omega)
   generalize PredM.sizes (l.take i)=a at *
   clear hx hd htk htl hlq ba hsz
   go_wp2_with fail
   (with_reducible refine HC.out.mono ?_)
   rintro e w2 ⟨rfl,hb⟩
   have HB2:=mk0 (HBA.out.trans (hb.mono HBA.out.size))
   clear hb HC x0 x1 x2 x3 x4 x5 x6
   go_wp2
   go_roundw
   case rel=>exact ⟨i+1,by omega,by rw[HSM.out];go_num,by go_num,HB2⟩
   case measure=>simp[intOf];omega
  ·obtain rfl:i=l.length:=by omega
   have HE:=mk0 (show 1+PredM.sizes (l.take l.length)=r by rw[List.take_length,HS.out])
   generalize PredM.sizes (l.take l.length)=a at *
   go_wp2
   go_ret
   exact ⟨by rw[← HE.out];first | rfl | (rw[show ((1+a:Nat):Int)=1+(a:Int) by omega];rfl),HB.out⟩
end Go.Proofs.YtpiobnfakmmpdaaGreat.Lib0

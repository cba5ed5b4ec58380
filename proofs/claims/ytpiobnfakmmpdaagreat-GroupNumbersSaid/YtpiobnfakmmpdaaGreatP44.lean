import Derived.Test.YtpiobnfakmmpdaaGreatP43
set_option linter.unusedVariables false
set_option linter.unusedSimpArgs false
namespace Go.Proofs.YtpiobnfakmmpdaaGreat.Lib0
open Go.RowKit Go.Proofs.YtpiobnfakmmpdaaGreatW.PrintWords Go.ChangeMaps
theorem all_take_next {α:Type} (f:α→Bool) (l:List α) (i:Nat) (h:i<l.length):(l.take (i+1)).all f=((l.take i).all f && f l[i]):=by
 rw[take_next l i h,List.all_append];simp
theorem all_false {α:Type} (f:α→Bool) (l:List α) (i:Nat) (h:i<l.length) (hf:f l[i]=false):l.all f=false:=by
 rw[List.all_eq_false]
 exact ⟨l[i],List.getElem_mem h,by simp[hf]⟩
inductive SetOk:PredM→Prop where
 | mk (p:PredM) (h:p.set.length≤1099511627776) (hk:∀ k ∈ p.kids,SetOk k):SetOk p
theorem SetOk.set {p:PredM} (h:SetOk p):p.set.length≤1099511627776:=by cases h;assumption
theorem SetOk.kid {p k:PredM} (h:SetOk p) (hk:k ∈ p.kids):SetOk k:=by cases h;rename_i h2 h3;exact h3 k hk
set_option maxHeartbeats 3200000 in
set_option maxRecDepth 100000 in
theorem pred_parts:∀ (p:PredM) (d:Nat) (h:PredH) (w:World),PredS AllB w h p→SetOk p→p.size≤4611686018427387904→d≤1000→
  Calls Tryz.prog 118 #[h.val,.int .i64 d] w fun e w'=>e = .returned (.bool (partsP d p))∧Below w.heap.size w w':=by
 refine PredM.ind fun p ih d h w hp hs hz hd=>?_
 cases d with
 | zero=>
  have HS:=mk0 (show partsP 0 p=false from rfl)
  generalize partsP 0 p=r at *
  obtain ⟨kind,col,n,m,s,As,ns,cs,Ak,nk,ck⟩:=h
  have HB0:=mk0 (below_alloc (Below.refl w.heap.size w) (.cells #[.int .i64 kind,.string col,.int .i64 n,.int .i64 m,.string s,.slice As ns cs,.slice Ak nk ck] 51))
  show Calls _ _ #[.agg #[.int .i64 kind,.string col,.int .i64 n,.int .i64 m,.string s,.slice As ns cs,.slice Ak nk ck],.int .i64 0] w _
  clear ih hp hs
  go_enter Tryz.func118,Tryz.ntmps118
  go_wp2
  go_ret
  exact ⟨by rw[HS.out];rfl,HB0.out⟩
 | succ d=>
  have HPT:=mk0 (fun W hb=>pred_part p h W (hp.below hb) hs.set)
  have hsl:=PredM.sizes_len p.kids
  rw[p.size_eq] at hz
  obtain ⟨K,q⟩:=hp.ex
  have HQ:=mk0 (fun wr (hb:Below w.heap.size w wr)=>q.row hb)
  have hnk:=q.nk
  have HS:=mk0 (show partsP (d+1) p=(partP p && p.kids.all fun k=>partsP d k) from rfl)
  generalize partsP (d+1) p=r at *
  generalize partP p=pp at *
  have HSK:=mk0 (fun k (hk:k ∈ p.kids)=>And.intro (hs.kid hk) (show k.size≤4611686018427387904 by
   have:∀ (l:List PredM),k ∈ l→k.size≤PredM.sizes l:=by
    intro l
    induction l with
    | nil=>intro h;cases h
    | cons a l ih=>
     intro h
     rw[PredM.sizes]
     rcases List.mem_cons.1 h with rfl | h
     ·omega
     ·have:=ih h;omega
   have:=this _ hk
   omega))
  have HIH:=mk0 ih
  generalize hl:p.kids=l at *
  obtain ⟨kind,col,n,m,s,As,ns,cs,Ak,nk,ck⟩:=h
  dsimp only at hnk HQ
  subst hnk
  change Aside0 (∀ W,Below w.heap.size w W→Calls Tryz.prog 168 #[.agg #[.int .i64 kind,.string col,.int .i64 n,.int .i64 m,.string s,.slice As ns cs,.slice Ak l.length ck]] W fun e w'=>e = .returned (.bool pp)∧Below W.heap.size W w') at HPT
  show Calls _ _ #[.agg #[.int .i64 kind,.string col,.int .i64 n,.int .i64 m,.string s,.slice As ns cs,.slice Ak l.length ck],.int .i64 ((d+1:Nat):Int)] w _
  have hb0:=below_alloc (Below.refl w.heap.size w) (.cells #[.int .i64 kind,.string col,.int .i64 n,.int .i64 m,.string s,.slice As ns cs,.slice Ak l.length ck] 51)
  have HB0:=mk0 hb0
  have HN0:=mk0 (heap_alloc_new w (.cells #[.int .i64 kind,.string col,.int .i64 n,.int .i64 m,.string s,.slice As ns cs,.slice Ak l.length ck] 51))
  have HPT0:=mk0 (HPT.out _ hb0)
  have hll:(l.length:Int)≤4611686018427387904:=by omega
  have hd0:(((d+1:Nat):Int)==0)=false:=by rw[beq_eq_false_iff_ne];omega
  have hd1:¬ ((d+1:Nat):Int)=0:=by omega
  have hdw:IntKind.i64.wrap (((d+1:Nat):Int)-1)=(d:Int):=by rw[IntWalk.i64_in _ (by omega)];omega
  have hdw2:wrap64 (((d+1:Nat):Int)-1)=(d:Int):=by unfold wrap64;omega
  obtain ⟨D,hD⟩:∃ D:Int,D=((d+1:Nat):Int):=⟨_,rfl⟩
  rw[← hD] at hd0 hd1 hdw hdw2 ⊢
  clear ih q hp hs hz hl hsl hb0 hD HPT
  cases pp
  ·have HS2:=mk0 (show r=false by rw[HS.out];rfl)
   go_enter Tryz.func118,Tryz.ntmps118
   go_wp2_with fail
   (with_reducible refine HPT0.out.mono ?_)
   rintro e w1 ⟨rfl,hb1⟩
   have B1:=mk0 (HB0.out.trans (hb1.mono HB0.out.size))
   clear hb1
   go_wp2
   go_ret
   exact ⟨by rw[HS2.out];rfl,B1.out⟩
  have HS2:=mk0 (show r=l.all (fun k=>partsP d k) by rw[HS.out];rfl)
  clear HS
  go_enter Tryz.func118,Tryz.ntmps118
  go_wp2_with fail
  (with_reducible refine HPT0.out.mono ?_)
  rintro e w1 ⟨rfl,hb1⟩
  have B1:=mk0 (HB0.out.trans (hb1.mono HB0.out.size))
  have hn1:=(hb1.block w.heap.size (by simp)).trans HN0.out
  have z6:=cell_of_heap (i:=6) hn1 rfl
  clear hb1 hn1 HN0 HB0 HPT0
  go_wp2_with fail
  clear z6
  go_loopw[17] (fun v17 wr=>∃ (i:Nat),i≤l.length∧v17 = .int .i64 i∧Aside0 ((l.take i).all (fun k=>partsP d k)=true)∧Aside0 (Below w.heap.size w wr)) (fun i _=>l.length-(intOf i).toNat)
  case atStart=>exact ⟨0,by omega,rfl,⟨by simp⟩,B1⟩
  case round=>
   clear B1
   obtain ⟨i,hi,rfl,HA,HB⟩:=hrel
   by_cases hlt:i<l.length
   ·have hlt2:(i:Int)<l.length:=by omega
    obtain ⟨b,o,rfl,hx⟩:=HQ.out wr HB.out (by omega)
    obtain ⟨k,hk,x0,x1,x2,x3,x4,x5,x6⟩:=hx i hlt
    have HA2:=mk0 (show partsP d l[i]=true→(l.take (i+1)).all (fun k=>partsP d k)=true from fun h=>by rw[all_take_next _ _ _ hlt,HA.out,h];rfl)
    have HF2:=mk0 (show partsP d l[i]=false→r=false from fun h=>by rw[HS2.out];exact all_false _ _ i hlt h)
    obtain ⟨dk,dc,dn,dm,ds,dA,dns,dcs,dB,dnk,dck⟩:=k
    dsimp only at x0 x1 x2 x3 x4 x5 x6
    have ba:=below_alloc (Below.refl wr.heap.size wr) (.cells #[.int .i64 dk,.string dc,.int .i64 dn,.int .i64 dm,.string ds,.slice dA dns dcs,.slice dB dnk dck] 51)
    have HC:=mk0 (show Calls Tryz.prog 118 #[.agg #[.int .i64 dk,.string dc,.int .i64 dn,.int .i64 dm,.string ds,.slice dA dns dcs,.slice dB dnk dck],.int .i64 d] _ _ from HIH.out l[i] (List.getElem_mem hlt) d ⟨dk,dc,dn,dm,ds,dA,dns,dcs,dB,dnk,dck⟩ _ (hk.below ba) (HSK.out _ (List.getElem_mem hlt)).1 (HSK.out _ (List.getElem_mem hlt)).2 (by omega))
    have HBA:=mk0 (HB.out.trans (ba.mono HB.out.size))
    generalize partsP d l[i]=y at *
    clear hx hk ba
    go_wp2_with fail
    (with_reducible refine HC.out.mono ?_)
    rintro e w2 ⟨rfl,hb⟩
    have HB2:=mk0 (HBA.out.trans (hb.mono HBA.out.size))
    clear hb HC x0 x1 x2 x3 x4 x5 x6
    cases y
    ·have HS3:=mk0 (HF2.out rfl)
     go_wp2
     go_ret
     exact ⟨by rw[HS3.out];rfl,HB2.out⟩
    ·have HA3:=mk0 (HA2.out rfl)
     go_wp2
     go_roundw
     case rel=>exact ⟨i+1,by omega,by go_num,HA3,HB2⟩
     case measure=>simp[intOf];omega
   ·have HE:=mk0 (show r=true by rw[HS2.out,← HA.out,List.take_of_length_le (by omega)])
    have hlt2:¬ (i:Int)<l.length:=by omega
    go_wp2
    go_ret
    exact ⟨by rw[HE.out];rfl,HB.out⟩
set_option maxHeartbeats 3200000 in
set_option maxRecDepth 100000 in
theorem pred_Right (p:PredM) (h:PredH) (w:World) (hp:PredS AllB w h p) (hs:SetOk p) (hz:p.size≤4611686018427387904) :
  Calls Tryz.prog 63 #[h.val] w fun e w'=>e = .returned (.bool (rightP p))∧Below w.heap.size w w':=by
 have HSZ:=mk0 (fun W (hb:Below w.heap.size w W)=>pred_Size p h W (hp.below hb) hz)
 have HPA:=mk0 (fun W (hb:Below w.heap.size w W)=>pred_parts p 6 h W (hp.below hb) hs hz (by omega))
 have HR:Aside0 (rightP p=(decide (p.size≤40) && partsP 6 p)):=⟨rfl⟩
 generalize rightP p=r at *
 generalize p.size=z at *
 generalize partsP 6 p=y at *
 obtain ⟨kind,col,n,m,s,As,ns,cs,Ak,nk,ck⟩:=h
 change Aside0 (∀ W,Below w.heap.size w W→Calls Tryz.prog 117 #[.agg #[.int .i64 kind,.string col,.int .i64 n,.int .i64 m,.string s,.slice As ns cs,.slice Ak nk ck]] W fun e w'=>e = .returned (.int .i64 z)∧Below W.heap.size W w') at HSZ
 change Aside0 (∀ W,Below w.heap.size w W→Calls Tryz.prog 118 #[.agg #[.int .i64 kind,.string col,.int .i64 n,.int .i64 m,.string s,.slice As ns cs,.slice Ak nk ck],.int .i64 6] W fun e w'=>e = .returned (.bool y)∧Below W.heap.size W w') at HPA
 show Calls _ _ #[.agg #[.int .i64 kind,.string col,.int .i64 n,.int .i64 m,.string s,.slice As ns cs,.slice Ak nk ck]] w _
 have hb0:=below_alloc (Below.refl w.heap.size w) (.cells #[.int .i64 kind,.string col,.int .i64 n,.int .i64 m,.string s,.slice As ns cs,.slice Ak nk ck] 51)
 have HB0:=mk0 hb0
 have HN0:=mk0 (heap_alloc_new w (.cells #[.int .i64 kind,.string col,.int .i64 n,.int .i64 m,.string s,.slice As ns cs,.slice Ak nk ck] 51))
 have HS0:=mk0 (HSZ.out _ hb0)
 clear hp hs hb0 HSZ
 go_enter Tryz.func63,Tryz.ntmps63
 go_wp2_with fail
 (with_reducible refine HS0.out.mono ?_)
 rintro e w1 ⟨rfl,hb1⟩
 have b1:=HB0.out.trans (hb1.mono HB0.out.size)
 have B1:=mk0 b1
 have HP1:=mk0 (HPA.out w1 b1)
 have hn1:=(hb1.block w.heap.size (by simp)).trans HN0.out
 have z0:=cell_of_heap (i:=0) hn1 rfl
 have z1:=cell_of_heap (i:=1) hn1 rfl
 have z2:=cell_of_heap (i:=2) hn1 rfl
 have z3:=cell_of_heap (i:=3) hn1 rfl
 have z4:=cell_of_heap (i:=4) hn1 rfl
 have z5:=cell_of_heap (i:=5) hn1 rfl
 have z6:=cell_of_heap (i:=6) hn1 rfl
 clear hb1 b1 hn1 HN0 HB0 HS0 HPA
 by_cases h40:z≤40
 ·have h1:(z:Int)≤40:=by omega
  have h2:decide ((z:Int)≤40)=true:=decide_eq_true h1
  have HR2:=mk0 (show r=y by rw[HR.out,decide_eq_true h40];rfl)
  go_wp2_with fail
  (with_reducible refine HP1.out.mono ?_)
  rintro e w2 ⟨rfl,hb2⟩
  have B2:=mk0 (B1.out.trans (hb2.mono B1.out.size))
  clear hb2
  go_wp2
  go_ret
  exact ⟨by rw[HR2.out];rfl,B2.out⟩
 ·have h1:¬ (z:Int)≤40:=by omega
  have h2:decide ((z:Int)≤40)=false:=decide_eq_false h1
  have HR2:=mk0 (show r=false by rw[HR.out,decide_eq_false h40];rfl)
  go_wp2
  go_ret
  exact ⟨by rw[HR2.out];rfl,B1.out⟩
end Go.Proofs.YtpiobnfakmmpdaaGreat.Lib0
namespace Go.Proofs.YtpiobnfakmmpdaaGreat.Lib0
open Go.RowKit Go.Proofs.YtpiobnfakmmpdaaGreatW.PrintWords Go.ChangeMaps
theorem PredS.lit (S:Nat→Prop) (w:World) (k:Int) (c:ByteArray) (n m:Int) (s:ByteArray):PredS S w ⟨k,c,n,m,s,none,0,0,none,0,0⟩ (.mk k c n m s [] []):=
 PredQ.to (K:=[]) ⟨rfl,rfl,rfl,rfl,rfl,rfl,Nat.le_refl _,(show Kd.string.C w none 0 [] from ⟨rfl,by simp,fun h=>absurd h (by simp)⟩),(fun ad e hn=>by cases e),rfl,Nat.le_refl _,rfl,(show kpr.C w none 0 [] from ⟨rfl,by simp,fun h=>absurd h (by simp)⟩),(fun ad e hn=>by cases e),fun i h1=>by simp at h1⟩
set_option maxHeartbeats 1600000 in
set_option maxRecDepth 100000 in
theorem scan_bad (p:PredM) (h:PredH) (w:World) (hp:PredS AllB w h p) (hs:SetOk p) (hz:p.size≤4611686018427387904) (hr:rightP p=false) (g:Addr) (mk:Option Addr) (from_ fl:Int) :
  Calls Tryz.prog 23 #[.pointer (some g),h.val,.pointer mk,.int .i64 from_,.int .i64 fl] w fun e w'=>e = .returned (.tuple #[.slice none 0 0,.bool false])∧Below w.heap.size w w':=by
 have HRT:=mk0 (fun W (hb:Below w.heap.size w W)=>pred_Right p h W (hp.below hb) hs hz)
 rw[hr] at HRT
 obtain ⟨kind,col,n,m,s,As,ns,cs,Ak,nk,ck⟩:=h
 have HRT:Aside0 (∀ W,Below w.heap.size w W→Calls Tryz.prog 63 #[.agg #[.int .i64 kind,.string col,.int .i64 n,.int .i64 m,.string s,.slice As ns cs,.slice Ak nk ck]] W fun e w'=>e = .returned (.bool false)∧Below W.heap.size W w'):=HRT
 show Calls _ _ #[.pointer (some g),.agg #[.int .i64 kind,.string col,.int .i64 n,.int .i64 m,.string s,.slice As ns cs,.slice Ak nk ck],.pointer mk,.int .i64 from_,.int .i64 fl] w _
 have hb0:=below_alloc (Below.refl w.heap.size w) (.cells #[.int .i64 kind,.string col,.int .i64 n,.int .i64 m,.string s,.slice As ns cs,.slice Ak nk ck] 51)
 have HB0:=mk0 hb0
 have HR0:=mk0 (HRT.out _ hb0)
 clear hp hs hr hb0 HRT
 go_enter Tryz.func23,Tryz.ntmps23
 go_wp2_with fail
 (with_reducible refine HR0.out.mono ?_)
 rintro e w1 ⟨rfl,hb1⟩
 have B1:=mk0 (HB0.out.trans (hb1.mono HB0.out.size))
 clear hb1
 go_wp2
 refine bodyPost_ret (v:=.tuple #[.slice none 0 0,.bool false]) (by simp[results,Tryz.results23,go_sem]) rfl ?_
 exact ⟨rfl,B1.out⟩
end Go.Proofs.YtpiobnfakmmpdaaGreat.Lib0

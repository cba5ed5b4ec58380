import Derived.Tactics2
import Derived.Defers
import Derived.Laws.Pointers
import Derived.Laws.LoneSync
import Derived.RegionTactic
import Derived.RegionCalls
import Derived.Shelf.SlSortCmp.QuietGrown
import Derived.Test.YtpiobnfakmmpdaaGreatP11
set_option linter.unusedVariables false
set_option linter.unusedSimpArgs false
namespace Go.Proofs.YtpiobnfakmmpdaaGreat.Lib0
open Go.RowKit Go.Proofs.YtpiobnfakmmpdaaGreatW.PrintWords Go.ChangeMaps
structure ColM where
 name:ByteArray
 kind:Int
def ColM.cells (c:ColM):List Value:=[.string c.name,.int .i64 c.kind]
def kl:Kd ColM:=Kd.iso (Kd.pair Kd.string (Kd.int .i64)) (fun c=>(c.name,c.kind))
theorem kl_M {w:World} {base:Nat} {ok:Nat→Prop} (c:ColM):kl.M w base ok c c.cells:=
 ⟨[.string c.name],[.int .i64 c.kind],rfl,rfl,rfl⟩
theorem kl_K {w:World} {c:ColM} {cs:List Value} (h:kl.K w c cs):cs=c.cells:=by
 obtain ⟨a,b,rfl,rfl,rfl⟩:=h
 rfl
theorem kl_open {w:World} {A:Option Addr} {n:Nat} {l:List ColM} (h:kl.C w A n l) (hn:0<l.length) :
  ∃ b o,A=some ⟨b,o,none⟩∧∀ k (hk:k<l.length),w.cell? ⟨b,o+k*2,none⟩=some (.string l[k].name)∧w.cell? ⟨b,o+k*2+1,none⟩=some (.int .i64 l[k].kind):=by
 obtain ⟨ad,rfl,hc⟩:=h.2.2 (by have:=h.1;omega)
 have hx:∀ k (hk:k<l.length) i u,l[k].cells[i]?=some u→w.cell? (ad.add (k*2+i))=some u:=fun k hk i u hu=>by
  obtain ⟨c,hl,hk',hcell⟩:=hc k _ (List.getElem?_eq_getElem hk)
  have hk2:=kl_K hk'
  subst hk2
  exact hcell i u hu
 have hs:ad.spot=none:=by
  have:=hx 0 hn 0 _ rfl
  have e0:ad.add (0*2+0)=ad:=by simp[Addr.add]
  rw[e0] at this
  exact cell_plain this
 obtain ⟨b,o,sp⟩:=ad
 simp only at hs
 subst hs
 have e1:∀ k,(⟨b,o,none⟩:Addr).add k=⟨b,o+k,none⟩:=fun k=>by unfold Addr.add;split<;>simp_all
 refine ⟨b,o,rfl,fun k hk=>⟨?_,?_⟩⟩
 ·have:=hx k hk 0 _ rfl
  rwa [e1,Nat.add_zero] at this
 ·have:=hx k hk 1 _ rfl
  rwa [e1,← Nat.add_assoc] at this
def kindB (k:Int):Bool:=decide (k=1) || decide (k=2)
def colsG (p:Option ByteArray):List ColM→Bool
 | []=>true
 | c :: t=>nameB c.name && kindB c.kind && (match p with | none=>true | some q=>lessS q c.name) && colsG (some c.name) t
def colsB (l:List ColM):Bool:=decide (l.length≤12) && colsG none l
def aheadL (l:List ColM) (k:Nat):Option ByteArray:=if k=0 then none else (l[k-1]?).map (·.name)
theorem colsG_at (l:List ColM) (k:Nat) (hk:k<l.length):colsG (aheadL l k) (l.drop k)=(nameB l[k].name && kindB l[k].kind && (match aheadL l k with | none=>true | some q=>lessS q l[k].name) && colsG (aheadL l (k+1)) (l.drop (k+1))):=by
 rw[List.drop_eq_getElem_cons hk,colsG.eq_def]
 dsimp only
 have:aheadL l (k+1)=some l[k].name:=by unfold aheadL;rw[if_neg (by omega),Nat.add_sub_cancel,List.getElem?_eq_getElem hk];rfl
 rw[this]
attribute [local irreducible] wpQuiet
set_option maxHeartbeats 3200000 in
set_option maxRecDepth 100000 in
theorem row_Cols (A:Option Addr) (cap:Nat) (l:List ColM) (w:World) (h:kl.C w A l.length l) :
  Calls Tryz.prog 88 #[.slice A l.length cap] w fun e w'=>e = .returned (.bool (colsB l))∧Below w.heap.size w w':=by
 obtain ⟨r,hr⟩:∃ r,r=colsB l:=⟨_,rfl⟩
 rw[← hr]
 have HR:=mk0 hr
 clear hr
 have HC:=mk0 h
 have hl63:=h.2.1
 clear h
 have HF:=mk0 (fun s W=>row_Name s W)
 by_cases h5:l.length≤12
 case neg=>
  have HS:=mk0 (show r=false by rw[HR.out,colsB,decide_eq_false h5];rfl)
  have h5b:decide ((12:Int)<l.length)=true:=decide_eq_true (by omega)
  have h5c:decide (12<l.length)=true:=decide_eq_true (by omega)
  have HB:=mk0 (Below.refl w.heap.size w)
  go_enter Tryz.func88,Tryz.ntmps88
  go_wp2
  go_ret
  exact ⟨by rw[HS.out];rfl,HB.out⟩
 have h5b:decide ((12:Int)<l.length)=false:=decide_eq_false (by omega)
 have h5c:decide (12<l.length)=false:=decide_eq_false (by omega)
 have HR2:=mk0 (show r=colsG (aheadL l 0) (l.drop 0) by rw[HR.out,colsB,decide_eq_true h5];rfl)
 clear HR
 go_enter Tryz.func88,Tryz.ntmps88
 go_wp2_with fail
 clear h5b h5c
 go_loopw[10] (fun v3 wr=>∃ (k:Nat),k≤l.length∧v3 = .int .i64 k∧Aside0 (r=colsG (aheadL l k) (l.drop k))∧Aside0 (Below w.heap.size w wr)) (fun i _=>l.length-(intOf i).toNat)
 case atStart=>exact ⟨0,by omega,rfl,HR2,⟨Below.refl _ _⟩⟩
 case round=>
  clear HR2
  obtain ⟨k,hk,rfl,HA,HB1⟩:=hrel
  by_cases hlt:k<l.length
  case neg=>
   have HS:=mk0 (show r=true by rw[HA.out,List.drop_eq_nil_of_le (by omega)];rfl)
   have hlt2:¬ (k:Int)<l.length:=by omega
   go_wp2
   go_ret
   exact ⟨by rw[HS.out];rfl,HB1.out⟩
  obtain ⟨b,o,rfl,hx⟩:=kl_open (Kd.C_below HC.out HB1.out) (by omega)
  obtain ⟨z0,z1⟩:=hx k hlt
  have hlt2:(k:Int)<l.length:=by omega
  have HK:=mk0 (colsG_at l k hlt)
  obtain ⟨c,hc⟩:∃ c,c=l[k]:=⟨_,rfl⟩
  rw[← hc] at z0 z1 HK
  clear hc
  have HX:=mk0 hx
  clear hx
  go_wp2_with fail
  obtain ⟨W,hW⟩:∃ W,W=wr.alloc (.cells #[.string c.name,.int .i64 c.kind] 123):=⟨_,rfl⟩
  rw[← hW]
  have BW:Below wr.heap.size wr W:=by rw[hW];exact below_alloc (Below.refl _ _) _
  have hnw:=heap_alloc_new wr (.cells #[.string c.name,.int .i64 c.kind] 123)
  rw[← hW] at hnw
  have HB2:=mk0 (HB1.out.trans (BW.mono HB1.out.size))
  have c0:W.cell? ⟨wr.heap.size,0,none⟩=some (.string c.name):=cell_of_heap (i:=0) hnw rfl
  have c1:W.cell? ⟨wr.heap.size,1,none⟩=some (.int .i64 c.kind):=cell_of_heap (i:=1) hnw rfl
  have hbl:b<wr.heap.size:=World.block_lt_of_cell? wr _ z0
  have HFc:=mk0 (fun W=>(HF.out c.name W).mono (fun e w' h=>(⟨h.1,h.2.symm⟩:e = .returned (.bool (nameB c.name))∧w'=W)))
  clear z0 z1 hnw hW
  cases hf:nameB c.name with
  | false=>
   have HS:=mk0 (show r=false by rw[HA.out,HK.out,hf];rfl)
   rw[hf] at HFc
   clear HX HA HK hf HF
   go_quiet ((go_at_call 142;refine Calls.quiet_of_same (HFc.out _)))
   have HB3:=mk0 (HB2.out.trans ((Drawn0.below (Drawn0.step (Drawn0.refl W) nq)).mono HB2.out.size))
   generalize W.drewN nq=W2 at *
   clear c0 c1
   go_wp2
   go_ret
   exact ⟨by rw[HS.out];rfl,HB3.out⟩
  | true=>
   rw[hf] at HFc
   by_cases hkd:kindB c.kind=true
   case neg=>
    have hkf:kindB c.kind=false:=by simpa using hkd
    have HS:=mk0 (show r=false by rw[HA.out,HK.out,hf,hkf];rfl)
    have k1:(c.kind != 1)=true:=by unfold kindB at hkf;simp at hkf;simp[hkf.1]
    have k2:(c.kind != 2)=true:=by unfold kindB at hkf;simp at hkf;simp[hkf.2]
    clear HX HA HK hf HF hkd hkf
    go_quiet ((go_at_call 142;refine Calls.quiet_of_same (HFc.out _)))
    have HB3:=mk0 (HB2.out.trans ((Drawn0.below (Drawn0.step (Drawn0.refl W) nq)).mono HB2.out.size))
    generalize W.drewN nq=W2 at *
    clear c0 c1
    go_wp2
    go_ret
    exact ⟨by rw[HS.out];rfl,HB3.out⟩
   rcases Nat.eq_zero_or_pos k with rfl | hk0
   ·rcases (show c.kind=1∨c.kind=2 by unfold kindB at hkd;simpa using hkd) with hk1 | hk2
    ·have HS:=mk0 (show r=colsG (aheadL l (0+1)) (l.drop (0+1)) by rw[HA.out,HK.out,hf,hkd];simp[aheadL])
     clear HX HA HK hf HF hkd
     have k1:(c.kind != 1)=false:=by rw[hk1];rfl
     have k2:(c.kind != 2)=true:=by rw[hk1];rfl
     clear hk1
     go_quiet ((go_at_call 142;refine Calls.quiet_of_same (HFc.out _)))
     have HB3:=mk0 (HB2.out.trans ((Drawn0.below (Drawn0.step (Drawn0.refl W) nq)).mono HB2.out.size))
     generalize W.drewN nq=W2 at *
     clear c0 c1 HFc
     go_wp2
     go_roundw
     case rel=>exact ⟨0+1,by omega,by go_num,HS,HB3⟩
     case measure=>simp[intOf];omega
    ·have HS:=mk0 (show r=colsG (aheadL l (0+1)) (l.drop (0+1)) by rw[HA.out,HK.out,hf,hkd];simp[aheadL])
     clear HX HA HK hf HF hkd
     have k1:(c.kind != 1)=true:=by rw[hk2];rfl
     have k2:(c.kind != 2)=false:=by rw[hk2];rfl
     clear hk2
     go_quiet ((go_at_call 142;refine Calls.quiet_of_same (HFc.out _)))
     have HB3:=mk0 (HB2.out.trans ((Drawn0.below (Drawn0.step (Drawn0.refl W) nq)).mono HB2.out.size))
     generalize W.drewN nq=W2 at *
     clear c0 c1 HFc
     go_wp2
     go_roundw
     case rel=>exact ⟨0+1,by omega,by go_num,HS,HB3⟩
     case measure=>simp[intOf];omega
   ·obtain ⟨j,rfl⟩:∃ j,k=j+1:=⟨k-1,by omega⟩
    have p0:=(HX.out j (by omega)).1
    obtain ⟨y,hy⟩:∃ y,y=l[j].name:=⟨_,rfl⟩
    rw[← hy] at p0
    have ep:aheadL l (j+1)=some y:=by unfold aheadL;rw[if_neg (by omega),Nat.add_sub_cancel,List.getElem?_eq_getElem (by omega),hy];rfl
    have e0:W.cell? ⟨b,o+j*2,none⟩=some (.string y):=(BW.cell hbl).trans p0
    have hk1:decide (((j+1:Nat):Int)>0)=true:=decide_eq_true (by omega)
    have hjw:IntKind.i64.wrap (((j+1:Nat):Int)-1)=(j:Int):=by rw[IntWalk.i64_in _ (by omega)];omega
    have hjw2:wrap64 (((j+1:Nat):Int)-1)=(j:Int):=by unfold wrap64;omega
    have hjw3:((j+1:Nat):Int)-1=(j:Int):=by omega
    have hjl:(j:Int)<l.length:=by omega
    have hjw4:IntKind.i64.wrap (j:Int)=(j:Int):=IntWalk.i64_in _ (by omega)
    have hlt3:(j:Int)+1<l.length:=by omega
    have hge3:(0:Int)≤(j:Int)+1:=by omega
    have hto3:((j:Int)+1).toNat=j+1:=by omega
    have hj63:(j:Int)+1<9223372036854775807:=by omega
    rw[ep] at HK
    rcases (show c.kind=1∨c.kind=2 by unfold kindB at hkd;simpa using hkd) with hk1 | hk2
    ·cases hv:lessS y c.name with
     | false=>
      have HS:=mk0 (show r=false by rw[HA.out,ep,HK.out,hf,hkd];show (true && lessS y c.name && _)=_;rw[hv];rfl)
      unfold lessS at hv
      have hv2:(!Op.bytesLess y.toList c.name.toList)=true:=by rw[hv];rfl
      clear HX HA HK hf HF p0 hy ep hv hkd
      have k1:(c.kind != 1)=false:=by rw[hk1];rfl
      have k2:(c.kind != 2)=true:=by rw[hk1];rfl
      clear hk1
      go_quiet ((go_at_call 142;refine Calls.quiet_of_same (HFc.out _)))
      have HB3:=mk0 (HB2.out.trans ((Drawn0.below (Drawn0.step (Drawn0.refl W) nq)).mono HB2.out.size))
      generalize W.drewN nq=W2 at *
      clear c0 c1 e0
      go_wp2
      go_ret
      exact ⟨by rw[HS.out];rfl,HB3.out⟩
     | true=>
      have HS:=mk0 (show r=colsG (aheadL l (j+1+1)) (l.drop (j+1+1)) by rw[HA.out,ep,HK.out,hf,hkd];show (true && lessS y c.name && _)=_;rw[hv];rfl)
      unfold lessS at hv
      have hv2:(!Op.bytesLess y.toList c.name.toList)=false:=by rw[hv];rfl
      clear HX HA HK hf HF p0 hy ep hv hkd
      have k1:(c.kind != 1)=false:=by rw[hk1];rfl
      have k2:(c.kind != 2)=true:=by rw[hk1];rfl
      clear hk1
      go_quiet ((go_at_call 142;refine Calls.quiet_of_same (HFc.out _)))
      have HB3:=mk0 (HB2.out.trans ((Drawn0.below (Drawn0.step (Drawn0.refl W) nq)).mono HB2.out.size))
      generalize W.drewN nq=W2 at *
      clear c0 c1 e0 HFc
      go_wp2
      go_roundw
      case rel=>exact ⟨j+1+1,by omega,by go_num,HS,HB3⟩
      case measure=>simp[intOf];omega
    ·cases hv:lessS y c.name with
     | false=>
      have HS:=mk0 (show r=false by rw[HA.out,ep,HK.out,hf,hkd];show (true && lessS y c.name && _)=_;rw[hv];rfl)
      unfold lessS at hv
      have hv2:(!Op.bytesLess y.toList c.name.toList)=true:=by rw[hv];rfl
      clear HX HA HK hf HF p0 hy ep hv hkd
      have k1:(c.kind != 1)=true:=by rw[hk2];rfl
      have k2:(c.kind != 2)=false:=by rw[hk2];rfl
      clear hk2
      go_quiet ((go_at_call 142;refine Calls.quiet_of_same (HFc.out _)))
      have HB3:=mk0 (HB2.out.trans ((Drawn0.below (Drawn0.step (Drawn0.refl W) nq)).mono HB2.out.size))
      generalize W.drewN nq=W2 at *
      clear c0 c1 e0
      go_wp2
      go_ret
      exact ⟨by rw[HS.out];rfl,HB3.out⟩
     | true=>
      have HS:=mk0 (show r=colsG (aheadL l (j+1+1)) (l.drop (j+1+1)) by rw[HA.out,ep,HK.out,hf,hkd];show (true && lessS y c.name && _)=_;rw[hv];rfl)
      unfold lessS at hv
      have hv2:(!Op.bytesLess y.toList c.name.toList)=false:=by rw[hv];rfl
      clear HX HA HK hf HF p0 hy ep hv hkd
      have k1:(c.kind != 1)=true:=by rw[hk2];rfl
      have k2:(c.kind != 2)=false:=by rw[hk2];rfl
      clear hk2
      go_quiet ((go_at_call 142;refine Calls.quiet_of_same (HFc.out _)))
      have HB3:=mk0 (HB2.out.trans ((Drawn0.below (Drawn0.step (Drawn0.refl W) nq)).mono HB2.out.size))
      generalize W.drewN nq=W2 at *
      clear c0 c1 e0 HFc
      go_wp2
      go_roundw
      case rel=>exact ⟨j+1+1,by omega,by go_num,HS,HB3⟩
      case measure=>simp[intOf];omega
end Go.Proofs.YtpiobnfakmmpdaaGreat.Lib0
namespace Go.Proofs.YtpiobnfakmmpdaaGreat.Lib0
open Go.RowKit Go.Proofs.YtpiobnfakmmpdaaGreatW.PrintWords Go.ChangeMaps
def cmpT (a b:ByteArray):Int:=if lessS a b then -1 else if a=b then 0 else 1
set_option maxHeartbeats 1600000 in
set_option maxRecDepth 100000 in
theorem cmp_T (a b:ByteArray) (w:World):Calls Tryz.prog 146 #[.string a,.string b] w fun e w'=>e = .returned (.int .i64 (cmpT a b))∧w=w':=by
 have HN:=mk0 (fun x W=>isNaN_c x W)
 obtain ⟨z,hz⟩:∃ z,z=cmpT a b:=⟨_,rfl⟩
 rw[← hz]
 have HZ:=mk0 hz
 clear hz
 cases h1:lessS a b with
 | true=>
  have HS:=mk0 (show z = -1 by rw[HZ.out,cmpT,if_pos h1])
  unfold lessS at h1
  go_enter Tryz.func146,Tryz.ntmps146
  go_wp2_with fail
  refine (HN.out _ _).mono ?_
  rintro e w' ⟨rfl,rfl⟩
  go_wp2_with fail
  refine (HN.out _ _).mono ?_
  rintro e w' ⟨rfl,rfl⟩
  go_wp2
  go_ret
  exact ⟨by rw[HS.out];rfl,rfl⟩
 | false=>
  by_cases h2:a=b
  ·have HS:=mk0 (show z=0 by rw[HZ.out,cmpT,if_neg (by simp[h1]),if_pos h2])
   have h3:(a.toList==b.toList)=true:=by rw[h2];simp
   clear h2
   unfold lessS at h1
   go_enter Tryz.func146,Tryz.ntmps146
   go_wp2_with fail
   refine (HN.out _ _).mono ?_
   rintro e w' ⟨rfl,rfl⟩
   go_wp2_with fail
   refine (HN.out _ _).mono ?_
   rintro e w' ⟨rfl,rfl⟩
   go_wp2
   go_ret
   exact ⟨by rw[HS.out];rfl,rfl⟩
  ·have HS:=mk0 (show z=1 by rw[HZ.out,cmpT,if_neg (by simp[h1]),if_neg h2])
   have h3:(a.toList==b.toList)=false:=by rw[beq_eq_false_iff_ne];exact fun h=>h2 (toList_inj h)
   clear h2
   unfold lessS at h1
   go_enter Tryz.func146,Tryz.ntmps146
   go_wp2_with fail
   refine (HN.out _ _).mono ?_
   rintro e w' ⟨rfl,rfl⟩
   go_wp2_with fail
   refine (HN.out _ _).mono ?_
   rintro e w' ⟨rfl,rfl⟩
   go_wp2
   go_ret
   exact ⟨by rw[HS.out];rfl,rfl⟩
set_option maxHeartbeats 1600000 in
set_option maxRecDepth 100000 in
theorem grow_clo (a:ByteArray) (k:Int) (b:ByteArray) (w:World):Calls Tryz.prog 145 #[.agg #[.string a,.int .i64 k],.string b] w fun e w'=>e = .returned (.int .i64 (cmpT a b))∧Below w.heap.size w w':=by
 have HB:=mk0 (below_alloc (Below.refl w.heap.size w) (.cells #[.string a,.int .i64 k] 123))
 have HC:=mk0 (fun W=>cmp_T a b W)
 generalize cmpT a b=z at *
 go_enter Tryz.func145,Tryz.ntmps145
 go_wp2_with fail
 refine (HC.out _).mono ?_
 rintro e w' ⟨rfl,rfl⟩
 go_wp2
 go_ret
 exact ⟨rfl,HB.out⟩
def bsL (d:List ColM) (s:ByteArray):Nat→Nat→Nat→Nat
 | 0,i,_=>i
 | f+1,i,j=>if i<j then (if cmpT ((d[(i+j)/2]?).elim ByteArray.empty (·.name)) s<0 then bsL d s f ((i+j)/2+1) j else bsL d s f i ((i+j)/2)) else i
def atL (d:List ColM) (s:ByteArray):Nat:=bsL d s d.length 0 d.length
def hasL (d:List ColM) (s:ByteArray):Bool:=decide (atL d s<d.length) && decide (cmpT ((d[atL d s]?).elim ByteArray.empty (·.name)) s=0)
theorem bsL_le (d:List ColM) (s:ByteArray):∀ f i j,i≤j→bsL d s f i j≤j
 | 0,i,j,h=>h
 | f+1,i,j,h=>by
  rw[bsL]
  split
  ·split
   ·exact bsL_le d s f _ _ (by omega)
   ·exact Nat.le_trans (bsL_le d s f _ _ (by omega)) (by omega)
  ·exact h
theorem atL_le (d:List ColM) (s:ByteArray):atL d s≤d.length:=bsL_le d s _ _ _ (Nat.zero_le _)
set_option maxHeartbeats 3200000 in
set_option maxRecDepth 100000 in
theorem cols_Search (A:Option Addr) (c:Nat) (d:List ColM) (s:ByteArray) (w:World) (h:kl.C w A d.length d) (hl:d.length≤1099511627776) :
  Calls Tryz.prog 144 #[.slice A d.length c,.string s,.func (.func 145) #[] #[]] w fun e w'=>e = .returned (.tuple #[.int .i64 (atL d s),.bool (hasL d s)])∧Below w.heap.size w w':=by
 have HC:=mk0 h
 have hli:(d.length:Int)≤1099511627776:=by omega
 obtain ⟨p,hp⟩:∃ p,p=atL d s:=⟨_,rfl⟩
 obtain ⟨q,hq⟩:∃ q,q=hasL d s:=⟨_,rfl⟩
 rw[← hp,← hq]
 have HP:=mk0 hp
 have HQ:=mk0 hq
 have HG:=mk0 grow_clo
 clear hp hq h
 go_enter Tryz.func144,Tryz.ntmps144
 go_wp2_with fail
 go_loopw[9,10] (fun v7 v8 wr=>∃ (i j f:Nat),j≤d.length∧i≤d.length∧v7 = .int .i64 i∧v8 = .int .i64 j∧Aside0 (j-i≤f)∧Aside0 (bsL d s f i j=p)∧Aside0 (Below w.heap.size w wr)) (fun i j _=>(intOf j).toNat-(intOf i).toNat)
 case atStart=>exact ⟨0,d.length,d.length,by omega,by omega,rfl,rfl,⟨by omega⟩,⟨HP.out.symm⟩,⟨Below.refl _ _⟩⟩
 case round=>
  obtain ⟨i,j,f,hj,hi,rfl,rfl,HF,HE,HB⟩:=hrel
  by_cases hlt:i<j
  ·have hlti:(i:Int)<j:=by omega
   obtain ⟨f,rfl⟩:∃ f',f=f'+1:=⟨f-1,by have:=HF.out;omega⟩
   obtain ⟨m,hm⟩:∃ m,m=(i+j)/2:=⟨_,rfl⟩
   have hml:m<d.length:=by omega
   have hmi:(m:Int)<d.length:=by omega
   have hmw:((i:Int)+j)/2=(m:Int):=by omega
   have hij:(i:Int)+j≤2199023255552:=by omega
   have hsw:IntKind.u64.wrap ((i:Int)+j)=(i:Int)+j:=by rw[IntKind.wrap_u64];omega
   have hmw2:IntKind.i64.wrap (m:Int)=(m:Int):=IntWalk.i64_in _ (by omega)
   obtain ⟨b,o,rfl,hx⟩:=kl_open (Kd.C_below HC.out HB.out) (by omega)
   obtain ⟨hx1,hx2⟩:=hx m hml
   have HE2:=mk0 (show (if cmpT d[m].name s<0 then bsL d s f (m+1) j else bsL d s f i m)=p by
    have:=HE.out
    rw[bsL,if_pos hlt,← hm,List.getElem?_eq_getElem hml] at this
    exact this)
   have HM:=mk0 (show i≤m∧m<j by omega)
   clear hx hm HE
   have HL:=mk0 (fun W=>HG.out d[m].name d[m].kind s W)
   generalize d[m]=y at *
   generalize hz:cmpT y.name s=z at *
   go_wp2_with fail
   (with_reducible refine (HL.out _).mono ?_)
   rintro e w' ⟨rfl,hb⟩
   have HB2:=mk0 (HB.out.trans (hb.mono HB.out.size))
   clear hb HL hx1 hx2 hz
   by_cases hv:z<0
   ·have HE3:=mk0 HE2.out
    rw[if_pos hv] at HE3
    clear HE2
    go_wp2
    go_roundw
    case rel=>exact ⟨m+1,j,f,by omega,by omega,by go_num,rfl,⟨by have:=HF.out;have:=HM.out;omega⟩,HE3,HB2⟩
    case measure=>have:=HM.out;simp[intOf];omega
   ·have HE3:=mk0 HE2.out
    rw[if_neg hv] at HE3
    clear HE2
    go_wp2
    go_roundw
    case rel=>exact ⟨i,m,f,by omega,by omega,rfl,rfl,⟨by have:=HF.out;have:=HM.out;omega⟩,HE3,HB2⟩
    case measure=>have:=HM.out;simp[intOf];omega
  ·have hlti:¬ (i:Int)<j:=by omega
   have HI:=mk0 (show p=i by
    rw[← HE.out]
    rcases f with _ | f
    ·rfl
    ·rw[bsL,if_neg hlt])
   have HR2:=mk0 (show q=(decide (i<d.length) && decide (cmpT ((d[i]?).elim ByteArray.empty (·.name)) s=0)) by rw[HQ.out];unfold hasL;rw[← HP.out,HI.out])
   clear HE
   by_cases hil:i<d.length
   ·have hili:(i:Int)<d.length:=by omega
    have hd1:decide ((i:Int)<(d.length:Int))=true:=decide_eq_true hili
    obtain ⟨b,o,rfl,hx⟩:=kl_open (Kd.C_below HC.out HB.out) (by omega)
    obtain ⟨hx1,hx2⟩:=hx i hil
    have HR3:=mk0 (show q=decide (cmpT d[i].name s=0) by rw[HR2.out,decide_eq_true hil,List.getElem?_eq_getElem hil,Bool.true_and];exact decide_eq_decide.2 Iff.rfl)
    have HL:=mk0 (fun W=>HG.out d[i].name d[i].kind s W)
    clear hx HR2
    generalize d[i]=y at *
    generalize hz:cmpT y.name s=z at *
    go_wp2_with fail
    (with_reducible refine (HL.out _).mono ?_)
    rintro e w' ⟨rfl,hb⟩
    have HB2:=mk0 (HB.out.trans (hb.mono HB.out.size))
    clear hb HL hx1 hx2 hz
    by_cases hz0:z=0
    ·have HR4:=mk0 (show q=true by rw[HR3.out,decide_eq_true hz0])
     subst hz0
     go_wp2
     go_ret2
     exact ⟨by rw[HR4.out,HI.out];rfl,HB2.out⟩
    ·have HR4:=mk0 (show q=false by rw[HR3.out,decide_eq_false hz0])
     have hzb:(z==0)=false:=by rw[beq_eq_false_iff_ne];exact hz0
     clear hz0
     go_wp2
     go_ret2
     exact ⟨by rw[HR4.out,HI.out];rfl,HB2.out⟩
   ·have hili:¬ (i:Int)<d.length:=by omega
    have hd1:decide ((i:Int)<(d.length:Int))=false:=decide_eq_false hili
    have hd2:decide (i<d.length)=false:=decide_eq_false hil
    have HR3:=mk0 (show q=false by rw[HR2.out,hd2,Bool.false_and])
    go_wp2
    go_ret2
    exact ⟨by rw[HR3.out,HI.out];rfl,HB.out⟩
end Go.Proofs.YtpiobnfakmmpdaaGreat.Lib0

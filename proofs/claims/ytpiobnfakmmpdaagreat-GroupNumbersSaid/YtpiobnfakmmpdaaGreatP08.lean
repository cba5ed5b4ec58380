import Derived.Laws.Cover1
import Derived.Test.YtpiobnfakmmpdaaGreatP07
set_option linter.unusedVariables false
set_option linter.unusedSimpArgs false
namespace Go.Proofs.YtpiobnfakmmpdaaGreat.Lib0
open Go.RowKit Go.Proofs.YtpiobnfakmmpdaaGreatW.PrintWords Go.ChangeMaps
def grpF:Nat→List Nat→Nat→Nat
 | 0,_,e=>e
 | f+1,l,e=>if e<l.length∧sameN (l.drop e)<8 then grpF f l (e+8) else e
def leB (m n:Nat):List UInt8:=(List.range m).map fun k=>UInt8.ofNat (n/2 ^ (8*k))
def padN (l:List Nat) (e:Nat):List Nat:=l.take e++List.replicate (e-l.length) 0
def runsF (wd:Nat):Nat→List Nat→List UInt8
 | 0,_=>[]
 | f+1,l=>
  if l.length=0 then [] else
  if 8≤sameN l then putV (2*sameN l)++leB ((wd+7)/8) (l.getD 0 0)++runsF wd f (l.drop (sameN l))
  else putV (2*grpF l.length l 8/8+1)++packB (padN l (grpF l.length l 8)) wd++runsF wd f (l.drop (grpF l.length l 8))
def runsB (l:List Nat) (wd:Int):List UInt8 × Int:=if wd<0∨32<wd∨wd<widthL l then ([],15) else (runsF wd.toNat l.length l,0)
theorem bitlen_lt:∀ (k n:Nat),bitlen n≤k→n<2 ^ k
 | 0,n,h=>by
  rw[bitlen] at h
  split at h
  ·omega
  ·omega
 | k+1,n,h=>by
  rw[bitlen] at h
  rw[Nat.pow_succ]
  split at h
  ·have:=Nat.two_pow_pos k;omega
  ·have:=bitlen_lt k (n/2) (by omega)
   omega
theorem orF_cons (a:Nat) (l:List Nat):orF (a :: l)=a ||| orF l:=by
 unfold orF
 have:∀ (l:List Nat) (x y:Nat),l.foldl (· ||| ·) (x ||| y)=x ||| l.foldl (· ||| ·) y:=by
  intro l
  induction l with
  | nil=>intro x y;rfl
  | cons b l ih=>intro x y;simp only[List.foldl_cons];rw[Nat.or_assoc,ih]
 simp only[List.foldl_cons]
 rw[show (0 ||| a)=a ||| 0 by rw[Nat.or_comm],this]
theorem orF_pow {l:List Nat} {k:Nat} (h:∀ n ∈ l,n<2 ^ k):orF l<2 ^ k:=by
 induction l with
 | nil=>exact Nat.two_pow_pos k
 | cons a l ih=>rw[orF_cons];exact Nat.or_lt_two_pow (h a (by simp)) (ih (fun n hn=>h n (by simp[hn])))
theorem orF_mem {l:List Nat} {n:Nat} (h:n ∈ l):n≤orF l:=by
 induction l with
 | nil=>simp at h
 | cons a l ih=>
  rw[orF_cons]
  rcases List.mem_cons.1 h with rfl | h
  ·exact Nat.left_le_or
  ·exact Nat.le_trans (ih h) Nat.right_le_or
theorem width_mem {l:List Nat} {wd n:Nat} (h:widthL l≤wd) (hn:n ∈ l):n<2 ^ wd:=Nat.lt_of_le_of_lt (orF_mem hn) (bitlen_lt wd _ h)
theorem width_of {l:List Nat} {wd:Nat} (h:∀ n ∈ l,n<2 ^ wd):widthL l≤wd:=bitlen_le wd _ (orF_pow h)
theorem padN_len (l:List Nat) (e:Nat):(padN l e).length=e:=by
 simp[padN];omega
theorem padN_mem {l:List Nat} {e n:Nat} (h:n ∈ padN l e):n ∈ l∨n=0:=by
 unfold padN at h
 rcases List.mem_append.1 h with h | h
 ·exact .inl (List.mem_of_mem_take h)
 ·exact .inr (List.eq_of_mem_replicate h)
theorem padN_width {l l':List Nat} {e wd:Nat} (h:widthL l'≤wd) (hs:∀ n ∈ l,n ∈ l'):widthL (padN l e)≤wd:=by
 refine width_of fun n hn=>?_
 rcases padN_mem hn with h1 | h1
 ·exact width_mem h (hs n h1)
 ·subst h1;exact Nat.two_pow_pos wd
theorem sameN_le (l:List Nat):sameN l≤l.length:=by
 unfold sameN
 split
 ·simp
 ·exact List.Sublist.length_le (List.takeWhile_sublist _)
theorem v_PutI (A:Option Addr) (c:Nat) (l:List UInt8) (x:Int) (w:World) (h:u8.C w A l.length l) (hl:l.length≤1099511627000) (h0:0≤x) (hx:x<18446744073709551616) :
  Calls Tryz.prog 50 #[.slice A l.length c,.int .u64 x] w (Row 5 w (l++putV x.toNat)):=by
 obtain ⟨n,rfl⟩:=Int.eq_ofNat_of_zero_le h0
 rw[Int.toNat_natCast]
 exact v_Put A c l n w h hl (by omega)
theorem packB_len (l:List Nat) (wd:Nat):(packB l wd).length=sizeB l.length wd:=by unfold packB;rw[packL_len];simp
theorem leB_succ (m n:Nat):leB (m+1) n=leB m n++[UInt8.ofNat (n/2 ^ (8*m))]:=by simp[leB,List.range_succ]
theorem leB_len (m n:Nat):(leB m n).length=m:=by simp[leB]
theorem grpF_ge:∀ (f:Nat) (l:List Nat) (e:Nat),e≤grpF f l e∧grpF f l e≤max e (l.length+8)
 | 0,_,e=>by simp[grpF];omega
 | f+1,l,e=>by
  rw[grpF]
  split
  ·have:=grpF_ge f l (e+8);omega
  ·omega
theorem C_of {α:Type} {d:Kd α} {e:Nat} {w:World} {base n c:Nat} {ok:Nat→Prop} {A:Option Addr} {l:List α} (h:d.R e w base ok (.slice A n c) l):d.C w A l.length l:=by
 obtain ⟨A',c',hv,_,hC⟩:=Kd.R_reads h
 cases hv
 exact hC
theorem R_apart {α:Type} {d:Kd α} {e:Nat} {w w':World} {base:Nat} {ok:Nat→Prop} {u v:Value} {l:List α} (hE:d.E = []) (h:d.R e w base ok v l) (hg:w.grownBy w' u.ownBlock) (hu:∀ k,u.ownBlock=some k→k<base):d.R e w' base ok v l:=
 R_moved hE h (fun k hk=>hg.block k (R_lt h k hk) (fun he=>by have:=R_base h k hk;have:=hu k he.symm;omega))
set_option maxHeartbeats 6400000 in
set_option maxRecDepth 100000 in
theorem runs_Encode (A:Option Addr) (c:Nat) (l:List Nat) (wd:Int) (w:World) (h:kn.C w A l.length l) (hc:l.length≤c) (hu:∀ n ∈ l,U64 n) (hl:l.length≤1048576) :
  Calls Tryz.prog 103 #[.slice A l.length c,.int .i64 wd] w (ToldB 5 w (runsB l wd).1 (runsB l wd).2):=by
 have HW:=mk0 (fun W (hb:Below w.heap.size w W)=>bits_Width A c l W (Kd.C_below h hb) hu)
 have HC:=mk0 h
 have HU:=mk0 hu
 by_cases h1:wd<0∨32<wd∨wd<widthL l
 ·have HF:=mk0 (show runsB l wd=([],15) from if_pos h1)
  rcases h1 with h1 | h1 | h1
  ·have hd1:decide (wd<0)=true:=decide_eq_true h1
   clear h hu hl hc
   go_enter Tryz.func103,Tryz.ntmps103
   go_wp2
   go_ret2
   rw[HF.out]
   exact ⟨_,rfl,Kd.R_nil _ _ _ _ _,Below.refl _ _⟩
  ·have hd1:decide (wd<0)=false:=decide_eq_false (by omega)
   have hd2:decide (32<wd)=true:=decide_eq_true h1
   clear h hu hl hc
   go_enter Tryz.func103,Tryz.ntmps103
   go_wp2
   go_ret2
   rw[HF.out]
   exact ⟨_,rfl,Kd.R_nil _ _ _ _ _,Below.refl _ _⟩
  ·by_cases h2:wd<0
   ·have hd1:decide (wd<0)=true:=decide_eq_true h2
    clear h hu hl hc h1
    go_enter Tryz.func103,Tryz.ntmps103
    go_wp2
    go_ret2
    rw[HF.out]
    exact ⟨_,rfl,Kd.R_nil _ _ _ _ _,Below.refl _ _⟩
   ·by_cases h3:32<wd
    ·have hd1:decide (wd<0)=false:=decide_eq_false (by omega)
     have hd2:decide (32<wd)=true:=decide_eq_true h3
     clear h hu hl hc h1
     go_enter Tryz.func103,Tryz.ntmps103
     go_wp2
     go_ret2
     rw[HF.out]
     exact ⟨_,rfl,Kd.R_nil _ _ _ _ _,Below.refl _ _⟩
    ·have hd1:decide (wd<0)=false:=decide_eq_false (by omega)
     have hd2:decide (32<wd)=false:=decide_eq_false (by omega)
     have hd3:decide (wd<(widthL l:Int))=true:=decide_eq_true h1
     clear h hu hl hc
     generalize widthL l=wl at *
     go_enter Tryz.func103,Tryz.ntmps103
     go_wp2_with fail
     refine (HW.out w (Below.refl _ _)).mono ?_
     rintro e w' ⟨rfl,rfl⟩
     go_wp2
     go_ret2
     rw[HF.out]
     exact ⟨_,rfl,Kd.R_nil _ _ _ _ _,Below.refl _ _⟩
 ·obtain ⟨wd,rfl⟩:∃ n:Nat,wd=n:=⟨wd.toNat,by omega⟩
  have HWD:=mk0 (show widthL l≤wd by omega)
  have HF:Aside0 (runsB l wd=(runsF wd l.length l,0)):=⟨by unfold runsB;rw[if_neg h1,Int.toNat_natCast]⟩
  have hwd:(wd:Int)≤32:=by omega
  have hwd2:wd≤32:=by omega
  have hd1:decide ((wd:Int)<0)=false:=decide_eq_false (by omega)
  have hd2:decide (32<(wd:Int))=false:=decide_eq_false (by omega)
  have hd3:decide ((wd:Int)<(widthL l:Int))=false:=decide_eq_false (by omega)
  have hd4:decide (wd<widthL l)=false:=decide_eq_false (by omega)
  have HLL:=mk0 hl
  have hli:(l.length:Int)≤1048576:=by omega
  clear h hu h1
  obtain ⟨r,hr⟩:∃ r,r=runsF wd l.length l:=⟨_,rfl⟩
  rw[← hr] at HF
  have HR0:=mk0 hr
  clear hr
  generalize hwl:widthL l=wl at *
  have HWL:=mk0 hwl
  clear hwl
  go_enter Tryz.func103,Tryz.ntmps103
  go_wp2_with fail
  refine (HW.out w (Below.refl _ _)).mono ?_
  rintro e w' ⟨rfl,rfl⟩
  go_wp2_with fail
  go_loopw[6,7] (fun v6 v7 wr=>∃ (a:Nat) (acc:List UInt8) (f:Nat),a≤l.length+8∧v7 = .int .i64 a∧Aside0 ((l.drop a).length≤f)∧Aside0 (acc++runsF wd f (l.drop a)=r)∧Aside0 (acc.length≤64*a)∧Aside0 (u8.R 5 wr w.heap.size (fun _=>True) v6 acc)∧Aside0 (Below w.heap.size w wr)) (fun _ i _=>l.length-(intOf i).toNat)
  case atStart=>exact ⟨0,[],l.length,by omega,rfl,⟨by simp⟩,⟨by rw[HR0.out];simp⟩,⟨by simp⟩,⟨Kd.R_nil _ _ _ _ _⟩,⟨Below.refl _ _⟩⟩
  case round=>
   obtain ⟨a,acc,f,ha,rfl,HFL,HE,HAL,HR,HB⟩:=hrel
   by_cases hlt:a<l.length
   ·have hlt2:(a:Int)<l.length:=by omega
    obtain ⟨f,rfl⟩:∃ g,f=g+1:=⟨f-1,by have:=HFL.out;rw[List.length_drop] at this;omega⟩
    go_wp2_with fail
    refine (runs_same A c l a _ (Kd.C_below HC.out HB.out) hlt).mono ?_
    rintro e w1 ⟨rfl,hb1⟩
    have hn:=sameN_le (l.drop a)
    rw[List.length_drop] at hn
    have B1:=mk0 (HB.out.trans (hb1.mono HB.out.size))
    have R1:=mk0 (Kd.R_below HR.out hb1)
    clear hb1 HR HB
    by_cases h8:8≤sameN (l.drop a)
    ·have HE2:Aside0 (acc++(putV (2*sameN (l.drop a))++leB ((wd+7)/8) ((l.drop a).getD 0 0)++runsF wd f ((l.drop a).drop (sameN (l.drop a))))=r):=⟨by
      have:=HE.out
      rw[runsF,if_neg (by rw[List.length_drop];omega),if_pos h8] at this
      exact this⟩
     generalize sameN (l.drop a)=n at *
     have h8i:(8:Int)≤n:=by omega
     have hni:(n:Int)≤1048576:=by omega
     go_wp2_with fail
     refine (v_PutI none 0 [] (2*(n:Int)) _ (u8_nil _) (by simp) (by omega) (by omega)).mono ?_
     rintro e w2 ⟨v2,rfl,hr2,hb2⟩
     have B2:=mk0 (B1.out.trans (hb2.mono B1.out.size))
     have R2:=mk0 (Kd.R_below R1.out hb2)
     rw[List.nil_append,show (2*(n:Int)).toNat=2*n by omega] at hr2
     obtain ⟨A2,c2,rfl,_,hC2⟩:=u8_R_len hr2
     have HC2:=mk0 hC2
     have HP2:=mk0 (putV_len10 (n:=2*n) (by omega))
     clear hr2 hb2 hC2
     obtain ⟨q,hq⟩:∃ q,q=(wd+7)/8:=⟨_,rfl⟩
     have hq1:((wd:Int)+7).tdiv 8=(q:Int):=by rw[Int.tdiv_eq_ediv_of_nonneg (by omega)];omega
     have hq2:((wd:Int)+7)/8=(q:Int):=by omega
     have hq4:q≤4:=by omega
     rw[← hq] at HE2
     clear hq
     obtain ⟨y,hy⟩:∃ y,y=l[a]:=⟨_,rfl⟩
     have e0:(l.drop a).getD 0 0=y:=by rw[hy];simp[List.getD,List.getElem?_drop,List.getElem?_eq_getElem hlt]
     rw[e0] at HE2
     clear e0
     have HY:=mk0 hy
     have HY64:=mk0 (show U64 y by rw[hy];exact HU.out _ (List.getElem_mem hlt))
     clear hy
     generalize putV (2*n)=pv at *
     go_wp2_with (at_builtin;go_loud (refine u8_append (.tmp 35) (.tmp 39) 22 5 u6 acc pv _ _ _ w.heap.size rfl rfl Tryz.underlying22 info_u8 rfl rfl R2.out HC2.out ?c1 ?c2 ?_))
     case c1=>exact B2.out.size
     case c2=>have:=HAL.out;have:=HP2.out;omega
     intro v3 w3 hr3 hb3 _ _
     have R3:=mk0 hr3
     have B3:=mk0 (B2.out.trans hb3)
     clear hr3 hb3
     go_wp2_with fail
     go_loopw[6,44] (fun v6 v44 wq=>∃ (k:Nat) (ak:List UInt8),k≤q∧v44 = .int .i64 k∧Aside0 (ak=acc++pv++leB k y)∧Aside0 (Lib0.u8.R 5 wq w.heap.size (fun _=>True) v6 ak)∧Aside0 (Below w.heap.size w wq)) (fun _ i _=>q-(intOf i).toNat)
     case atStart=>exact ⟨0,_,by omega,rfl,⟨rfl⟩,⟨by simpa [leB] using R3.out⟩,B3⟩
     case round=>
      obtain ⟨k,ak,hk,rfl,HAK,HRk,HBk⟩:=hrel
      by_cases hkq:k<q
      ·have hkqi:(k:Int)<q:=by omega
       obtain ⟨b,o,rfl,hx⟩:=sc_open (Kd.C_below HC.out HBk.out) (by omega)
       have hx1:=hx a hlt
       rw[← HY.out] at hx1
       clear hx
       obtain ⟨A5,c5,rfl,_,_⟩:=u8_R_len HRk.out
       obtain ⟨z,hz⟩:∃ z,z=UInt8.ofNat (y/2 ^ (8*k)):=⟨_,rfl⟩
       have HZ:=mk0 (show (y:Int)/2 ^ (8*k)%256=(z.toNat:Int) by
        rw[hz,UInt8.toNat_ofNat',Int.natCast_emod,Int.natCast_ediv,Int.natCast_pow];rfl)
       have HAK2:=mk0 (show ak++[z]=acc++pv++leB (k+1) y by rw[HAK.out,leB_succ,hz,List.append_assoc (acc++pv)])
       have HLA:=mk0 (show ak.length≤1099511627776 by
        rw[HAK.out,List.length_append,List.length_append,leB_len]
        have:=HAL.out;have:=HP2.out;omega)
       clear hz
       go_wp2_with (at_builtin;go_loud (refine u8_append1 (.tmp 47) (.tmp 56) 22 5 (.slice A5 ak.length c5) ak z _ HZ.out w.heap.size rfl rfl Tryz.underlying22 info_u8 rfl rfl HRk.out HBk.out.size HLA.out ?_))
       intro v4 w4 hr4 hb4 _ _
       have R4:=mk0 hr4
       have B4:=mk0 (HBk.out.trans hb4)
       clear hr4 hb4
       go_wp2
       go_roundw
       case rel=>exact ⟨k+1,_,by omega,by go_num,HAK2,R4,B4⟩
       case measure=>simp[intOf];omega
      ·obtain rfl:k=q:=by omega
       go_wp2
       go_roundw
       case rel=>exact ⟨a+n,ak,f,by omega,by go_num,⟨by have:=HFL.out;rw[List.length_drop] at this ⊢;omega⟩,⟨by have:=HE2.out;rw[HAK.out];rw[List.drop_drop] at this;simpa [List.append_assoc] using this⟩,⟨by rw[HAK.out,List.length_append,List.length_append,leB_len];have:=HAL.out;have:=HP2.out;omega⟩,HRk,HBk⟩
       case measure=>simp[intOf];omega
    ·have h8i:¬ (8:Int)≤sameN (l.drop a):=by omega
     obtain ⟨G,hG⟩:∃ G,G=grpF (l.drop a).length (l.drop a) 8:=⟨_,rfl⟩
     have HE2:Aside0 (acc++(putV (2*G/8+1)++packB (padN (l.drop a) G) wd++runsF wd f ((l.drop a).drop G))=r):=⟨by
      have:=HE.out
      rw[runsF,if_neg (by rw[List.length_drop];omega),if_neg h8,← hG] at this
      exact this⟩
     have HG:=mk0 hG
     clear hG
     generalize sameN (l.drop a)=n at *
     go_wp2_with fail
     go_loopw[10] (fun v10 wq=>∃ (E g:Nat),E≤l.length+8∧v10 = .int .i64 E∧Aside0 (g≤l.length-a∧E=a+8+8*(l.length-a-g))∧Aside0 (G=grpF g (l.drop a) (E-a))∧Aside0 (Below w1.heap.size w1 wq)) (fun i _=>l.length-(intOf i).toNat)
     case atStart=>exact ⟨a+8,l.length-a,by omega,by go_num,⟨by omega⟩,⟨by rw[HG.out,List.length_drop];congr 1;omega⟩,⟨Below.refl _ _⟩⟩
     case round=>
      obtain ⟨E,g,hE,rfl,HEG,HGE,HBq⟩:=hrel
      by_cases hc8:E<l.length∧sameN (l.drop E)<8
      ·obtain ⟨hEl,hs8⟩:=hc8
       have hEli:(E:Int)<l.length:=by omega
       have hdE:decide ((E:Int)<(l.length:Int))=true:=decide_eq_true hEli
       obtain ⟨g,rfl⟩:∃ g',g=g'+1:=⟨g-1,by have:=HEG.out;omega⟩
       have HGE2:=mk0 (show G=grpF g (l.drop a) (E+8-a) by
        rw[HGE.out,grpF,if_pos ⟨by rw[List.length_drop];omega,by rw[List.drop_drop,show a+(E-a)=E by have:=HEG.out;omega];exact hs8⟩]
        congr 1;have:=HEG.out;omega)
       go_wp2_with fail
       refine (runs_same A c l E _ (Kd.C_below HC.out (B1.out.trans (HBq.out.mono B1.out.size))) hEl).mono ?_
       rintro e w5 ⟨rfl,hb5⟩
       have B5:=mk0 (HBq.out.trans (hb5.mono HBq.out.size))
       clear hb5
       generalize sameN (l.drop E)=n2 at *
       have hs8i:(n2:Int)<8:=by omega
       have hd8:decide ((n2:Int)<8)=true:=decide_eq_true hs8i
       go_wp2
       go_roundw
       case rel=>exact ⟨E+8,g,by omega,by go_num,⟨by have:=HEG.out;omega⟩,HGE2,B5⟩
       case measure=>simp[intOf];omega
      ·have hGx:G=E-a:=by
        rw[HGE.out]
        rcases g with _ | g
        ·rfl
        ·rw[grpF,if_neg]
         rw[List.length_drop,List.drop_drop,show a+(E-a)=E by have:=HEG.out;omega]
         exact fun h=>hc8 ⟨by omega,h.2⟩
       have haE:a+8≤E:=by have:=HEG.out;omega
       obtain ⟨ld,hld⟩:∃ ld,ld=l.drop a:=⟨_,rfl⟩
       obtain ⟨pd,hpd⟩:∃ pd,pd=padN ld (E-a):=⟨_,rfl⟩
       have hpl:pd.length=E-a:=by rw[hpd,padN_len]
       have hxE:(E:Int)-a=(pd.length:Int):=by omega
       have HLD:=mk0 (show ld.length=l.length-a by rw[hld,List.length_drop])
       have HPD:=mk0 (show ld.take (min ld.length pd.length)++List.replicate (pd.length-min ld.length pd.length) (0:Nat)=pd by
        conv=>rhs;rw[hpd]
        unfold padN
        rw[hpl]
        congr 1
        ·by_cases hm:ld.length≤E-a
         ·rw[Nat.min_eq_left hm,List.take_of_length_le (Nat.le_refl _),List.take_of_length_le hm]
         ·rw[Nat.min_eq_right (by omega)]
        ·congr 1;omega)
       have HPU:=mk0 (show ∀ n ∈ pd,U64 n by
        intro n hn
        rw[hpd,hld] at hn
        rcases padN_mem hn with h | h
        ·exact HU.out n (List.mem_of_mem_drop h)
        ·subst h;unfold U64;omega)
       have HPW:=mk0 (show widthL pd≤wd by
        rw[hpd,hld]
        exact padN_width (by rw[HWL.out];exact HWD.out) (fun n hn=>List.mem_of_mem_drop hn))
       have HE3:Aside0 (acc++(putV (2*pd.length/8+1)++packB pd wd++runsF wd f (l.drop E))=r):=⟨by
        have:=HE2.out
        rw[hGx,← hpl,← hld] at this
        rw[hld,List.drop_drop,hpl,show a+(E-a)=E by omega,← hld,← hpd] at this
        rw[hpl]
        exact this⟩
       have HPL:=mk0 hpl
       have hpi:(pd.length:Int)≤2097152:=by omega
       have hpi2:(8:Int)≤pd.length:=by omega
       have hmk:=print_make_int (P:=Tryz.prog) 191 117 (.int .u64 0) 8 Tryz.underlying191 info_u64 rfl (by omega) (pd.length:Int) (by omega) (by omega)
       rw[made_nums,Int.toNat_natCast] at hmk
       obtain ⟨A6,c6,hs,hc6,hC6⟩:=sl_drop (P:=Tryz.prog) kn 191 117 .i64 Tryz.underlying191 info_u64 rfl A l c (a:Int) (by omega) (by omega) hc
       rw[Int.toNat_natCast,← hld] at hs hC6
       have HC6:=mk0 hC6
       clear hpd hld hpl hc6 hC6 HGE HE2 hGx
       by_cases hEl:E<l.length
       ·have hEli:(E:Int)<l.length:=by omega
        have hdE:decide ((E:Int)<(l.length:Int))=true:=decide_eq_true hEli
        have hs8:¬ sameN (l.drop E)<8:=fun h=>hc8 ⟨hEl,h⟩
        clear hc8
        go_wp2_with fail
        refine (runs_same A c l E _ (Kd.C_below HC.out (B1.out.trans (HBq.out.mono B1.out.size))) hEl).mono ?_
        rintro e w5 ⟨rfl,hb5⟩
        have B5:=mk0 (HBq.out.trans (hb5.mono HBq.out.size))
        clear hb5
        generalize sameN (l.drop E)=n2 at *
        have hs8i:¬ (n2:Int)<8:=by omega
        have hd8:decide ((n2:Int)<8)=false:=decide_eq_false hs8i
        have BW5:=mk0 (B1.out.trans (B5.out.mono B1.out.size))
        have R5:=mk0 (Kd.R_below R1.out B5.out)
        have HRs:=mk0 (kn_R_lit w5 (List.replicate pd.length (0:Nat)) 117 (by simp;omega))
        rw[List.length_replicate] at HRs
        obtain ⟨ob,hob⟩:∃ ob,ob=Obj.cells ((List.replicate pd.length (0:Nat)).map (fun n:Nat=>Value.int .u64 (n:Int))).toArray 117:=⟨_,rfl⟩
        rw[← hob] at hmk HRs
        clear hob
        go_wp2_with ((refine Kd.R_copy (enc:=fun n:Nat=>Value.int .u64 (n:Int)) (h1:=fun _=>rfl) (w0:=w5) 0 w5.heap.size rfl (.tmp 80) (.tmp 83) 191 191 117 rfl Tryz.underlying191 (by kernel_rfl) (.slice (some ⟨w5.heap.size,0,none⟩) pd.length pd.length) (List.replicate pd.length (0:Nat)) ld _ _ _ (fun _=>True) rfl rfl HRs.out (HC6.out _ (Kd.C_below HC.out (BW5.out.trans ((below_alloc (Below.refl _ _) _).mono BW5.out.size)))) (below_alloc (Below.refl _ _) _) (by simp) ?_))
        intro w6 hr6 hb6 _
        rw[HPD.out] at hr6
        obtain ⟨g6,hg6⟩:∃ g6,g6=w5.heap.size:=⟨_,rfl⟩
        rw[← hg6] at hr6 ⊢
        have HC7:=mk0 (C_of hr6)
        have R6:=mk0 (Kd.R_below R5.out hb6)
        have B6:=mk0 (BW5.out.trans (hb6.mono BW5.out.size))
        clear hr6 hb6 hg6 HRs hmk hs
        go_wp2_with fail
        refine (bits_Pack (some ⟨g6,0,none⟩) pd.length pd wd _ HC7.out HPU.out (by omega) (by omega) HPW.out).mono ?_
        rintro e w7 ⟨v7,rfl,hr7,hb7⟩
        have HLT6:=mk0 (R_lt R6.out)
        have R7:=mk0 (Kd.R_below R6.out hb7)
        have B7:=mk0 (B6.out.trans (hb7.mono B6.out.size))
        obtain ⟨A7,c7,rfl,_,hC7⟩:=u8_R_len hr7
        have HC7b:=mk0 hr7
        have HPB:=mk0 (show (packB pd wd).length≤4*pd.length+1 by
         rw[packB_len];unfold sizeB
         have:=Nat.mul_le_mul_left pd.length hwd2
         omega)
        clear hr7 hb7 hC7
        generalize packB pd wd=pb at *
        go_wp2_with fail
        refine (v_PutI none 0 [] _ _ (u8_nil _) (by simp) ?g1 ?g2).mono ?_
        case g1=>omega
        case g2=>omega
        rintro e w8 ⟨v8,rfl,hr8,hb8⟩
        have B8:=mk0 (B7.out.trans (hb8.mono B7.out.size))
        have R8:=mk0 (Kd.R_below R7.out hb8)
        have HC8:=mk0 (Kd.R_below HC7b.out hb8)
        rw[List.nil_append,show (2*(pd.length:Int)/8+1).toNat=2*pd.length/8+1 by omega] at hr8
        obtain ⟨A8,c8,rfl,_,hC8⟩:=u8_R_len hr8
        have HC9:=mk0 hC8
        have HP2:=mk0 (putV_len10 (n:=2*pd.length/8+1) (by omega))
        clear hr8 hb8 hC8
        generalize putV (2*pd.length/8+1)=pv at *
        go_wp2_with (at_builtin;go_loud (refine u8_append (.tmp 91) (.tmp 98) 22 5 u6 acc pv _ _ _ w.heap.size rfl rfl Tryz.underlying22 info_u8 rfl rfl R8.out HC9.out B8.out.size (by have:=HAL.out;have:=HP2.out;omega) ?_))
        intro v9 w9 hr9 hb9 hg9 _
        have R9:=mk0 hr9
        have B9:=mk0 (B8.out.trans hb9)
        have HC10:=mk0 (C_of (R_apart rfl HC8.out hg9 HLT6.out))
        clear hr9 hb9 hg9
        go_wp2_with (at_builtin;go_loud (refine u8_append (.tmp 100) (.tmp 101) 22 5 v9 (acc++pv) pb _ _ _ w.heap.size rfl rfl Tryz.underlying22 info_u8 rfl rfl R9.out HC10.out B9.out.size (by have:=HAL.out;have:=HP2.out;have:=HPB.out;rw[List.length_append];omega) ?_))
        intro v10 w10 hr10 hb10 _ _
        have R10:=mk0 hr10
        have B10:=mk0 (B9.out.trans hb10)
        clear hr10 hb10
        go_wp2
        go_roundw
        case rel=>exact ⟨E,acc++(pv++pb),f,by omega,rfl,⟨by have:=HFL.out;rw[List.length_drop] at this ⊢;omega⟩,⟨by have:=HE3.out;simpa [List.append_assoc] using this⟩,⟨by rw[List.length_append,List.length_append];have:=HAL.out;have:=HP2.out;have:=HPB.out;have:=HPL.out;omega⟩,R10,B10⟩
        case measure=>simp[intOf];omega
       ·have hEli:¬ (E:Int)<l.length:=by omega
        have hdE:decide ((E:Int)<(l.length:Int))=false:=decide_eq_false hEli
        clear hc8
        have B5:=HBq
        generalize wr=w5 at *
        have BW5:=mk0 (B1.out.trans (B5.out.mono B1.out.size))
        have R5:=mk0 (Kd.R_below R1.out B5.out)
        have HRs:=mk0 (kn_R_lit w5 (List.replicate pd.length (0:Nat)) 117 (by simp;omega))
        rw[List.length_replicate] at HRs
        obtain ⟨ob,hob⟩:∃ ob,ob=Obj.cells ((List.replicate pd.length (0:Nat)).map (fun n:Nat=>Value.int .u64 (n:Int))).toArray 117:=⟨_,rfl⟩
        rw[← hob] at hmk HRs
        clear hob
        go_wp2_with ((refine Kd.R_copy (enc:=fun n:Nat=>Value.int .u64 (n:Int)) (h1:=fun _=>rfl) (w0:=w5) 0 w5.heap.size rfl (.tmp 80) (.tmp 83) 191 191 117 rfl Tryz.underlying191 (by kernel_rfl) (.slice (some ⟨w5.heap.size,0,none⟩) pd.length pd.length) (List.replicate pd.length (0:Nat)) ld _ _ _ (fun _=>True) rfl rfl HRs.out (HC6.out _ (Kd.C_below HC.out (BW5.out.trans ((below_alloc (Below.refl _ _) _).mono BW5.out.size)))) (below_alloc (Below.refl _ _) _) (by simp) ?_))
        intro w6 hr6 hb6 _
        rw[HPD.out] at hr6
        obtain ⟨g6,hg6⟩:∃ g6,g6=w5.heap.size:=⟨_,rfl⟩
        rw[← hg6] at hr6 ⊢
        have HC7:=mk0 (C_of hr6)
        have R6:=mk0 (Kd.R_below R5.out hb6)
        have B6:=mk0 (BW5.out.trans (hb6.mono BW5.out.size))
        clear hr6 hb6 hg6 HRs hmk hs
        go_wp2_with fail
        refine (bits_Pack (some ⟨g6,0,none⟩) pd.length pd wd _ HC7.out HPU.out (by omega) (by omega) HPW.out).mono ?_
        rintro e w7 ⟨v7,rfl,hr7,hb7⟩
        have HLT6:=mk0 (R_lt R6.out)
        have R7:=mk0 (Kd.R_below R6.out hb7)
        have B7:=mk0 (B6.out.trans (hb7.mono B6.out.size))
        obtain ⟨A7,c7,rfl,_,hC7⟩:=u8_R_len hr7
        have HC7b:=mk0 hr7
        have HPB:=mk0 (show (packB pd wd).length≤4*pd.length+1 by
         rw[packB_len];unfold sizeB
         have:=Nat.mul_le_mul_left pd.length hwd2
         omega)
        clear hr7 hb7 hC7
        generalize packB pd wd=pb at *
        go_wp2_with fail
        refine (v_PutI none 0 [] _ _ (u8_nil _) (by simp) ?g1 ?g2).mono ?_
        case g1=>omega
        case g2=>omega
        rintro e w8 ⟨v8,rfl,hr8,hb8⟩
        have B8:=mk0 (B7.out.trans (hb8.mono B7.out.size))
        have R8:=mk0 (Kd.R_below R7.out hb8)
        have HC8:=mk0 (Kd.R_below HC7b.out hb8)
        rw[List.nil_append,show (2*(pd.length:Int)/8+1).toNat=2*pd.length/8+1 by omega] at hr8
        obtain ⟨A8,c8,rfl,_,hC8⟩:=u8_R_len hr8
        have HC9:=mk0 hC8
        have HP2:=mk0 (putV_len10 (n:=2*pd.length/8+1) (by omega))
        clear hr8 hb8 hC8
        generalize putV (2*pd.length/8+1)=pv at *
        go_wp2_with (at_builtin;go_loud (refine u8_append (.tmp 91) (.tmp 98) 22 5 u6 acc pv _ _ _ w.heap.size rfl rfl Tryz.underlying22 info_u8 rfl rfl R8.out HC9.out B8.out.size (by have:=HAL.out;have:=HP2.out;omega) ?_))
        intro v9 w9 hr9 hb9 hg9 _
        have R9:=mk0 hr9
        have B9:=mk0 (B8.out.trans hb9)
        have HC10:=mk0 (C_of (R_apart rfl HC8.out hg9 HLT6.out))
        clear hr9 hb9 hg9
        go_wp2_with (at_builtin;go_loud (refine u8_append (.tmp 100) (.tmp 101) 22 5 v9 (acc++pv) pb _ _ _ w.heap.size rfl rfl Tryz.underlying22 info_u8 rfl rfl R9.out HC10.out B9.out.size (by have:=HAL.out;have:=HP2.out;have:=HPB.out;rw[List.length_append];omega) ?_))
        intro v10 w10 hr10 hb10 _ _
        have R10:=mk0 hr10
        have B10:=mk0 (B9.out.trans hb10)
        clear hr10 hb10
        go_wp2
        go_roundw
        case rel=>exact ⟨E,acc++(pv++pb),f,by omega,rfl,⟨by have:=HFL.out;rw[List.length_drop] at this ⊢;omega⟩,⟨by have:=HE3.out;simpa [List.append_assoc] using this⟩,⟨by rw[List.length_append,List.length_append];have:=HAL.out;have:=HP2.out;have:=HPB.out;have:=HPL.out;omega⟩,R10,B10⟩
        case measure=>simp[intOf];omega
   ·have HFN:=mk0 (show acc=r by
     have:=HE.out
     rw[List.drop_eq_nil_of_le (by omega)] at this
     rcases f with _ | f
     ·simpa [runsF] using this
     ·simpa [runsF] using this)
    have hlt2:¬ (a:Int)<l.length:=by omega
    go_wp2
    go_ret2
    rw[HF.out]
    exact ⟨_,rfl,by rw[← HFN.out];exact HR.out,HB.out⟩
end Go.Proofs.YtpiobnfakmmpdaaGreat.Lib0

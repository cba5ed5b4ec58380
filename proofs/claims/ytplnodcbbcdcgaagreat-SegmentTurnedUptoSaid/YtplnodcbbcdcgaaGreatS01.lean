import Derived.Test.YtplnodcbbcdcgaaGreatP44
import Derived.Test.YtplnodcbbcdcgaaGreatP45
set_option linter.unusedVariables false
set_option linter.unusedSimpArgs false
namespace Go.Proofs.YtplnodcbbcdcgaaGreatW.PrintWords
open Go.RowKit
namespace Kd
def bot {α:Type} (sz:Nat) (E:List Nat):Kd α where
 sz:=sz
 E:=E
 K:=fun _ _ _=>False
 M:=fun _ _ _ _ _=>False
 K_len:=fun h=>h.elim
 K_one:=fun h=>h.elim
 K_below:=fun _ h=>h
 K_of_M:=fun h=>h
 M_mono:=fun _ h=>h
 M_bound:=fun h=>h
 M_move:=fun _ h=>h
 M_lower:=fun _ h=>h
def upto {α:Type} (F:Kd α→Kd α) (sz:Nat) (E:List Nat):Nat→Kd α
 | 0=>bot sz E
 | n+1=>F (upto F sz E n)
end Kd
namespace Kd
end Kd
namespace Kd
end Kd
namespace Kd
end Kd
section
variable {P:Program}
theorem cut_to (t e:TypeId) (kh:IntKind) {i:TypeInfo} (ht:P.underlying t=some (.slice e)) (hi:P.info? e=some i) (A:Option Addr) (n c:Nat) (j:Int) (h0:0≤j) (hm:j≤n) (hc:n≤c) :
  ∀ W:World,(Instr.slice t (.slice A n c) none (some (.int kh j)) none).run P W = .ok (.slice A j.toNat c) W:=by
 intro W
 have hel:P.elem t=e:=by simp[Program.elem,ht]
 have hu:P.underlying t=some (.slice (P.elem t)):=by rw[hel];exact ht
 have ha:(A.map fun x=>x.add 0)=A:=by cases A<;>simp[Addr.add]
 rw[run_slice_h W t A n c hu kh j h0 (by omega),hel]
 simp[sizeOf,typeInfo,hi,sliced,Result.andThen,ha]
end
namespace Kd
end Kd
namespace Kd
end Kd
namespace Kd
end Kd
namespace Kd
end Kd
namespace Kd
end Kd
namespace Kd
end Kd
namespace Kd
end Kd
namespace Kd
end Kd
namespace Kd
end Kd
namespace Kd
end Kd
namespace Kd
end Kd
section
variable {P:Program} {ops:Array Oper} {o:Oper} {a:Act} {Q:Exit→Act→World→Prop} {Kc:Act→World→Prop}
namespace Kd
variable {α:Type}
end Kd
end
namespace Kd
end Kd
end Go.Proofs.YtplnodcbbcdcgaaGreatW.PrintWords
namespace Go.Proofs.YtplnodcbbcdcgaaGreat.Lib0
open Go.RowKit Go.Proofs.YtplnodcbbcdcgaaGreatW.PrintWords
theorem sl_take {α:Type} {P:Program} (d:Kd α) (t e:TypeId) {sz by_:Nat} {z:Option Value} (kl:IntKind) (ht:P.underlying t=some (.slice e)) (hinfo:(P.info? e).map (fun i=>(i.zero,i.size,i.bytes))=some (z,sz,by_)) (hsz:sz=d.sz) (A:Option Addr) (xs:List α) (c:Nat) (m:Int) (h0:0≤m) (hm:m≤xs.length) (hc:xs.length≤c) :
  (∀ W:World,(Instr.slice t (.slice A xs.length c) none (some (.int kl m)) none).run P W = .ok (.slice A (xs.take m.toNat).length c) W)∧(xs.take m.toNat).length≤c∧∀ W,d.C W A xs.length xs→d.C W A (xs.take m.toNat).length (xs.take m.toNat):=by
 obtain ⟨i0,hi,hzz⟩:=Option.map_eq_some_iff.1 hinfo
 obtain ⟨m,rfl⟩:=Int.eq_ofNat_of_zero_le h0
 simp only[Int.toNat_natCast]
 refine ⟨fun W=>?_,by rw[List.length_take];omega,fun W h=>Kd.C_take h (by omega)⟩
 have:=cut_to t e kl ht hi A xs.length c (m:Int) (by omega) (by omega) hc W
 rw[this];simp;omega
end Go.Proofs.YtplnodcbbcdcgaaGreat.Lib0
namespace Go.Proofs.YtplnodcbbcdcgaaGreat.Lib0
open Go.RowKit Go.Proofs.YtplnodcbbcdcgaaGreatW.PrintWords
attribute [local go_sem] u32_all
end Go.Proofs.YtplnodcbbcdcgaaGreat.Lib0
namespace Go.Proofs.YtplnodcbbcdcgaaGreat.Lib0
open Go.RowKit Go.Proofs.YtplnodcbbcdcgaaGreatW.PrintWords
def crcV (v:BitVec 32):BitVec 32:=if v.getLsbD 0 then (v >>> 1) ^^^ 2197175160#32 else v >>> 1
theorem crcV_top (v:BitVec 32):(crcV v).getLsbD 31=v.getLsbD 0:=by
 unfold crcV
 split
 ·rename_i h
  rw[BitVec.getLsbD_xor,BitVec.getLsbD_ushiftRight,BitVec.getLsbD_of_ge v (1+31) (by omega),h]
  decide
 ·rename_i h
  rw[BitVec.getLsbD_ushiftRight,BitVec.getLsbD_of_ge v (1+31) (by omega)]
  exact (by simpa using h:v.getLsbD 0=false).symm
theorem crcV_inj {a b:BitVec 32} (h:crcV a=crcV b):a=b:=by
 have h0:a.getLsbD 0=b.getLsbD 0:=by rw[← crcV_top a,← crcV_top b,h]
 have h1:a >>> 1=b >>> 1:=by
  unfold crcV at h
  rw[h0] at h
  split at h
  ·exact (BitVec.xor_left_inj _).1 h
  ·exact h
 apply BitVec.eq_of_getLsbD_eq
 intro i hi
 rcases i with _ | i
 ·exact h0
 ·have:=congrArg (fun v=>v.getLsbD i) h1
  simp only[BitVec.getLsbD_ushiftRight] at this
  rwa [Nat.add_comm] at this
def crcVs:Nat→BitVec 32→BitVec 32
 | 0,v=>v
 | n+1,v=>crcVs n (crcV v)
theorem crcVs_inj:∀ (n:Nat) {a b:BitVec 32},crcVs n a=crcVs n b→a=b
 | 0,_,_,h=>h
 | n+1,_,_,h=>crcV_inj (crcVs_inj n h)
def crcVf:List UInt8→BitVec 32→BitVec 32
 | [],v=>v
 | b :: l,v=>crcVf l (crcVs 8 (v ^^^ BitVec.ofNat 32 b.toNat))
theorem crcVf_inj:∀ (l:List UInt8) {a b:BitVec 32},crcVf l a=crcVf l b→a=b
 | [],_,_,h=>h
 | x :: l,_,_,h=>(BitVec.xor_left_inj _).1 (crcVs_inj 8 (crcVf_inj l h))
theorem crcVf_append (l m:List UInt8) (v:BitVec 32):crcVf (l++m) v=crcVf m (crcVf l v):=by
 induction l generalizing v with
 | nil=>rfl
 | cons x l ih=>exact ih _
theorem crcVf_turn (p q:List UInt8) (x y:UInt8) (v:BitVec 32) (h:crcVf (p++x :: q) v=crcVf (p++y :: q) v):x=y:=by
 rw[crcVf_append,crcVf_append] at h
 have h1:=crcVs_inj 8 (crcVf_inj q h)
 have h2:=(BitVec.xor_right_inj _).1 h1
 have h3:=congrArg BitVec.toNat h2
 rw[BitVec.toNat_ofNat,BitVec.toNat_ofNat] at h3
 have:=x.toNat_lt
 have:=y.toNat_lt
 exact UInt8.toNat_inj.1 (by omega)
theorem bits_xor_v (a b:BitVec 32):Go.bits .xor .u32 (a.toNat:Int) (b.toNat:Int)=((a ^^^ b).toNat:Int):=by
 unfold Go.bits
 simp only[IntKind.wrap_u32]
 show (((BitVec.ofInt 32 (a.toNat:Int) ^^^ BitVec.ofInt 32 (b.toNat:Int)).toNat:Nat):Int)%4294967296=_
 rw[BitVec.ofInt_natCast,BitVec.ofInt_natCast,BitVec.ofNat_toNat,BitVec.ofNat_toNat,BitVec.setWidth_eq,BitVec.setWidth_eq]
 have:=(a ^^^ b).isLt
 omega
theorem bits_and_1 (a:BitVec 32):Go.bits .and .u32 (a.toNat:Int) 1=((a &&& 1#32).toNat:Int):=by
 unfold Go.bits
 simp only[IntKind.wrap_u32]
 show (((BitVec.ofInt 32 (a.toNat:Int) &&& BitVec.ofInt 32 1).toNat:Nat):Int)%4294967296=_
 rw[BitVec.ofInt_natCast,BitVec.ofNat_toNat,BitVec.setWidth_eq,show BitVec.ofInt 32 1=1#32 from rfl]
 have:=(a &&& 1#32).isLt
 omega
theorem crcBit_v (a:BitVec 32):crcBit (a.toNat:Int)=((crcV a).toNat:Int):=by
 have h1:(a &&& 1#32).toNat=a.toNat%2:=by rw[BitVec.toNat_and];exact Nat.and_one_is_mod _
 have h2:a.getLsbD 0=decide (a.toNat%2=1):=by rw[BitVec.getLsbD];simp[Nat.testBit_zero]
 have h3:(a.toNat:Int)/(2:Int)=((a >>> 1).toNat:Int):=by rw[BitVec.toNat_ushiftRight,Nat.shiftRight_eq_div_pow];omega
 unfold crcBit crcV
 rw[bits_and_1,h1,h2,h3]
 by_cases h:a.toNat%2=1
 ·rw[if_pos (by omega),if_pos (by simpa using h)]
  exact bits_xor_v (a >>> 1) 2197175160#32
 ·rw[if_neg (by omega),if_neg (by simpa using h)]
theorem crcIter_v:∀ (n:Nat) (a:BitVec 32),crcIter n (a.toNat:Int)=((crcVs n a).toNat:Int)
 | 0,_=>rfl
 | n+1,a=>by
  show crcIter n (crcBit _)=_
  rw[crcBit_v,crcIter_v n]
  rfl
theorem crcFold_v:∀ (l:List UInt8) (a:BitVec 32),crcFold l (a.toNat:Int)=((crcVf l a).toNat:Int)
 | [],_=>rfl
 | x :: l,a=>by
  show crcFold l (crcIter 8 (Go.bits .xor .u32 _ _))=_
  have hx:=x.toNat_lt
  have:((x.toNat:Nat):Int)=((BitVec.ofNat 32 x.toNat).toNat:Int):=by rw[BitVec.toNat_ofNat,Nat.mod_eq_of_lt (by omega)]
  rw[this,bits_xor_v,crcIter_v,crcFold_v l]
  rfl
theorem crc_v (l:List UInt8):crc l=((4294967295#32 ^^^ crcVf l 4294967295#32).toNat:Int):=by
 unfold crc
 have h:=crcFold_v l 4294967295#32
 have e:((4294967295#32).toNat:Int)=4294967295:=rfl
 rw[e] at h
 rw[h,← bits_xor_v,e]
theorem crc_turn (p q:List UInt8) (x y:UInt8) (h:crc (p++x :: q)=crc (p++y :: q)):x=y:=by
 rw[crc_v,crc_v] at h
 have h1:(4294967295#32 ^^^ crcVf (p++x :: q) 4294967295#32)=(4294967295#32 ^^^ crcVf (p++y :: q) 4294967295#32):=BitVec.eq_of_toNat_eq (by omega)
 exact crcVf_turn p q x y _ ((BitVec.xor_right_inj _).1 h1)
theorem le4_inj {n m:Nat} (hn:n<4294967296) (hm:m<4294967296) (h:le4 n=le4 m):n=m:=by
 have e1:=un4_le4 n hn
 have e2:=un4_le4 m hm
 simp only[le4,List.cons.injEq] at h
 obtain ⟨g1,g2,g3,g4,_⟩:=h
 rw[← e1,← e2,g1,g2,g3,g4]
theorem sealB_take4 (z:List UInt8):(sealB z).take 4=le4 z.length:=by simp[sealB,le4]
theorem sealB_mid4 (z:List UInt8):((sealB z).drop 4).take 4=le4 (4294967295-z.length):=by simp[sealB,le4]
theorem sealB_body (z:List UInt8):((sealB z).drop 8).take z.length=z:=by simp[sealB,le4]
theorem sealB_sum (z:List UInt8):(sealB z).drop (8+z.length)=le4 (crc z).toNat:=by
 rw[← List.drop_drop];simp[sealB,le4]
theorem stops_turn (x:List UInt8) (hx:x.length≤1048576) (i:Nat) (hi:i<(sealB x).length) (y:UInt8) (hy:y≠(sealB x)[i]) (t:List UInt8):Stops ((sealB x).set i y++t):=by
 refine .inr fun a h=>?_
 obtain ⟨t',h1,_,h3⟩:=openL_ok _ _ h
 generalize (openL ((sealB x).set i y++t) a).1=z at *
 have hsl:((sealB x).set i y).length=x.length+12:=by rw[List.length_set,sealB_len']
 have hlen:x.length=z.length:=by
  by_cases h4:i<4
  ·have h5:=congrArg (fun l=>(l.drop 4).take 4) h1
   simp only[List.drop_append_of_le_length (show 4≤((sealB x).set i y).length by omega),List.drop_append_of_le_length (show 4≤(sealB z).length by rw[sealB_len'];omega)] at h5
   rw[List.take_append_of_le_length (by rw[List.length_drop];omega),List.take_append_of_le_length (by rw[List.length_drop,sealB_len'];omega),List.drop_set_of_lt h4,sealB_mid4,sealB_mid4] at h5
   have:=le4_inj (by omega) (by omega) h5
   omega
  ·have h5:=congrArg (List.take 4) h1
   rw[List.take_append_of_le_length (by omega),List.take_append_of_le_length (by rw[sealB_len'];omega),List.take_set_of_le (by omega),sealB_take4,sealB_take4] at h5
   exact le4_inj (by omega) (by omega) h5
 have hz:(sealB x).set i y=sealB z:=by
  have:=congrArg (List.take (x.length+12)) h1
  rwa [List.take_left' hsl,List.take_left' (by rw[sealB_len',hlen])] at this
 by_cases hc:8≤i∧i<8+x.length
 ·obtain ⟨j,rfl⟩:∃ j,i=8+j:=⟨i-8,by omega⟩
  have hj:j<x.length:=by omega
  have hb:x.set j y=z:=by
   have:=congrArg (fun l=>(l.drop 8).take z.length) hz
   simp only[sealB_body] at this
   rw[List.drop_set,if_neg (by omega),Nat.add_sub_cancel_left,List.take_set,← hlen,sealB_body] at this
   exact this
  have hs:crc x=crc z:=by
   have:=congrArg (List.drop (8+z.length)) hz
   rw[sealB_sum,List.drop_set_of_lt (by omega),← hlen,sealB_sum] at this
   have h1:=crc_range x
   have h2:=crc_range z
   have:=le4_inj (by omega) (by omega) this
   omega
  have hx1:x=x.take j++x[j] :: x.drop (j+1):=by rw[← List.drop_eq_getElem_cons hj,List.take_append_drop]
  have hx2:x.set j y=x.take j++y :: x.drop (j+1):=List.set_eq_take_append_cons_drop .. |>.trans (by rw[if_pos hj])
  rw[← hb,hx2] at hs
  have hs2:crc (x.take j++x[j] :: x.drop (j+1))=crc (x.take j++y :: x.drop (j+1)):=(congrArg crc hx1.symm).trans hs
  have he:=crc_turn (x.take j) (x.drop (j+1)) x[j] y hs2
  apply hy
  have hg:(sealB x)[8+j]?=x[j]?:=by
   have:=congrArg (fun l=>l[j]?) (sealB_body x)
   simp only[List.getElem?_take_of_lt hj,List.getElem?_drop] at this
   exact this
  rw[List.getElem?_eq_getElem hi,List.getElem?_eq_getElem hj] at hg
  injection hg with hg
  rw[hg,he]
 ·have hb:x=z:=by
   have:=congrArg (fun l=>(l.drop 8).take z.length) hz
   simp only[sealB_body] at this
   rw[List.drop_set] at this
   split at this
   ·rw[← hlen,sealB_body] at this;exact this
   ·rw[List.take_set_of_le (by omega),← hlen,sealB_body] at this;exact this
  apply hy
  have:=congrArg (fun l=>l[i]?) hz
  simp only[← hb,List.getElem?_set_self hi,List.getElem?_eq_getElem hi] at this
  injection this
end Go.Proofs.YtplnodcbbcdcgaaGreat.Lib0
namespace Go.Proofs.YtplnodcbbcdcgaaGreat.Lib0
open Go.RowKit Go.Proofs.YtplnodcbbcdcgaaGreatW.PrintWords Go.ChangeMaps
theorem xor_u8 (a b:UInt8):Go.bits .xor .u8 (a.toNat:Int) (b.toNat:Int)=((a ^^^ b).toNat:Int):=by
 have ha:=a.toNat_lt
 have hb:=b.toNat_lt
 unfold Go.bits
 simp only[IntKind.wrap_u8]
 show (((BitVec.ofInt 8 (a.toNat:Int) ^^^ BitVec.ofInt 8 (b.toNat:Int)).toNat:Nat):Int)%256=_
 rw[BitVec.ofInt_natCast,BitVec.ofInt_natCast,BitVec.toNat_xor,BitVec.toNat_ofNat,BitVec.toNat_ofNat,Nat.mod_eq_of_lt ha,Nat.mod_eq_of_lt hb,UInt8.toNat_xor]
 have:a.toNat ^^^ b.toNat<2 ^ 8:=Nat.xor_lt_two_pow ha hb
 omega
theorem tmod_within (n m:Int) (hm:0<m):-m<n.tmod m∧n.tmod m<m∧(n.tmod m<0→n.tmod m+m=n%m)∧(0≤n.tmod m→n.tmod m=n%m):=by
 have h1:=Int.emod_nonneg n (show m≠0 by omega)
 have h2:=Int.emod_lt_of_pos n hm
 rw[Int.tmod_eq_emod]
 split
 ·omega
 ·rename_i h
  have:n%m≠0:=fun h0=>h (.inr (Int.dvd_of_emod_eq_zero h0))
  omega
set_option maxHeartbeats 1600000 in
set_option maxRecDepth 100000 in
theorem book_Within (n hi:Int) (w:World) (hn:-9223372036854775808≤n∧n≤9223372036854775807) (h0:0≤hi) (h1:hi≤1099511627776) :
  Calls Tryz.prog 10 #[.int .i64 n,.int .i64 0,.int .i64 hi] w fun e w'=>e = .returned (.int .i64 (n%(hi+1)))∧w=w':=by
 obtain ⟨ha,hb,hc,hd⟩:=tmod_within n (hi+1) (by omega)
 have HC:=mk0 hc
 have HD:=mk0 hd
 clear hc hd
 go_enter Tryz.func10,Tryz.ntmps10
 go_wp2
 all_goals
  go_ret
  refine ⟨?_,rfl⟩
  have h3:=HC.out
  have h4:=HD.out
  clear HC HD
 ·rw[show n%(hi+1)=n.tmod (hi+1)+hi+1 by omega];rfl
 ·rw[show n%(hi+1)=n.tmod (hi+1) by omega];rfl
end Go.Proofs.YtplnodcbbcdcgaaGreat.Lib0
namespace Go.Proofs.YtplnodcbbcdcgaaGreat.Lib0
open Go.RowKit Go.Proofs.YtplnodcbbcdcgaaGreatW.PrintWords Go.ChangeMaps
end Go.Proofs.YtplnodcbbcdcgaaGreat.Lib0
namespace Go.Proofs.YtplnodcbbcdcgaaGreat.Lib0
open Go.RowKit Go.Proofs.YtplnodcbbcdcgaaGreatW.PrintWords Go.ChangeMaps
theorem putV_inj {n m:Nat} (hn:n≤4096) (hm:m≤4096) (h:putV n=putV m):n=m:=by
 have h1:=getL_put n 0 0 [] (by decide) (by omega) (.inl rfl)
 have h2:=getL_put m 0 0 [] (by decide) (by omega) (.inl rfl)
 rw[h,h2] at h1
 injection h1 with h1
 simpa using h1.symm
theorem recs_head {x y:List UInt8} {l m:List (List UInt8)} {t u:List UInt8} (hx:x.length≤1048576) (hy:y.length≤1048576) (h:recs (x :: l)++t=recs (y :: m)++u):x=y∧recs l++t=recs m++u:=by
 rw[recs_cons,recs_cons,List.append_assoc,List.append_assoc] at h
 have h1:=openL_seal x (recs l++t) 0 hx
 rw[h,openL_seal y (recs m++u) 0 hy] at h1
 injection h1 with h1
 subst h1
 exact ⟨rfl,List.append_cancel_left h⟩
theorem recs_same:∀ {l m:List (List UInt8)} {t u:List UInt8},l.length=m.length→(∀ x ∈ l,x.length≤1048576)→(∀ x ∈ m,x.length≤1048576)→recs l++t=recs m++u→t=u
 | [],[],t,u,_,_,_,h=>h
 | x :: l,y :: m,t,u,hl,h1,h2,h=>by
  obtain ⟨_,h3⟩:=recs_head (h1 x (by simp)) (h2 y (by simp)) h
  exact recs_same (by simpa using hl) (fun z hz=>h1 z (by simp[hz])) (fun z hz=>h2 z (by simp[hz])) h3
theorem segB_more {M N:List RowM} {b c t u:List UInt8} (h:writeS M=(b,0)) (k:writeS N=(c,0)) (hi:∀ r ∈ M,∀ c ∈ r.cs,I64 c.n) (ki:∀ r ∈ N,∀ c ∈ r.cs,I64 c.n) (he:b++t=c++u):t=u:=by
 obtain ⟨h0,h1,h2,rfl⟩:=writeS_ok h
 obtain ⟨k0,k1,k2,rfl⟩:=writeS_ok k
 have e1:=(recs_head (blks_small h2 h1 hi _ (by simp[blks])) (blks_small k2 k1 ki _ (by simp[blks])) (show recs (putV M.length :: (pcs (nP M) M).map (fun m=>bytesM m))++t=recs (putV N.length :: (pcs (nP N) N).map (fun m=>bytesM m))++u from he)).1
 have e2:=putV_inj h1 k1 e1
 refine recs_same (l:=blks M) (m:=blks N) ?_ (blks_small h2 h1 hi) (blks_small k2 k1 ki) he
 unfold blks nP
 rw[List.length_cons,List.length_cons,List.length_map,List.length_map,pcs_len,pcs_len,e2]
theorem segB_none_cut {M:List RowM} {b:List UInt8} (h:writeS M=(b,0)) (hi:∀ r ∈ M,∀ c ∈ r.cs,I64 c.n) (n:Nat) (hn:n<b.length) (N:List RowM) (ki:∀ r ∈ N,∀ c ∈ r.cs,I64 c.n):writeS N≠(b.take n,0):=by
 intro k
 have:=segB_more h k hi ki (t:=[]) (u:=b.drop n) (by rw[List.append_nil,List.take_append_drop])
 have h2:=congrArg List.length this
 rw[List.length_drop] at h2
 simp at h2
 omega
theorem segB_none_more {M:List RowM} {b t:List UInt8} (h:writeS M=(b,0)) (hi:∀ r ∈ M,∀ c ∈ r.cs,I64 c.n) (ht:t≠[]) (N:List RowM) (ki:∀ r ∈ N,∀ c ∈ r.cs,I64 c.n):writeS N≠(b++t,0):=by
 intro k
 exact ht (segB_more h k hi ki (t:=t) (u:=[]) (by rw[List.append_nil]))
theorem recs_split:∀ (l:List (List UInt8)) (i:Nat),i<(recs l).length→∃ p x q,l=p++x :: q∧(recs p).length≤i∧i-(recs p).length<(sealB x).length
 | [],i,h=>absurd h (by simp[recs])
 | x :: l,i,h=>by
  by_cases hi:i<(sealB x).length
  ·exact ⟨[],x,l,rfl,by simp[recs],by simpa [recs] using hi⟩
  ·obtain ⟨p,y,q,h1,h2,h3⟩:=recs_split l (i-(sealB x).length) (by rw[recs_cons,List.length_append] at h;omega)
   refine ⟨x :: p,y,q,by rw[h1];rfl,?_,?_⟩
   ·rw[recs_cons,List.length_append];omega
   ·rw[recs_cons,List.length_append];omega
theorem segB_none_turn {M:List RowM} {b:List UInt8} (h:writeS M=(b,0)) (hi:∀ r ∈ M,∀ c ∈ r.cs,I64 c.n) (i:Nat) (hib:i<b.length) (y:UInt8) (hy:y≠b[i]) (N:List RowM) (ki:∀ r ∈ N,∀ c ∈ r.cs,I64 c.n):writeS N≠(b.set i y,0):=by
 intro k
 obtain ⟨h0,h1,h2,rfl⟩:=writeS_ok h
 obtain ⟨k0,k1,k2,k3⟩:=writeS_ok k
 have hsm:=blks_small h2 h1 hi
 obtain ⟨p,x,q,e1,e2,e3⟩:=recs_split (blks M) i hib
 have hb:segB M=recs p++(sealB x++recs q):=by unfold segB;rw[e1,recs_append,recs_cons]
 have hxm:x ∈ blks M:=by rw[e1];simp
 have hset:(segB M).set i y=recs p++((sealB x).set (i-(recs p).length) y++recs q):=by
  rw[hb,List.set_append_right _ _ e2,List.set_append_left _ _ e3]
 have hyx:y≠(sealB x)[i-(recs p).length]:=by
  intro h9
  apply hy
  have:(segB M)[i]?=(sealB x)[i-(recs p).length]?:=by
   rw[hb,List.getElem?_append_right e2,List.getElem?_append_left e3]
  rw[List.getElem?_eq_getElem hib,List.getElem?_eq_getElem e3] at this
  injection this with this
  rw[this];exact h9
 have hst:=stops_turn x (hsm x hxm) (i-(recs p).length) e3 y hyx (recs q)
 have ha:=allB_recs p (fun z hz=>hsm z (by rw[e1];simp[hz])) _ hst
 rw[← hset,k3] at ha
 have hb2:=allB_whole (blks N) (blks_small k2 k1 ki)
 have hl:=hb2.2
 have hl2:=ha.2
 rw[show recs (blks N)=segB N from rfl] at hl
 rw[hl] at hl2
 have hlen:=congrArg List.length k3
 rw[List.length_set] at hlen
 have:(segB M).length=(recs p).length+((sealB x).length+(recs q).length):=by rw[hb];simp
 omega
theorem openS_I64 {b:List UInt8} {M:List RowM} (h:openS b=some M):∀ r ∈ M,∀ c ∈ r.cs,I64 c.n:=by
 unfold openS at h
 split at h
 ·cases h
 ·split at h
  ·cases h
  ·rename_i N hN
   split at h
   ·injection h with h
    subst h
    exact rowsQ_I64 _ _ hN
   ·cases h
theorem openS_none {b:List UInt8} (h:∀ N,(∀ r ∈ N,∀ c ∈ r.cs,I64 c.n)→writeS N≠(b,0)):openS b=none:=by
 cases ho:openS b with
 | none=>rfl
 | some N=>exact absurd (openS_some ho) (h N (openS_I64 ho))
end Go.Proofs.YtplnodcbbcdcgaaGreat.Lib0
namespace Go.Proofs.YtplnodcbbcdcgaaGreat.Lib0
open Go.RowKit Go.Proofs.YtplnodcbbcdcgaaGreatW.PrintWords Go.ChangeMaps
theorem writeS_pos {M:List RowM} {z:List UInt8} (h:writeS M=(z,0)):0<z.length:=by
 obtain ⟨_,_,_,rfl⟩:=writeS_ok h
 have:=recs_len (blks M)
 rw[blks_len] at this
 show 0<(recs (blks M)).length
 omega
theorem xor_zero8 (a:UInt8):a ^^^ 0=a:=by simp
theorem xor_ne8 {a b:UInt8} (h:b≠0):a ^^^ b≠a:=by
 intro he
 apply h
 have:a ^^^ (a ^^^ b)=a ^^^ a:=by rw[he]
 rw[← UInt8.xor_assoc,UInt8.xor_self,UInt8.zero_xor] at this
 exact this
theorem openS_turn {M:List RowM} {z:List UInt8} (h:writeS M=(z,0)) (hi:∀ r ∈ M,∀ c ∈ r.cs,I64 c.n) (m:Nat) (hm:m<z.length) (t:UInt8):openS (z.set m (z[m] ^^^ t))=if t=0 then some M else none:=by
 by_cases ht:t=0
 ·rw[if_pos ht,ht,xor_zero8,List.set_getElem_self,openS_write h hi]
 ·rw[if_neg ht]
  exact openS_none (fun N hN=>segB_none_turn h hi m hm _ (xor_ne8 ht) N hN)
theorem openS_cut {M:List RowM} {z:List UInt8} (h:writeS M=(z,0)) (hi:∀ r ∈ M,∀ c ∈ r.cs,I64 c.n) (m:Nat) (hm:m<z.length):openS (z.take m)=none:=
 openS_none (fun N hN=>segB_none_cut h hi m hm N hN)
theorem openS_more {M:List RowM} {z:List UInt8} (h:writeS M=(z,0)) (hi:∀ r ∈ M,∀ c ∈ r.cs,I64 c.n) (t:List UInt8):openS (z++t)=if t = [] then some M else none:=by
 by_cases ht:t = []
 ·rw[if_pos ht,ht,List.append_nil,openS_write h hi]
 ·rw[if_neg ht]
  exact openS_none (fun N hN=>segB_none_more h hi ht N hN)
set_option maxHeartbeats 6400000 in
set_option maxRecDepth 100000 in
theorem walk_SegmentTurned (A B:Option Addr) (ca cb:Nat) (H:List RowH) (L:List (List CellM)) (k:Int) (turn:UInt8) (cut:Int) (mo:List UInt8) (w:World) (hH:kr.C w A H.length H) (hL:RowsOn w H L) (hl:H.length≤9223372036854775807) (hc:∀ c ∈ L,c.length≤9223372036854775807) (hk:-9223372036854775808≤k∧k≤9223372036854775807) (hu:-9223372036854775808≤cut∧cut≤9223372036854775807) (hB:u8.C w B mo.length mo) (hmo:mo.length≤1048576) :
  Calls Tryz.prog 3 #[.slice A H.length ca,.int .i64 k,.int .u8 turn.toNat,.int .i64 cut,.slice B mo.length cb] w (TrueEnd w):=by
 have HRI:=mk0 (show Calls Tryz.prog 7 #[.slice A H.length ca,.int .i64 40] w (RisS w (risingM (rowsM H L) (min H.length 40))) from keep_Rising A ca H L 40 w hH hL hl (by decide) hc)
 have HK:=mk0 hk
 have HU:=mk0 hu
 have HB:=mk0 hB
 have HMO:=mk0 hmo
 obtain ⟨n,hn⟩:∃ n,n=min H.length 40:=⟨_,rfl⟩
 rw[← hn] at HRI
 have hn40:n≤40:=by omega
 generalize rowsM H L=M0 at *
 clear hH hL hc hn hk hu hB hmo
 go_enter Tryz.func3,Tryz.ntmps3
 go_wp2_with fail
 (with_reducible refine HRI.out.mono ?_)
 rintro e w1 ⟨H1,L1,A1,c1,rfl,hr1,hrr1,hm1,hb1⟩
 have hH1:H1.length=n:=by
  have:=congrArg List.length hm1
  rw[rowsM_len H1 L1 hrr1.1,risingM_len] at this
  exact this
 have B1:=mk0 hb1
 subst hH1
 by_cases hn0:H1.length=0
 ·obtain rfl:H1 = []:=List.eq_nil_of_length_eq_zero hn0
  have HKN:=mk0 (law17_known w1)
  clear hn0 hr1 hrr1 hm1 hb1 HRI
  go_wp2_with fail
  (with_reducible refine HKN.out.mono ?_)
  rintro e w3 ⟨rfl,hb3⟩
  have B3:=mk0 (B1.out.trans (hb3.mono B1.out.size))
  clear hb3 HKN
  go_wp2
  go_ret
  exact ⟨rfl,B3.out⟩
 have z1:((H1.length:Int)==0)=false:=by rw[beq_eq_false_iff_ne];omega
 have z1':¬ H1 = []:=by rintro rfl;simp at hn0
 obtain ⟨z,hF⟩:=rising_seg M0 H1.length (by omega) (by omega)
 have F:=mk0 hF
 generalize risingM M0 H1.length=M at *
 obtain ⟨_,_,he1,hc1,_⟩:=Kd.R_reads hr1
 cases he1
 have HWA:=mk0 (seg_Write A1 c1 H1 L1 w1 hc1 (C_of hr1) hrr1.on (by rw[hm1];exact hF.i64))
 rw[hm1,hF.wr] at HWA
 have hz0:=writeS_pos hF.wr
 have hzs:=hF.small
 clear hr1 hrr1 hm1 hb1 hc1 hF hn0 HRI
 go_wp2_with fail
 (with_reducible refine HWA.out.mono ?_)
 rintro e w2 ⟨v2,rfl,hr2,hb2⟩
 obtain ⟨A2,c2,rfl,hc2,hC2⟩:=u8_R_len hr2
 have B2:=mk0 (B1.out.trans (hb2.mono B1.out.size))
 have HC2:=mk0 hC2
 have HCC2:=mk0 hc2
 have dz:((z.length:Int)==0)=false:=by rw[beq_eq_false_iff_ne];omega
 have dz':¬ z = []:=by rintro rfl;simp at hz0
 have ba2:=below_alloc (Below.refl w2.heap.size w2) (.cells #[] 5)
 have HCA:=mk0 (Kd.C_below hC2 ba2)
 have HZL:=mk0 (show ([]:List UInt8).length+z.length≤140737488355328 by simp;omega)
 have HE0:=mk0 (R_empty u8 5 w2)
 have HSE:=mk0 ba2.size
 clear hr2 hb2 hC2 hc2 ba2 HWA z1 z1'
 go_wp2_with (at_builtin;go_loud (refine u8_append (W:=w2.alloc (.cells #[] 5)) (.tmp 40) (.tmp 41) 23 5 (.slice (some ⟨w2.heap.size,0,none⟩) 0 0) [] z A2 z.length c2 w2.heap.size rfl rfl Tryz.underlying23 info_u8 rfl rfl HE0.out HCA.out HSE.out HZL.out ?_))
 intro v4 w4 hr4 hb4 hg4 ha4
 obtain ⟨g,c4,rfl,hg,hc4,cur,hh,hcur⟩:=u8_row_open hr4 hz0
 have B24:=mk0 ((below_alloc (Below.refl w2.heap.size w2) (.cells #[] 5)).trans hb4)
 have hz1:wrap64 ((z.length:Int)-1)=z.length-1:=by unfold wrap64;omega
 have HW:=mk0 (book_Within k ((z.length:Int)-1) w4 HK.out (by omega) (by omega))
 rw[Int.sub_add_cancel] at HW
 obtain ⟨m,hm⟩:=Int.eq_ofNat_of_zero_le (Int.emod_nonneg k (show (z.length:Int)≠0 by omega))
 have hml:=Int.emod_lt_of_pos k (show (0:Int)<z.length by omega)
 rw[hm] at HW hml
 clear hm
 have hm2:m<z.length:=by omega
 have hx0:w4.cell? ⟨g,m,none⟩=some (.int .u8 (z[m]).toNat):=cell_of_heap hh (hcur m hm2)
 have hx1:w4.frozen? ⟨g,m,none⟩=false:=frozen_of_heap hh
 have HR5:=mk0 (u8_R_set hr4 m hm2 (z[m] ^^^ turn))
 have hxor:=xor_u8 z[m] turn
 have HZZ:=mk0 (show (z.set m (z[m] ^^^ turn)).length=z.length by simp)
 have HOT:=mk0 (openS_turn F.out.wr F.out.i64 m hm2 turn)
 have p0:(0:Int)≤((z[m] ^^^ turn).toNat:Int):=by omega
 have p1:((z[m] ^^^ turn).toNat:Int)<256:=by have:=(z[m] ^^^ turn).toNat_lt;omega
 generalize z.set m (z[m] ^^^ turn)=z2 at *
 unfold encB at HR5
 generalize z[m] ^^^ turn=tt at *
 generalize z[m]=zm at *
 have HB5:=mk0 (B24.out.setCell (p:=⟨g,m,none⟩) hg (.int .u8 tt.toNat))
 have HOP:=mk0 (show Calls Tryz.prog 11 #[.slice (some ⟨g,0,none⟩) z.length c4] (w4.setCell ⟨g,m,none⟩ (.int .u8 tt.toNat)) (OpenSS (w4.setCell ⟨g,m,none⟩ (.int .u8 tt.toNat)) z2) from by
  have h1:=Kd.R_reads' HR5.out
  have h:=seg_Open (some ⟨g,0,none⟩) c4 z2 (w4.setCell ⟨g,m,none⟩ (.int .u8 tt.toNat)) (by have h2:=C_of HR5.out;exact h2) (by rw[HZZ.out];exact hc4) (by rw[HZZ.out];omega)
  rw[HZZ.out] at h
  exact h)
 clear hr4 hb4 hg4 ha4 hg hc4 hh hcur HCA HE0 HSE HR5 B24
 go_wp2_with fail
 (with_reducible refine HW.out.mono ?_)
 rintro e w5 ⟨rfl,rfl⟩
 go_wp2_with fail
 (with_reducible refine HOP.out.mono ?_)
 generalize w4.setCell ⟨g,m,none⟩ (.int .u8 tt.toNat)=W5 at *
 intro e w6 hop
 clear hx0 hx1 hxor p0 p1 HW HOP
 by_cases ht:turn=0
 ·have ht0:((turn.toNat:Int)==0)=true:=by rw[ht];rfl
  rcases hop with ⟨hnone,_⟩ | ⟨M',PT,sg,hsm,rfl,_,_,hb6⟩
  ·rw[HOT.out,if_pos ht] at hnone;cases hnone
  have B26:=mk0 (HB5.out.trans (hb6.mono HB5.out.size))
  clear hsm hb6 ht HOT HB5
  have HW2:=mk0 (book_Within cut ((z.length:Int)-1) w6 HU.out (by omega) (by omega))
  rw[Int.sub_add_cancel] at HW2
  obtain ⟨q,hq⟩:=Int.eq_ofNat_of_zero_le (Int.emod_nonneg cut (show (z.length:Int)≠0 by omega))
  have hql:=Int.emod_lt_of_pos cut (show (0:Int)<z.length by omega)
  rw[hq] at HW2 hql
  clear hq
  have hq2:q<z.length:=by omega
  have htk:=sl_take (P:=Tryz.prog) u8 23 5 .i64 Tryz.underlying23 info_u8 rfl A2 z c2 q (by omega) (by omega) HCC2.out
  rw[Int.toNat_natCast] at htk
  obtain ⟨hs6,hc6,hC6⟩:=htk
  have HC6:=mk0 (hC6 w6 (Kd.C_below HC2.out B26.out))
  have HTL:=mk0 (show (z.take q).length≤17179869184 by rw[List.length_take];omega)
  have HOP2:=mk0 (seg_Open A2 c2 (z.take q) w6 HC6.out hc6 HTL.out)
  have HON:=mk0 (openS_cut F.out.wr F.out.i64 q hq2)
  generalize z.take q=zt at *
  clear hC6 hql hq2
  go_wp2_with fail
  (with_reducible refine HW2.out.mono ?_)
  rintro e w6' ⟨rfl,rfl⟩
  go_wp2_with fail
  (with_reducible refine HOP2.out.mono ?_)
  intro e w7 hop2
  rcases hop2 with ⟨_,rfl,hb7⟩ | ⟨M',PT',sg',hsm,_⟩
  case inr=>rw[HON.out] at hsm;cases hsm
  have B27:=mk0 (B26.out.trans (hb7.mono B26.out.size))
  have ba7:=below_alloc (Below.refl w7.heap.size w7) (.cells #[] 5)
  have HCA:=mk0 (Kd.C_below HC2.out (B27.out.trans (ba7.mono B27.out.size)))
  have HE0:=mk0 (R_empty u8 5 w7)
  have HSE:=mk0 ba7.size
  have BW7:=mk0 (B2.out.trans (B27.out.mono B2.out.size))
  clear hb7 hs6 hc6 HC6 HTL HOP2 HON HW2 ba7
  go_wp2_with (at_builtin;go_loud (refine u8_append (W:=w7.alloc (.cells #[] 5)) (.tmp 86) (.tmp 87) 23 5 (.slice (some ⟨w7.heap.size,0,none⟩) 0 0) [] z A2 z.length c2 w7.heap.size rfl rfl Tryz.underlying23 info_u8 rfl rfl HE0.out HCA.out HSE.out HZL.out ?_))
  intro v8 w8 hr8 hb8 hg8 ha8
  obtain ⟨A8,c8,rfl⟩:=Kd.R_slice hr8
  have HR8:=mk0 hr8
  have B78:=mk0 ((below_alloc (Below.refl w7.heap.size w7) (.cells #[] 5)).trans hb8)
  have HBM:=mk0 (Kd.C_below HB.out ((BW7.out.trans (B78.out.mono BW7.out.size))))
  have HLM:=mk0 (show z.length+mo.length≤140737488355328 by have:=HMO.out;omega)
  have HS8:=mk0 B78.out.size
  clear hr8 hb8 hg8 ha8 HE0 HCA HSE
  go_wp2_with (at_builtin;go_loud (refine u8_append (W:=w8) (.tmp 88) (.tmp 89) 23 5 (.slice A8 z.length c8) z mo B mo.length cb w7.heap.size rfl rfl Tryz.underlying23 info_u8 rfl rfl HR8.out HBM.out HS8.out HLM.out ?_))
  intro v9 w9 hr9 hb9 hg9 ha9
  obtain ⟨A9,c9,rfl,hc9,hC9⟩:=u8_R_len hr9
  have B79:=mk0 (B78.out.trans hb9)
  have BW9:=mk0 (BW7.out.trans (B79.out.mono BW7.out.size))
  have HOP3:=mk0 (seg_Open A9 c9 (z++mo) w9 hC9 hc9 (by rw[List.length_append];have:=HMO.out;omega))
  rw[List.length_append] at HOP3
  have HOM:=mk0 (openS_more F.out.wr F.out.i64 mo)
  have hml2:(mo.length:Int)≤1048576:=by have:=HMO.out;omega
  clear hr9 hb9 hg9 ha9 hc9 hC9 HR8 HBM HS8
  go_wp2_with fail
  (with_reducible refine HOP3.out.mono ?_)
  intro e w10 hop3
  by_cases hmo0:mo = []
  ·subst hmo0
   rcases hop3 with ⟨hnone,_⟩ | ⟨M',PT',sg',hsm,rfl,_,_,hb10⟩
   ·rw[HOM.out,if_pos rfl] at hnone;cases hnone
   have B10:=mk0 (BW9.out.trans (hb10.mono BW9.out.size))
   have HKN:=mk0 (law17_known w10)
   clear hsm hb10 HOP3 HOM
   go_wp2_with fail
   (with_reducible refine HKN.out.mono ?_)
   rintro e w11 ⟨rfl,hb11⟩
   have B11:=mk0 (B10.out.trans (hb11.mono B10.out.size))
   clear hb11 HKN
   go_wp2
   go_ret
   exact ⟨rfl,B11.out⟩
  ·rcases hop3 with ⟨_,rfl,hb10⟩ | ⟨M',PT',sg',hsm,_⟩
   case inr=>rw[HOM.out,if_neg hmo0] at hsm;cases hsm
   have hm1:((mo.length:Int)==0)=false:=by
    rw[beq_eq_false_iff_ne]
    intro h
    exact hmo0 (List.eq_nil_of_length_eq_zero (by omega))
   have B10:=mk0 (BW9.out.trans (hb10.mono BW9.out.size))
   have HKN:=mk0 (law17_known w10)
   clear hb10 HOP3 HOM
   go_wp2_with fail
   (with_reducible refine HKN.out.mono ?_)
   rintro e w11 ⟨rfl,hb11⟩
   have B11:=mk0 (B10.out.trans (hb11.mono B10.out.size))
   clear hb11 HKN
   go_wp2
   go_ret
   exact ⟨rfl,B11.out⟩
 ·have ht0:((turn.toNat:Int)==0)=false:=by
   rw[beq_eq_false_iff_ne]
   intro h
   exact ht (UInt8.toNat_inj.1 (by simpa using h))
  rcases hop with ⟨_,rfl,hb6⟩ | ⟨M',PT,sg,hsm,_⟩
  case inr=>rw[HOT.out,if_neg ht] at hsm;cases hsm
  have B26:=mk0 (HB5.out.trans (hb6.mono HB5.out.size))
  clear hb6 ht HOT HB5
  have HW2:=mk0 (book_Within cut ((z.length:Int)-1) w6 HU.out (by omega) (by omega))
  rw[Int.sub_add_cancel] at HW2
  obtain ⟨q,hq⟩:=Int.eq_ofNat_of_zero_le (Int.emod_nonneg cut (show (z.length:Int)≠0 by omega))
  have hql:=Int.emod_lt_of_pos cut (show (0:Int)<z.length by omega)
  rw[hq] at HW2 hql
  clear hq
  have hq2:q<z.length:=by omega
  have htk:=sl_take (P:=Tryz.prog) u8 23 5 .i64 Tryz.underlying23 info_u8 rfl A2 z c2 q (by omega) (by omega) HCC2.out
  rw[Int.toNat_natCast] at htk
  obtain ⟨hs6,hc6,hC6⟩:=htk
  have HC6:=mk0 (hC6 w6 (Kd.C_below HC2.out B26.out))
  have HTL:=mk0 (show (z.take q).length≤17179869184 by rw[List.length_take];omega)
  have HOP2:=mk0 (seg_Open A2 c2 (z.take q) w6 HC6.out hc6 HTL.out)
  have HON:=mk0 (openS_cut F.out.wr F.out.i64 q hq2)
  generalize z.take q=zt at *
  clear hC6 hql hq2
  go_wp2_with fail
  (with_reducible refine HW2.out.mono ?_)
  rintro e w6' ⟨rfl,rfl⟩
  go_wp2_with fail
  (with_reducible refine HOP2.out.mono ?_)
  intro e w7 hop2
  rcases hop2 with ⟨_,rfl,hb7⟩ | ⟨M',PT',sg',hsm,_⟩
  case inr=>rw[HON.out] at hsm;cases hsm
  have B27:=mk0 (B26.out.trans (hb7.mono B26.out.size))
  have ba7:=below_alloc (Below.refl w7.heap.size w7) (.cells #[] 5)
  have HCA:=mk0 (Kd.C_below HC2.out (B27.out.trans (ba7.mono B27.out.size)))
  have HE0:=mk0 (R_empty u8 5 w7)
  have HSE:=mk0 ba7.size
  have BW7:=mk0 (B2.out.trans (B27.out.mono B2.out.size))
  clear hb7 hs6 hc6 HC6 HTL HOP2 HON HW2 ba7
  go_wp2_with (at_builtin;go_loud (refine u8_append (W:=w7.alloc (.cells #[] 5)) (.tmp 86) (.tmp 87) 23 5 (.slice (some ⟨w7.heap.size,0,none⟩) 0 0) [] z A2 z.length c2 w7.heap.size rfl rfl Tryz.underlying23 info_u8 rfl rfl HE0.out HCA.out HSE.out HZL.out ?_))
  intro v8 w8 hr8 hb8 hg8 ha8
  obtain ⟨A8,c8,rfl⟩:=Kd.R_slice hr8
  have HR8:=mk0 hr8
  have B78:=mk0 ((below_alloc (Below.refl w7.heap.size w7) (.cells #[] 5)).trans hb8)
  have HBM:=mk0 (Kd.C_below HB.out ((BW7.out.trans (B78.out.mono BW7.out.size))))
  have HLM:=mk0 (show z.length+mo.length≤140737488355328 by have:=HMO.out;omega)
  have HS8:=mk0 B78.out.size
  clear hr8 hb8 hg8 ha8 HE0 HCA HSE
  go_wp2_with (at_builtin;go_loud (refine u8_append (W:=w8) (.tmp 88) (.tmp 89) 23 5 (.slice A8 z.length c8) z mo B mo.length cb w7.heap.size rfl rfl Tryz.underlying23 info_u8 rfl rfl HR8.out HBM.out HS8.out HLM.out ?_))
  intro v9 w9 hr9 hb9 hg9 ha9
  obtain ⟨A9,c9,rfl,hc9,hC9⟩:=u8_R_len hr9
  have B79:=mk0 (B78.out.trans hb9)
  have BW9:=mk0 (BW7.out.trans (B79.out.mono BW7.out.size))
  have HOP3:=mk0 (seg_Open A9 c9 (z++mo) w9 hC9 hc9 (by rw[List.length_append];have:=HMO.out;omega))
  rw[List.length_append] at HOP3
  have HOM:=mk0 (openS_more F.out.wr F.out.i64 mo)
  have hml2:(mo.length:Int)≤1048576:=by have:=HMO.out;omega
  clear hr9 hb9 hg9 ha9 hc9 hC9 HR8 HBM HS8
  go_wp2_with fail
  (with_reducible refine HOP3.out.mono ?_)
  intro e w10 hop3
  by_cases hmo0:mo = []
  ·subst hmo0
   rcases hop3 with ⟨hnone,_⟩ | ⟨M',PT',sg',hsm,rfl,_,_,hb10⟩
   ·rw[HOM.out,if_pos rfl] at hnone;cases hnone
   have B10:=mk0 (BW9.out.trans (hb10.mono BW9.out.size))
   have HKN:=mk0 (law17_known w10)
   clear hsm hb10 HOP3 HOM
   go_wp2_with fail
   (with_reducible refine HKN.out.mono ?_)
   rintro e w11 ⟨rfl,hb11⟩
   have B11:=mk0 (B10.out.trans (hb11.mono B10.out.size))
   clear hb11 HKN
   go_wp2
   go_ret
   exact ⟨rfl,B11.out⟩
  ·rcases hop3 with ⟨_,rfl,hb10⟩ | ⟨M',PT',sg',hsm,_⟩
   case inr=>rw[HOM.out,if_neg hmo0] at hsm;cases hsm
   have hm1:((mo.length:Int)==0)=false:=by
    rw[beq_eq_false_iff_ne]
    intro h
    exact hmo0 (List.eq_nil_of_length_eq_zero (by omega))
   have B10:=mk0 (BW9.out.trans (hb10.mono BW9.out.size))
   have HKN:=mk0 (law17_known w10)
   clear hb10 HOP3 HOM
   go_wp2_with fail
   (with_reducible refine HKN.out.mono ?_)
   rintro e w11 ⟨rfl,hb11⟩
   have B11:=mk0 (B10.out.trans (hb11.mono B10.out.size))
   clear hb11 HKN
   go_wp2
   go_ret
   exact ⟨rfl,B11.out⟩
end Go.Proofs.YtplnodcbbcdcgaaGreat.Lib0
namespace Go.Proofs.YtplnodcbbcdcgaaGreat.Lib0
open Go.RowKit Go.Proofs.YtplnodcbbcdcgaaGreatW.PrintWords Go.ChangeMaps
attribute [local irreducible] wpQuiet
end Go.Proofs.YtplnodcbbcdcgaaGreat.Lib0
namespace Go.Proofs.YtplnodcbbcdcgaaGreat.Lib0
open Go.ChangeShapes Go.WideShapes Go.ChangeAt Go.RowKit
open Go.Proofs.YtplnodcbbcdcgaaGreatW.PrintWords
section
variable {H:Type} {enc:TypeId × Value→H}
set_option maxRecDepth 100000 in
theorem in_bytes {W:World} {v:Value} {d:DataW H} {ps:List MemPlace} {b:Nat} (hv:Value.okWide Tryz.prog W .any b 23 v) (h:DataW.Trod enc Tryz.prog W 0 (fun _=>true) true 23 v d ps) :
  ∃ A c,∃ l:List UInt8,v = .slice A l.length c∧l.length≤c∧u8.C W A l.length l:=by
 obtain ⟨a0,len,cap,rfl⟩:=okWide_slice Tryz.underlying23 hv
 obtain ⟨fuel,hf⟩:=h
 rcases open_ints Tryz.underlying23 Tryz.underlying5 (by kernel_rfl) hf with ⟨hcs,hx⟩ | ⟨a,len',cap',zs,hcs,_,hl,hm,hz,hx,hcell,hws⟩
 ·simp[Value.cells] at hcs
  obtain ⟨rfl,rfl,rfl⟩:=hcs
  exact ⟨none,0,[],rfl,Nat.le_refl _,rfl,by simp,fun h=>absurd h (by simp)⟩
 ·simp[Value.cells] at hcs
  obtain ⟨rfl,rfl,rfl⟩:=hcs
  simp only[if_true] at hz
  have hmx:cap≤9223372036854775807:=by simpa [maxLen] using hm
  have hlen:((zs.take len).map (fun z=>UInt8.ofNat z.toNat)).length=len:=by rw[List.length_map,List.length_take];omega
  refine ⟨some a,cap,(zs.take len).map (fun z=>UInt8.ofNat z.toNat),by rw[hlen],by omega,rfl,by omega,fun _=>⟨a,rfl,fun j p hp=>⟨[encB p],rfl,rfl,fun i u hu=>?_⟩⟩⟩
  have hi:i=0:=by
   rcases i with _ | i
   ·rfl
   ·simp at hu
  subst hi
  simp only[List.getElem?_cons_zero,Option.some.injEq] at hu
  subst hu
  have hj:=(List.getElem?_eq_some_iff.1 hp).1
  have e1:j*u8.sz+0=j:=by show j*1+0=j;omega
  rw[e1,hcell j (by omega)]
  rw[List.getElem?_map,List.getElem?_take_of_lt (by omega),Option.map_eq_some_iff] at hp
  obtain ⟨z,hz1,rfl⟩:=hp
  have hb:=bounds_u8 (hws z (List.mem_of_getElem? hz1))
  have:((UInt8.ofNat z.toNat).toNat:Int)=z:=by rw[UInt8.toNat_ofNat'];omega
  simp only[List.getD,hz1,encB,this,Option.getD_some]
instance:Inhabited CellM:=⟨noCell⟩
instance:Inhabited RowIn:=⟨⟨⟨0,0,none,0,0⟩,[]⟩⟩
end
end Go.Proofs.YtplnodcbbcdcgaaGreat.Lib0

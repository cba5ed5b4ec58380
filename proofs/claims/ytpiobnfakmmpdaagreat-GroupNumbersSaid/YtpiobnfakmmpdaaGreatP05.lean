import Derived.Test.YtpiobnfakmmpdaaGreatP04
set_option linter.unusedVariables false
set_option linter.unusedSimpArgs false
namespace Go.Proofs.YtpiobnfakmmpdaaGreat.Lib0
open Go.RowKit Go.Proofs.YtpiobnfakmmpdaaGreatW.PrintWords Go.ChangeMaps
section
variable {P:Program} {ops:Array Oper} {rest:List Oper} {o:Oper} {a:Act} {Q:Exit→Act→World→Prop}
theorem int_append {W:World} (s x:Operand) (t e:TypeId) (v:Value) (xs:List Int) (p:Int) (base:Nat)
  (hgd:o.guard=none) (ho:o.op = .call { callee:=.builtin .append,args:=#[s,x],argTypes:=#[t,t] })
  (ht:P.underlying t=some (.slice e)) (hinfo:(P.info? e).map (fun i=>(i.zero,i.size,i.bytes))=some (some (.int .i64 0),1,8))
  (hs:a.eval s=v) (hx:a.eval x = .slice (some ⟨W.heap.size,0,none⟩) 1 1)
  (HO:(Kd.int .i64).R e W base (fun _=>True) v xs) (hbase:base≤W.heap.size) (hl:xs.length≤1099511627776)
  (h:∀ v1 w1,(Kd.int .i64).R e w1 base (fun _=>True) v1 (xs++[p])→Below base W w1→W.grownBy w1 v.ownBlock→(v1.ownBlock=v.ownBlock∨∃ b,v1.ownBlock=some b∧W.heap.size≤b)→wpList P ops Q rest (a.put o.dst v1) w1) :
  wpList P ops Q (o :: rest) a (W.alloc (.cells #[.int .i64 p] e)):=
 Kd.R_append (Kd.int .i64) (w0:=W) base hgd s x t e (.int .i64 0) 8 ho ht hinfo rfl (by decide) (by decide) v xs p [.int .i64 p] (fun _=>True) (fun _=>False) hs hx rfl (fun _ hk=>hk.elim) (fun _ _=>trivial)
  HO (Below.refl _ _) hbase (by omega) h
end
def decX (i:Nat) (step x:Int):Int:=if 1<i then wrap64 (x+step) else x
def decL (l:List UInt8):Nat→Nat→Int→Int→Int→List Int→List Int × Int × Int
 | 0,_,_,_,en,acc=>(acc,en,0)
 | m+1,i,last,step,en,acc=>
  if (getA l en).2.2≠0 then ([],0,(getA l en).2.2)
  else decL l m (i+1) (wrap64 (last+decX i step (zag (getA l en).1))) (delS i step (decX i step (zag (getA l en).1))) (endA en (getA l en)) (acc++[wrap64 (last+decX i step (zag (getA l en).1))])
def deltaR (l:List UInt8) (a:Int) (most:Nat):List Int × Int × Int:=
 if (getA l a).2.2≠0 then ([],0,(getA l a).2.2)
 else if most<(getA l a).1 then ([],0,4)
 else decL l (getA l a).1 0 0 0 (endA a (getA l a)) []
def ToldInts (T:TypeId) (w:World) (r:List Int × Int × Int) (e:Ending) (w':World):Prop:=
 ∃ v,e = .returned (.tuple #[v,.int .i64 r.2.1,.int .i64 r.2.2])∧(Kd.int .i64).R T w' w.heap.size (fun _=>True) v r.1∧Below w.heap.size w w'
set_option maxHeartbeats 16000000 in
set_option maxRecDepth 100000 in
theorem delta_Decode (A:Option Addr) (c:Nat) (l:List UInt8) (a:Int) (most:Nat) (w:World) (h:u8.C w A l.length l) (hc:l.length≤c) (hl:l.length≤1073741824) (hm:most≤1073741824) :
  Calls Tryz.prog 58 #[.slice A l.length c,.int .i64 a,.int .i64 most] w (ToldInts 2 w (deltaR l a most)):=by
 have HG:=mk0 (v_GetA A c l a w h hc (by omega))
 have HGZ:=mk0 (fun (W:World) (hb:Below w.heap.size w W) (en:Int)=>v_GetZag A c l en W (Kd.C_below h hb) hc (by omega))
 have HLT:=mk0 (getA_lt l)
 unfold Told3 at HG
 change Aside0 (Calls _ _ _ _ fun e w'=>e = .returned (.tuple #[.int .u64 (getA l a).1,.int .i64 (endA a (getA l a)),.int .i64 (getA l a).2.2])∧w=w') at HG
 have hmost0:(0:Int)≤most:=Int.natCast_nonneg _
 have hwm:IntKind.u64.wrap (most:Int)=(most:Int):=by rw[IntKind.wrap_u64];omega
 have HM:=mk0 hm
 clear h hc hl hm
 unfold deltaR
 obtain ⟨en0,hen0⟩:∃ x,x=endA a (getA l a):=⟨_,rfl⟩
 obtain ⟨n,hn⟩:∃ x,x=(getA l a).1:=⟨_,rfl⟩
 obtain ⟨why,hwhy⟩:∃ x,x=(getA l a).2.2:=⟨_,rfl⟩
 rw[← hen0,← hn,← hwhy] at HG ⊢
 clear hen0 hn hwhy
 by_cases h0:why=0
 ·subst h0
  rw[if_neg (by simp)]
  by_cases h1:most<n
  ·have h1i:(most:Int)<n:=by omega
   rw[if_pos h1]
   go_enter Tryz.func58,Tryz.ntmps58
   go_wp2_with fail
   refine HG.out.mono ?_
   rintro e w' ⟨rfl,rfl⟩
   go_wp2
   go_ret3
   exact ⟨_,rfl,Kd.R_nil _ _ _ _ _,Below.refl _ _⟩
  ·have h1i:¬ (most:Int)<n:=by omega
   rw[if_neg h1]
   have HNB:=mk0 (show n≤1073741824 by have:=HM.out;omega)
   obtain ⟨R,hR⟩:∃ R,R=decL l n 0 0 0 en0 []:=⟨_,rfl⟩
   rw[← hR]
   have HRR:=mk0 hR.symm
   clear hR
   go_enter Tryz.func58,Tryz.ntmps58
   go_wp2_with fail
   refine HG.out.mono ?_
   rintro e w' ⟨rfl,rfl⟩
   go_wp2_with fail
   go_loopw[10,12,13,14,37] (fun v10 v12 v13 v14 v37 wr=>∃ (k m:Nat) (en last step:Int) (out:List Int),Aside0 (k+m=n)∧v10 = .int .i64 en∧v13 = .int .i64 last∧v14 = .int .i64 step∧v37 = .int .u64 k∧Aside0 (decL l m k last step en out=R)∧Aside0 (out.length≤k)∧Aside0 ((Kd.int .i64).R 2 wr w.heap.size (fun _=>True) v12 out)∧Aside0 (Below w.heap.size w wr)) (fun _ _ _ _ i _=>n-(intOf i).toNat)
   case atStart=>exact ⟨0,n,en0,0,0,[],⟨by omega⟩,rfl,rfl,rfl,rfl,HRR,⟨by simp⟩,⟨Kd.R_nil _ _ _ _ _⟩,⟨Below.refl _ _⟩⟩
   case round=>
    obtain ⟨k,m,en,last,step,out,HK,rfl,rfl,rfl,rfl,HE,HO,HR,HB⟩:=hrel
    obtain ⟨A12,c12,rfl,_,_⟩:=Kd.R_reads HR.out
    rcases m with _ | m
    ·have hkn:¬ (k:Int)<n:=by have:=HK.out;omega
     have hkn2:¬ k<n:=by have:=HK.out;omega
     have HS:=mk0 (show R=(out,en,0) by rw[← HE.out,decL])
     go_wp2
     go_ret3
     rw[HS.out]
     exact ⟨_,rfl,HR.out,HB.out⟩
    ·have hkn:(k:Int)<n:=by have:=HK.out;omega
     have hkb:(k:Int)<1073741824:=by have:=HK.out;have:=HNB.out;omega
     have HZ:=mk0 (HGZ.out wr HB.out en)
     rw[decL] at HE
     have HZB:=mk0 (zag_in (HLT.out en).1)
     generalize zag (getA l en).1=z at *
     generalize endA en (getA l en)=en2 at *
     generalize (getA l en).2.2=why at *
     by_cases hw0:why=0
     ·subst hw0
      rw[if_neg (by simp)] at HE
      obtain ⟨x,hxx⟩:∃ x,x=decX k step z:=⟨_,rfl⟩
      obtain ⟨st,hst⟩:∃ st,st=delS k step x:=⟨_,rfl⟩
      obtain ⟨la,hla⟩:∃ la,la=wrap64 (last+x):=⟨_,rfl⟩
      rw[← hxx,← hla,← hst] at HE
      have hcase:(k=0∧x=z∧st=step)∨(k=1∧x=z∧st=x)∨(1<k∧x=wrap64 (z+step)∧st=x):=by
       rcases (show k=0∨k=1∨1<k by omega) with h | h | h
       ·left;subst h;exact ⟨rfl,hxx,hst⟩
       ·right;left;subst h;exact ⟨rfl,hxx,hst⟩
       ·right;right
        exact ⟨h,by rw[hxx,decX,if_pos h],by rw[hst,delS,if_pos (by omega)]⟩
      clear hxx hst
      have hla2:wrap64 (last+x)=la:=hla.symm
      clear hla
      rcases hcase with ⟨hk0,hxx,hst⟩ | ⟨hk0,hxx,hst⟩ | ⟨hk0,hxx,hst⟩
      ·subst hk0 hst hxx
       have hn1:(0:Int)<n:=by omega
       have hn2:0<n:=by omega
       clear hkn hkb
       go_wp2_with fail
       refine HZ.out.mono ?_
       rintro e w' ⟨rfl,rfl⟩
       go_wp2_with (at_builtin;go_loud (refine int_append (.tmp 62) (.tmp 64) 120 2 (.slice A12 out.length c12) out la w.heap.size rfl rfl Tryz.underlying120 info_i64 rfl rfl HR.out HB.out.size ?c1 ?_))
       case c1=>have:=HO.out;have:=HK.out;have:=HNB.out;omega
       intro v5 w5 hr5 hb5 hg5 ha5
       have R5:=mk0 hr5
       have B5:=mk0 (HB.out.trans hb5)
       clear hr5 hb5 hg5 ha5
       go_wp2
       go_roundw
       case rel=>exact ⟨0+1,m,_,_,_,out++[la],⟨by have:=HK.out;omega⟩,rfl,rfl,rfl,by go_num,HE,⟨by rw[List.length_append,List.length_singleton];have:=HO.out;omega⟩,R5,B5⟩
       case measure=>have:=HK.out;simp[intOf];omega
      ·subst hk0 hst hxx
       have hn1:(1:Int)<n:=by omega
       clear hkn hkb
       go_wp2_with fail
       refine HZ.out.mono ?_
       rintro e w' ⟨rfl,rfl⟩
       go_wp2_with (at_builtin;go_loud (refine int_append (.tmp 62) (.tmp 64) 120 2 (.slice A12 out.length c12) out la w.heap.size rfl rfl Tryz.underlying120 info_i64 rfl rfl HR.out HB.out.size ?c1 ?_))
       case c1=>have:=HO.out;have:=HK.out;have:=HNB.out;omega
       intro v5 w5 hr5 hb5 hg5 ha5
       have R5:=mk0 hr5
       have B5:=mk0 (HB.out.trans hb5)
       clear hr5 hb5 hg5 ha5
       go_wp2
       go_roundw
       case rel=>exact ⟨1+1,m,_,_,_,out++[la],⟨by have:=HK.out;omega⟩,rfl,rfl,rfl,by go_num,HE,⟨by rw[List.length_append,List.length_singleton];have:=HO.out;omega⟩,R5,B5⟩
       case measure=>have:=HK.out;simp[intOf];omega
      ·have k1:((k:Int)==0)=false:=by rw[beq_eq_false_iff_ne];omega
       have k2:(1:Int)<k:=by omega
       have k3:(0:Int)<k:=by omega
       have k4:0<k:=by omega
       have k5:¬ k=0:=by omega
       have k6:¬ (k:Int)=0:=by omega
       have hx2:wrap64 (z+step)=x:=hxx.symm
       clear hxx
       subst hst
       go_wp2_with fail
       refine HZ.out.mono ?_
       rintro e w' ⟨rfl,rfl⟩
       go_wp2_with (at_builtin;go_loud (refine int_append (.tmp 62) (.tmp 64) 120 2 (.slice A12 out.length c12) out la w.heap.size rfl rfl Tryz.underlying120 info_i64 rfl rfl HR.out HB.out.size ?c1 ?_))
       case c1=>have:=HO.out;have:=HK.out;have:=HNB.out;omega
       intro v5 w5 hr5 hb5 hg5 ha5
       have R5:=mk0 hr5
       have B5:=mk0 (HB.out.trans hb5)
       clear hr5 hb5 hg5 ha5
       go_wp2
       go_roundw
       case rel=>exact ⟨k+1,m,_,_,_,out++[la],⟨by have:=HK.out;omega⟩,rfl,rfl,rfl,by go_num,HE,⟨by rw[List.length_append,List.length_singleton];have:=HO.out;omega⟩,R5,B5⟩
       case measure=>have:=HK.out;simp[intOf];omega
     ·have h0b:(why==0)=false:=by rw[beq_eq_false_iff_ne];exact hw0
      have h0c:(why != 0)=true:=by simp[bne,h0b]
      rw[if_pos hw0] at HE
      have HS:=mk0 HE.out.symm
      clear hw0 HE
      go_wp2_with fail
      refine HZ.out.mono ?_
      rintro e w' ⟨rfl,rfl⟩
      go_wp2
      go_ret3
      rw[HS.out]
      exact ⟨_,rfl,Kd.R_nil _ _ _ _ _,HB.out⟩
 ·rw[if_pos h0]
  have h0b:(why==0)=false:=by rw[beq_eq_false_iff_ne];exact h0
  have h0c:(why != 0)=true:=by simp[bne,h0b]
  clear h0
  go_enter Tryz.func58,Tryz.ntmps58
  go_wp2_with fail
  refine HG.out.mono ?_
  rintro e w' ⟨rfl,rfl⟩
  go_wp2
  go_ret3
  exact ⟨_,rfl,Kd.R_nil _ _ _ _ _,Below.refl _ _⟩
end Go.Proofs.YtpiobnfakmmpdaaGreat.Lib0
namespace Go.Proofs.YtpiobnfakmmpdaaGreat.Lib0
open Go.RowKit Go.Proofs.YtpiobnfakmmpdaaGreatW.PrintWords Go.ChangeMaps
def kn:Kd Nat:=Kd.scalar (fun n:Nat=>Value.int .u64 (n:Int)) (fun _=>rfl)
def U64 (n:Nat):Prop:=n<18446744073709551616
def orF (l:List Nat):Nat:=l.foldl (· ||| ·) 0
theorem or_lt64 {a b:Nat} (ha:U64 a) (hb:U64 b):U64 (a ||| b):=by
 unfold U64 at *
 have e:(18446744073709551616:Nat)=2 ^ 64:=by decide
 rw[e] at *
 exact Nat.or_lt_two_pow ha hb
theorem orF_lt {l:List Nat} (h:∀ n ∈ l,U64 n):U64 (orF l):=by
 have:∀ (l:List Nat) (a:Nat),U64 a→(∀ n ∈ l,U64 n)→U64 (l.foldl (· ||| ·) a):=by
  intro l
  induction l with
  | nil=>intro a ha _;exact ha
  | cons n l ih=>intro a ha hl;exact ih _ (or_lt64 ha (hl n (by simp))) (fun m hm=>hl m (by simp[hm]))
 exact this l 0 (by unfold U64;omega) h
def bitlen (n:Nat):Nat:=if n=0 then 0 else 1+bitlen (n/2)
termination_by n
decreasing_by omega
theorem bitlen_le:∀ (k n:Nat),n<2 ^ k→bitlen n≤k
 | 0,n,h=>by
  have:n=0:=by simpa using h
  rw[bitlen,if_pos this];omega
 | k+1,n,h=>by
  rw[bitlen]
  split
  ·omega
  ·have:=bitlen_le k (n/2) (by rw[Nat.pow_succ] at h;omega)
   omega
def widthL (l:List Nat):Nat:=bitlen (orF l)
theorem widthL_le {l:List Nat} (h:∀ n ∈ l,U64 n):widthL l≤64:=by
 have h1:=orF_lt h
 have e:(2:Nat) ^ 64=18446744073709551616:=by decide
 exact bitlen_le 64 _ (by rw[e];exact h1)
set_option maxHeartbeats 3200000 in
set_option maxRecDepth 100000 in
theorem bits_Width (A:Option Addr) (c:Nat) (l:List Nat) (w:World) (h:kn.C w A l.length l) (hu:∀ n ∈ l,U64 n) :
  Calls Tryz.prog 153 #[.slice A l.length c] w fun e w'=>e = .returned (.int .i64 (widthL l))∧w=w':=by
 have HC:=mk0 h
 have HU:=mk0 hu
 have hl63:=h.2.1
 clear h hu
 go_enter Tryz.func153,Tryz.ntmps153
 go_wp2_with fail
 go_loopw[3,9] (fun v3 v9 wr=>∃ (k:Nat),k≤l.length∧v3 = .int .u64 (orF (l.take k))∧v9 = .int .i64 k∧wr=w) (fun _ i _=>l.length-(intOf i).toNat)
 case atStart=>exact ⟨0,by omega,by simp[orF],rfl,rfl⟩
 case round=>
  obtain ⟨k,hk,rfl,rfl,rfl⟩:=hrel
  by_cases hlt:k<l.length
  ·obtain ⟨b,o,rfl,hx⟩:=sc_open HC.out (by omega)
   have hx1:=hx k hlt
   have hlt2:(k:Int)<l.length:=by omega
   have ha:=orF_lt (l:=l.take k) (fun n hn=>HU.out n (List.mem_of_mem_take hn))
   have hy:=HU.out l[k] (List.getElem_mem hlt)
   have HT:=mk0 (show orF (l.take (k+1))=orF (l.take k) ||| l[k] by unfold orF;rw[List.take_succ_eq_append_getElem hlt,List.foldl_append];rfl)
   have hor:=or_u64 _ _ ha hy
   clear hx ha hy
   generalize orF (l.take k)=x at *
   generalize l[k]=y at *
   obtain ⟨z,hz⟩:∃ z,z=x ||| y:=⟨_,rfl⟩
   rw[← hz] at hor HT
   clear hz
   go_wp2
   go_roundw
   case rel=>exact ⟨k+1,by omega,by rw[HT.out],by go_num,by first | rfl | trivial⟩
   case measure=>simp[intOf];omega
  ·obtain rfl:k=l.length:=by omega
   rw[List.take_length]
   have HW:=mk0 (orF_lt HU.out)
   have HWL:=mk0 (show bitlen (orF l)=widthL l from rfl)
   have HLE:=mk0 (widthL_le HU.out)
   obtain ⟨q,hq⟩:∃ q,q=widthL l:=⟨_,rfl⟩
   rw[← hq] at HWL HLE
   have HQ:=mk0 hq
   clear hq
   generalize orF l=m0 at *
   go_wp2_with fail
   go_loopw[3,6] (fun v3 v6 wq=>∃ (m j:Nat),v3 = .int .u64 m∧v6 = .int .i64 j∧Aside0 (j+bitlen m=q)∧wq=wr) (fun v _ _=>(intOf v).toNat)
   case atStart=>exact ⟨m0,0,rfl,rfl,⟨by rw[HWL.out];omega⟩,rfl⟩
   case round=>
    obtain ⟨m,j,rfl,rfl,HB,rfl⟩:=hrel
    have hj:(j:Int)≤64:=by have:=HB.out;have:=HLE.out;omega
    by_cases hm:m=0
    ·subst hm
     have HB2:=mk0 (show j=q by have:=HB.out;rw[bitlen,if_pos rfl] at this;omega)
     go_wp2
     go_ret
     exact ⟨by rw[← HQ.out,← HB2.out];rfl,rfl⟩
    ·have hm2:(0:Int)<m:=by omega
     have hm3:0<m:=by omega
     have HB2:=mk0 (show (j+1)+bitlen (m/2)=q by have:=HB.out;rw[bitlen,if_neg hm] at this;omega)
     go_wp2
     go_roundw
     case rel=>exact ⟨m/2,j+1,by first | rfl | (simp;omega) | go_num,by go_num,HB2,by first | rfl | trivial⟩
     case measure=>simp[intOf];omega
theorem takeWhile_len {α:Type} (p:α→Bool):∀ (t:List α) (i:Nat),i≤t.length→(∀ j (hj:j<t.length),j<i→p t[j]=true)→(∀ (hi:i<t.length),p t[i]=false)→(t.takeWhile p).length=i
 | [],i,hi,_,_=>by simp at hi;simp[hi]
 | x :: t,0,_,_,h=>by
  have:=h (by simp)
  simp at this
  simp[List.takeWhile,this]
 | x :: t,i+1,hi,h1,h2=>by
  have hx:=h1 0 (by simp) (by omega)
  simp at hx
  have:=takeWhile_len p t i (by simpa using hi) (fun j hj hji=>by have:=h1 (j+1) (by simp;exact hj) (by omega);simpa using this) (fun hi'=>by have:=h2 (by simp;exact hi');simpa using this)
  simp[List.takeWhile,hx,this]
def sameN (l:List Nat):Nat:=match l with
 | []=>0
 | x :: t=>((x :: t).takeWhile (·==x)).length
theorem sameN_is (l:List Nat) (a k:Nat) (hak:a≤k) (hk:k≤l.length) (ha:a<l.length) (h1:∀ j (hj:j<l.length),a≤j→j<k→l[j]=l[a]) (h2:∀ (hi:k<l.length),l[k]≠l[a]):sameN (l.drop a)=k-a:=by
 rw[List.drop_eq_getElem_cons ha]
 unfold sameN
 simp only
 rw[← List.drop_eq_getElem_cons ha]
 refine takeWhile_len _ _ _ (by rw[List.length_drop];omega) ?_ ?_
 ·intro j hj hjk
  rw[List.length_drop] at hj
  simp only[List.getElem_drop,beq_iff_eq]
  exact h1 (a+j) (by omega) (by omega) (by omega)
 ·intro hi
  rw[List.length_drop] at hi
  simp only[List.getElem_drop,beq_eq_false_iff_ne]
  have:=h2 (by omega)
  have e:a+(k-a)=k:=by omega
  simp only[e]
  exact this
set_option maxHeartbeats 3200000 in
set_option maxRecDepth 100000 in
theorem runs_same (A:Option Addr) (c:Nat) (l:List Nat) (a:Nat) (w:World) (h:kn.C w A l.length l) (ha:a<l.length) :
  Calls Tryz.prog 154 #[.slice A l.length c,.int .i64 a] w fun e w'=>e = .returned (.int .i64 (sameN (l.drop a)))∧Below w.heap.size w w':=by
 have HC:=mk0 h
 have hl63:=h.2.1
 clear h
 obtain ⟨q,hq⟩:∃ q,q=sameN (l.drop a):=⟨_,rfl⟩
 rw[← hq]
 have HQ:=mk0 hq
 clear hq
 go_enter Tryz.func154,Tryz.ntmps154
 go_wp2_with fail
 go_loopw[5] (fun v5 wr=>∃ (k:Nat),a≤k∧k≤l.length∧v5 = .int .i64 k∧Aside0 (∀ j (hj:j<l.length),a≤j→j<k→l[j]=l[a])∧Aside0 (Below w.heap.size w wr)) (fun i _=>l.length-(intOf i).toNat)
 case atStart=>exact ⟨a,by omega,by omega,rfl,⟨fun j hj h1 h2=>by omega⟩,⟨Below.refl _ _⟩⟩
 case round=>
  obtain ⟨k,hak,hk,rfl,HA,HB⟩:=hrel
  by_cases hlt:k<l.length
  ·obtain ⟨b,o,rfl,hx⟩:=sc_open (Kd.C_below HC.out HB.out) (by omega)
   have hx1:=hx k hlt
   have hx2:=hx a ha
   have hlt2:(k:Int)<l.length:=by omega
   have ha2:(a:Int)<l.length:=by omega
   by_cases he:l[k]=l[a]
   ·have HA2:=mk0 (show ∀ j (hj:j<l.length),a≤j→j<k+1→l[j]=l[a] from fun j hj h1 h2=>by
     by_cases hjk:j=k
     ·subst hjk;exact he
     ·exact HA.out j hj h1 (by omega))
    rw[he] at hx1
    obtain ⟨y,hy⟩:∃ y,y=l[a]:=⟨_,rfl⟩
    rw[← hy] at hx1 hx2
    clear hx he hy
    go_wp2
    go_quiet (fail)
    have HB':=mk0 (HB.out.trans ((Drawn0.below (Drawn0.step (Drawn0.refl wr) nq)).mono HB.out.size))
    generalize wr.drewN nq=w2 at *
    go_wp2
    go_roundw
    case rel=>exact ⟨k+1,by omega,by omega,by go_num,HA2,HB'⟩
    case measure=>simp[intOf];omega
   ·have HQ2:=mk0 (show q=k-a by rw[HQ.out];exact sameN_is l a k hak hk ha HA.out (fun _=>he))
    have hbe:((l[k]:Int)==(l[a]:Int))=false:=by rw[beq_eq_false_iff_ne];omega
    have hne2:¬ l[k]=l[a]:=he
    have hne3:¬ (l[k]:Int)=(l[a]:Int):=by omega
    clear hx he
    generalize l[a]=y at *
    generalize l[k]=x at *
    go_wp2
    go_quiet (fail)
    have HB':=mk0 (HB.out.trans ((Drawn0.below (Drawn0.step (Drawn0.refl wr) nq)).mono HB.out.size))
    generalize wr.drewN nq=w2 at *
    go_wp2
    go_ret
    exact ⟨by rw[HQ2.out];first | rfl | (simp;omega),HB'.out⟩
  ·obtain rfl:k=l.length:=by omega
   have HQ2:=mk0 (show q=l.length-a by rw[HQ.out];exact sameN_is l a _ hak (Nat.le_refl _) ha HA.out (fun h=>by omega))
   go_wp2
   go_quiet (fail)
   have HB':=mk0 (HB.out.trans ((Drawn0.below (Drawn0.step (Drawn0.refl wr) nq)).mono HB.out.size))
   generalize wr.drewN nq=w2 at *
   go_wp2
   go_ret
   exact ⟨by rw[HQ2.out];first | rfl | (simp;omega),HB'.out⟩
end Go.Proofs.YtpiobnfakmmpdaaGreat.Lib0
namespace Go.Proofs.YtpiobnfakmmpdaaGreat.Lib0
open Go.RowKit Go.Proofs.YtpiobnfakmmpdaaGreatW.PrintWords Go.ChangeMaps
def sizeB (n w:Nat):Nat:=(n*w+7)/8
set_option maxHeartbeats 1600000 in
set_option maxRecDepth 100000 in
theorem bits_Size (n wd:Nat) (w:World) (hn:n≤16777216) (hw:wd≤64) :
  Calls Tryz.prog 273 #[.int .i64 n,.int .i64 wd] w fun e w'=>e = .returned (.int .i64 (sizeB n wd))∧w=w':=by
 have h1:(n:Int)≤16777216:=by omega
 have h2:(wd:Int)≤64:=by omega
 have h3:(n:Int)*wd≤1073741824:=by
  have:=Nat.mul_le_mul hn hw
  have e:(n:Int)*wd=((n*wd:Nat):Int):=by rw[Int.natCast_mul]
  rw[e];omega
 have h4:(0:Int)≤(n:Int)*wd:=Int.mul_nonneg (by omega) (by omega)
 have hq:((n:Int)*wd+7).tdiv 8=(sizeB n wd:Int):=by
  rw[Int.tdiv_eq_ediv_of_nonneg (by omega)]
  unfold sizeB
  rw[Int.natCast_ediv,Int.natCast_add,Int.natCast_mul]
  rfl
 have hq2:((n:Int)*wd+7)/8=(sizeB n wd:Int):=by rw[← hq,Int.tdiv_eq_ediv_of_nonneg (by omega)]
 go_enter Tryz.func273,Tryz.ntmps273
 go_wp2
 go_ret
 exact ⟨by first | rfl | exact congrArg (fun x=>Ending.returned (.int .i64 x)) hq | exact congrArg (fun x=>Ending.returned (.int .i64 x)) hq2,rfl⟩
def putBit (out:List UInt8) (p:Nat) (n k:Nat):List UInt8:=out.set (p/8) (out.getD (p/8) 0 ||| UInt8.ofNat (n/2 ^ k%2*2 ^ (p%8)))
def packK (n:Nat):Nat→Nat→Nat→List UInt8→List UInt8
 | 0,_,_,out=>out
 | m+1,k,p,out=>packK n m (k+1) (p+1) (putBit out p n k)
def packL (wd:Nat):List Nat→Nat→List UInt8→List UInt8
 | [],_,out=>out
 | n :: l,p,out=>packL wd l (p+wd) (packK n wd 0 p out)
def packB (l:List Nat) (wd:Nat):List UInt8:=packL wd l 0 (List.replicate (sizeB l.length wd) 0)
theorem putBit_len (out:List UInt8) (p n k:Nat):(putBit out p n k).length=out.length:=by simp[putBit]
theorem packK_len (n:Nat):∀ (m k p:Nat) (out:List UInt8),(packK n m k p out).length=out.length
 | 0,_,_,_=>rfl
 | m+1,k,p,out=>by rw[packK,packK_len n m,putBit_len]
theorem packL_len (wd:Nat):∀ (l:List Nat) (p:Nat) (out:List UInt8),(packL wd l p out).length=out.length
 | [],_,_=>rfl
 | n :: l,p,out=>by rw[packL,packL_len wd l,packK_len]
def ToldB (T:TypeId) (w:World) (r:List UInt8) (why:Int) (e:Ending) (w':World):Prop:=
 ∃ v,e = .returned (.tuple #[v,.int .i64 why])∧u8.R T w' w.heap.size (fun _=>True) v r∧Below w.heap.size w w'
set_option maxHeartbeats 6400000 in
set_option maxRecDepth 100000 in
theorem bits_Pack (A:Option Addr) (c:Nat) (l:List Nat) (wd:Nat) (w:World) (h:kn.C w A l.length l) (hu:∀ n ∈ l,U64 n) (hl:l.length≤16777216) (hwd:wd≤64) (hfit:widthL l≤wd) :
  Calls Tryz.prog 155 #[.slice A l.length c,.int .i64 wd] w (ToldB 5 w (packB l wd) 0):=by
 have HC:=mk0 h
 have HU:=mk0 hu
 have HW:=mk0 (fun W (hb:Below w.heap.size w W)=>bits_Width A c l W (Kd.C_below h hb) hu)
 have h1:(l.length:Int)≤16777216:=by omega
 have h2:(wd:Int)≤64:=by omega
 have h3:(l.length:Int)*wd≤1073741824:=by
  have:=Nat.mul_le_mul hl hwd
  have e:(l.length:Int)*wd=((l.length*wd:Nat):Int):=by rw[Int.natCast_mul]
  rw[e];omega
 have h4:(0:Int)≤(l.length:Int)*wd:=Int.mul_nonneg (by omega) (by omega)
 have hq:((l.length:Int)*wd+7).tdiv 8=(sizeB l.length wd:Int):=by
  rw[Int.tdiv_eq_ediv_of_nonneg (by omega)]
  unfold sizeB
  rw[Int.natCast_ediv,Int.natCast_add,Int.natCast_mul]
  rfl
 have hq2:((l.length:Int)*wd+7)/8=(sizeB l.length wd:Int):=by rw[← hq,Int.tdiv_eq_ediv_of_nonneg (by omega)]
 have hfit2:¬ (wd:Int)<(widthL l:Int):=by omega
 have HSZ:=mk0 (show 8*sizeB l.length wd≥l.length*wd∧sizeB l.length wd≤134217729 by
  have:=Nat.mul_le_mul hl hwd
  unfold sizeB;omega)
 obtain ⟨sz,hsz⟩:∃ x,x=sizeB l.length wd:=⟨_,rfl⟩
 have HPB:=mk0 (show packL wd l 0 (List.replicate sz 0)=packB l wd by rw[hsz];rfl)
 rw[← hsz] at hq hq2 HSZ
 have hmk:=print_make_int (P:=Tryz.prog) 22 5 (.int .u8 0) 1 Tryz.underlying22 info_u8 rfl (by omega) (sz:Int) (by omega) (by have:=HSZ.out;omega)
 rw[made_bytes,Int.toNat_natCast] at hmk
 have HR0:=mk0 (R_lit w (List.replicate sz (0:UInt8)) 5 (by simp;have:=HSZ.out;omega))
 rw[List.length_replicate] at HR0
 generalize (List.map encB (List.replicate sz (0:UInt8))).toArray=cs at *
 generalize List.replicate sz (0:UInt8)=out0 at *
 have hd1:decide ((wd:Int)<0)=false:=decide_eq_false (by omega)
 have hd2:decide (64<(wd:Int))=false:=decide_eq_false (by omega)
 have hd3:decide (wd<widthL l)=false:=decide_eq_false (by omega)
 have hd4:decide ((wd:Int)<(widthL l:Int))=false:=decide_eq_false (by omega)
 clear h hu hl hwd hfit hsz
 have hl63:=HC.out.2.1
 generalize widthL l=wl at *
 go_enter Tryz.func155,Tryz.ntmps155
 go_wp2_with fail
 refine (HW.out w (Below.refl _ _)).mono ?_
 rintro e w' ⟨rfl,rfl⟩
 go_wp2_with fail
 obtain ⟨g,hg⟩:∃ g,g=w.heap.size:=⟨_,rfl⟩
 rw[← hg] at HR0 ⊢
 have HG:=mk0 hg
 clear hg hmk hq hq2 hfit2 h3 h4
 have HOL:=mk0 (show out0.length=sz by obtain ⟨A',c',hv,_,hC⟩:=u8_R_len HR0.out;cases hv;exact hC.1)
 go_loopw[7,32] (fun v7 v32 wr=>∃ (k p:Nat) (out:List UInt8),k≤l.length∧v7 = .int .i64 p∧v32 = .int .i64 k∧Aside0 (p=k*wd)∧Aside0 (packL wd (l.drop k) p out=packB l wd)∧Aside0 (out.length=sz)∧Aside0 (u8.R 5 wr g (fun _=>True) (.slice (some ⟨g,0,none⟩) sz sz) out)∧Aside0 (Below g w wr)) (fun _ i _=>l.length-(intOf i).toNat)
 case atStart=>exact ⟨0,0,out0,by omega,rfl,rfl,⟨by simp⟩,HPB,HOL,HR0,⟨by rw[HG.out];exact below_alloc (Below.refl _ _) _⟩⟩
 case round=>
  obtain ⟨k,p,out,hk,rfl,rfl,HP,HE,HO,HR,HB⟩:=hrel
  by_cases hlt:k<l.length
  ·obtain ⟨b,o,rfl,hx⟩:=sc_open (Kd.C_below HC.out (by have:=HB.out;rwa [HG.out] at this)) (by omega)
   have hx1:=hx k hlt
   have hlt2:(k:Int)<l.length:=by omega
   have HN:=mk0 (HU.out l[k] (List.getElem_mem hlt))
   have HPK:=mk0 (show p+wd≤8*sz by
    have h5:=HSZ.out.1
    have h6:=Nat.mul_le_mul_right wd (show k+1≤l.length from hlt)
    rw[Nat.succ_mul] at h6
    have:=HP.out
    omega)
   rw[List.drop_eq_getElem_cons hlt,packL] at HE
   clear hx
   generalize l[k]=n at *
   go_wp2_with fail
   go_loopw[7,37] (fun v7 v37 wq=>∃ (j m q:Nat) (out2:List UInt8),Aside0 (j+m=wd)∧v7 = .int .i64 q∧v37 = .int .i64 j∧Aside0 (q=p+j)∧Aside0 (packL wd (l.drop (k+1)) (p+wd) (packK n m j q out2)=packB l wd)∧Aside0 (out2.length=sz)∧Aside0 (u8.R 5 wq g (fun _=>True) (.slice (some ⟨g,0,none⟩) sz sz) out2)∧Aside0 (Below g w wq)) (fun _ i _=>wd-(intOf i).toNat)
   case atStart=>exact ⟨0,wd,p,out,⟨by omega⟩,rfl,rfl,⟨by omega⟩,HE,HO,HR,HB⟩
   case round=>
    obtain ⟨j,m,q,out2,HJ,rfl,rfl,HQ,HE2,HO2,HR2,HB2⟩:=hrel
    rcases m with _ | m
    ·have hj:¬ (j:Int)<wd:=by have:=HJ.out;omega
     have hj2:¬ j<wd:=by have:=HJ.out;omega
     have HQ2:=mk0 (show q=p+wd by have:=HJ.out;have:=HQ.out;omega)
     have HE3:=mk0 HE2.out
     rw[packK] at HE3
     go_wp2
     go_roundw
     case rel=>exact ⟨k+1,q,out2,by omega,rfl,by go_num,⟨by rw[HQ2.out,HP.out,Nat.succ_mul]⟩,⟨by rw[HQ2.out];exact HE3.out⟩,HO2,HR2,HB2⟩
     case measure=>simp[intOf];omega
    ·have hj:(j:Int)<wd:=by have:=HJ.out;omega
     have hq8:q/8<sz:=by have:=HPK.out;have:=HJ.out;have:=HQ.out;omega
     have hlen:q/8<out2.length:=by rw[HO2.out];exact hq8
     obtain ⟨g',c',hv,hv3,hv4,cur,hh,hcur⟩:=u8_row_open HR2.out (by omega)
     clear hv3 hv4
     simp only[Value.slice.injEq,Option.some.injEq,Addr.mk.injEq,and_true] at hv
     obtain ⟨rfl,hv1,hv2⟩:=hv
     clear hv1 hv2
     have hcc:=hcur (q/8) hlen
     have hx0:wr.cell? ⟨g,q/8,none⟩=some (encB out2[q/8]):=cell_of_heap hh hcc
     have hxf:wr.frozen? ⟨g,q/8,none⟩=false:=frozen_of_heap hh
     unfold encB at hx0
     clear hcc hh hcur
     have hqw:IntKind.i64.wrap ((q:Int)/8)=((q/8:Nat):Int):=by rw[IntWalk.i64_in _ (by have:=HSZ.out;omega)];omega
     have hqm:(q:Int).tmod 8=((q%8:Nat):Int):=by rw[Int.tmod_eq_emod_of_nonneg (by omega)];omega
     have hqb:(q:Int)<1099511627776:=by have:=HSZ.out;have:=HPK.out;have:=HJ.out;have:=HQ.out;omega
     have HPB2:=mk0 (show putBit out2 q n j=out2.set (q/8) (out2[q/8] ||| UInt8.ofNat (n/2 ^ j%2*2 ^ (q%8))) by simp[putBit,List.getD,List.getElem?_eq_getElem hlen])
     have HSET:=mk0 (fun W (hr:u8.R 5 W g (fun _=>True) (.slice (some ⟨g,0,none⟩) sz sz) out2) (x:UInt8)=>u8_R_set hr (q/8) hlen x)
     have hr8:q%8<8:=Nat.mod_lt _ (by omega)
     generalize out2[q/8]=y at *
     generalize q/8=i8 at *
     generalize q%8=r8 at *
     have hq8i:(i8:Int)<sz:=by omega
     have hqr:IntKind.i64.wrap ((q:Int)%8)=(r8:Int):=by rw[← hqm,Int.tmod_eq_emod_of_nonneg (by omega),IntWalk.i64_in _ (by omega)]
     have hqr2:(q:Int)%8=(r8:Int):=by rw[← hqm,Int.tmod_eq_emod_of_nonneg (by omega)]
     obtain ⟨bb,hbb⟩:∃ bb,bb=n/2 ^ j%2:=⟨_,rfl⟩
     rw[← hbb] at HPB2
     have hand:Go.bits .and .u64 ((n:Int)/2 ^ j) 1=(bb:Int):=by
      have e1:((n:Int)/2 ^ j)=((n/2 ^ j:Nat):Int):=by rw[Int.natCast_ediv,Int.natCast_pow];rfl
      have e2:=and_u64 (n/2 ^ j) 1 (Nat.lt_of_le_of_lt (Nat.div_le_self _ _) HN.out) (by omega)
      rw[Nat.and_one_is_mod,← hbb] at e2
      rw[e1]
      exact e2
     have hb2:bb<2:=by rw[hbb];omega
     clear hbb
     obtain ⟨x,hx8⟩:∃ x,x=UInt8.ofNat (bb*2 ^ r8):=⟨_,rfl⟩
     rw[← hx8] at HPB2
     have hsh:IntKind.u8.wrap ((bb:Int)*2 ^ r8)=(x.toNat:Int):=by
      rw[hx8,UInt8.toNat_ofNat',IntKind.wrap_u8,Int.natCast_emod,Int.natCast_mul,Int.natCast_pow];rfl
     have hb256:IntKind.u8.wrap (bb:Int)=(bb:Int):=by rw[IntKind.wrap_u8];omega
     have hb257:(bb:Int)%256=(bb:Int):=by omega
     obtain ⟨z,hz⟩:∃ z,z=y ||| x:=⟨_,rfl⟩
     rw[← hz] at HPB2
     have hor:Go.bits .or .u8 (y.toNat:Int) (x.toNat:Int)=(z.toNat:Int):=by rw[hz];exact or_u8 y x
     clear hx8 hz
     go_wp2_with fail
     refine wp_region_still_tail 15 (by kernel_rfl) (by kernel_rfl) ?_
     simp only[List.take_succ_cons,List.take_zero,List.drop_succ_cons,List.drop_zero]
     repeat still_step
     refine wpStill_nil ?_
     change wpList _ _ _ _ _ wr.drew
     have hx1d:wr.drew.cell? ⟨g,i8,none⟩=some (.int .u8 (y.toNat:Int)):=hx0
     have hx2d:wr.drew.frozen? ⟨g,i8,none⟩=false:=hxf
     have RD:=mk0 (Kd.R_below HR2.out (below_drew wr.heap.size wr))
     have BD:=mk0 (HB2.out.trans (below_drew g wr))
     clear hx0 hxf hand hsh hor
     generalize wr.drew=w2 at *
     have RS:=mk0 (HSET.out w2 RD.out z)
     rw[← HPB2.out] at RS
     have BS:=mk0 (BD.out.setCell (p:=⟨g,i8,none⟩) (Nat.le_refl _) (encB z))
     unfold encB at RS BS
     go_wp2
     go_roundw
     case rel=>exact ⟨j+1,m,q+1,putBit out2 q n j,⟨by have:=HJ.out;omega⟩,by go_num,by go_num,⟨by have:=HQ.out;omega⟩,HE2,⟨by rw[putBit_len];exact HO2.out⟩,RS,BS⟩
     case measure=>have:=HJ.out;simp[intOf];omega
  ·obtain rfl:k=l.length:=by omega
   have HE3:=mk0 HE.out
   rw[List.drop_length,packL] at HE3
   go_wp2
   go_ret2
   exact ⟨_,rfl,by rw[← HE3.out,← HG.out];exact HR.out,by rw[← HG.out];exact HB.out⟩
end Go.Proofs.YtpiobnfakmmpdaaGreat.Lib0

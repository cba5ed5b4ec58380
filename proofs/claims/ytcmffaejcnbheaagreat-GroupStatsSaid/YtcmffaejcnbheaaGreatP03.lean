import Derived.Test.YtcmffaejcnbheaaGreatP02
set_option linter.unusedVariables false
set_option linter.unusedSimpArgs false
namespace Go.Proofs.YtcmffaejcnbheaaGreat.Lib0
open Go.RowKit Go.Proofs.YtcmffaejcnbheaaGreatW.PrintWords Go.ChangeMaps
def getN (k n:Nat) (c:UInt8):Nat:=if k<10 then n ||| ((c.toNat%128) <<< (7*k))%18446744073709551616 else n
def getF (k:Nat) (fine:Bool) (c:UInt8):Bool:=fine && (decide (k<9) || (decide (k=9) && decide (c.toNat%128<2)))
def getL:Nat→Nat→Bool→List UInt8→Nat × Nat × Int
 | _,_,_,[]=>(0,0,10)
 | k,n,fine,c :: t=>
  if 127<c.toNat then getL (k+1) (getN k n c) (getF k fine c) t
  else if getF k fine c=false∨(0<k∧c.toNat=0) then (0,0,12) else (getN k n c,k+1,0)
def Told3 (w:World) (a:Int) (r:Nat × Nat × Int) (e:Ending) (w':World):Prop:=
 e = .returned (.tuple #[.int .u64 r.1,.int .i64 (if r.2.2=0 then a+r.2.1 else 0),.int .i64 r.2.2])∧w=w'
set_option maxHeartbeats 3200000 in
set_option maxRecDepth 100000 in
theorem v_Get_arg (A:Option Addr) (c:Nat) (l:List UInt8) (a:Int) (w:World) (h:a<0∨l.length<a) :
  Calls Tryz.prog 74 #[.slice A l.length c,.int .i64 a] w (Told3 w a (0,0,1)):=by
 go_enter Tryz.func74,Tryz.ntmps74
 rcases h with h | h
 ·go_wp2
  go_ret3
  exact ⟨rfl,rfl⟩
 ·by_cases h0:a<0
  ·go_wp2
   go_ret3
   exact ⟨rfl,rfl⟩
  ·go_wp2
   go_ret3
   exact ⟨rfl,rfl⟩
theorem and_u8 (a b:UInt8):Go.bits .and .u8 (a.toNat:Int) (b.toNat:Int)=((a &&& b).toNat:Int):=by
 have ha:=a.toNat_lt
 have hb:=b.toNat_lt
 unfold Go.bits
 simp only[IntKind.wrap_u8]
 show (((BitVec.ofInt 8 (a.toNat:Int) &&& BitVec.ofInt 8 (b.toNat:Int)).toNat:Nat):Int)%256=_
 rw[BitVec.ofInt_natCast,BitVec.ofInt_natCast,BitVec.toNat_and,BitVec.toNat_ofNat,BitVec.toNat_ofNat,Nat.mod_eq_of_lt ha,Nat.mod_eq_of_lt hb,UInt8.toNat_and]
 have:a.toNat &&& b.toNat<2 ^ 8:=Nat.and_lt_two_pow _ hb
 omega
theorem getL_more (k n:Nat) (f:Bool) (y:UInt8) (t:List UInt8) (h:127<y.toNat):getL k n f (y :: t)=getL (k+1) (getN k n y) (getF k f y) t:=by rw[getL,if_pos h]
theorem getL_bad (k n:Nat) (f:Bool) (y:UInt8) (t:List UInt8) (h:¬ 127<y.toNat) (h2:getF k f y=false∨(0<k∧y.toNat=0)):getL k n f (y :: t)=(0,0,12):=by rw[getL,if_neg h,if_pos h2]
theorem getL_end (k n:Nat) (f:Bool) (y:UInt8) (t:List UInt8) (h:¬ 127<y.toNat) (h1:getF k f y=true) (h2:¬ (0<k∧y.toNat=0)):getL k n f (y :: t)=(getN k n y,k+1,0):=by rw[getL,if_neg h,if_neg (by rw[h1];simpa using h2)]
theorem getN_ten {k:Nat} (n:Nat) (y:UInt8) (h:¬ k<10):getN k n y=n:=by unfold getN;rw[if_neg h]
theorem told3_ok {w:World} {a:Int} {r:Nat × Nat × Int} {v j:Nat} (hr:r=(v,j,0)) (x:Int) (hx:x=a+j):Told3 w a r (.returned (.tuple #[.int .u64 v,.int .i64 x,.int .i64 0])) w:=by
 subst hr hx
 exact ⟨by simp,rfl⟩
theorem told3_no {w:World} {a e:Int} {r:Nat × Nat × Int} (hr:r=(0,0,e)) (he:e≠0):Told3 w a r (.returned (.tuple #[.int .u64 0,.int .i64 0,.int .i64 e])) w:=by
 subst hr
 exact ⟨by simp[he],rfl⟩
theorem getN_bits {k n:Nat} {y:UInt8} (hk:k<10) (hn:n<18446744073709551616):Go.bits .or .u64 (n:Int) (IntKind.u64.wrap ((y.toNat:Int)%128*2 ^ (7*k)))=((getN k n y:Nat):Int):=by
 have e:IntKind.u64.wrap ((y.toNat:Int)%128*2 ^ (7*k))=(((y.toNat%128) <<< (7*k)%18446744073709551616:Nat):Int):=by
  rw[IntKind.wrap_u64,Nat.shiftLeft_eq,Int.natCast_emod,Int.natCast_mul,Int.natCast_emod,Int.natCast_pow]
  rfl
 rw[e,or_u64 _ _ hn (Nat.mod_lt _ (by decide))]
 unfold getN
 rw[if_pos hk]
theorem getN_lt {k n:Nat} {c:UInt8} (h:n<18446744073709551616):getN k n c<18446744073709551616:=by
 unfold getN
 split
 ·have e:(18446744073709551616:Nat)=2 ^ 64:=by decide
  rw[e] at h ⊢
  exact Nat.or_lt_two_pow h (Nat.mod_lt _ (by decide))
 ·exact h
set_option maxHeartbeats 16000000 in
set_option maxRecDepth 100000 in
theorem v_Get (A:Option Addr) (c:Nat) (l:List UInt8) (a:Nat) (w:World) (h:u8.C w A l.length l) (hc:l.length≤c) (hl:l.length≤1099511627776) (ha:a≤l.length) :
  Calls Tryz.prog 74 #[.slice A l.length c,.int .i64 a] w (Told3 w a (getL 0 0 true (l.drop a))):=by
 have ha1:¬ (a:Int)<0:=by omega
 have ha2:¬ (l.length:Int)<a:=by omega
 go_enter Tryz.func74,Tryz.ntmps74
 obtain ⟨A2,c2,hs,hc2,hC2⟩:=sl_drop (P:=Tryz.prog) u8 24 5 .i64 Tryz.underlying24 info_u8 rfl A l c (a:Int) (by omega) (by omega) hc
 rw[Int.toNat_natCast] at hs hC2 hc2
 have HC:=mk0 (hC2 w h)
 have HD:=mk0 (show (l.drop a).length≤1099511627776 by rw[List.length_drop];omega)
 have HAL:=mk0 (show a+(l.drop a).length=l.length by rw[List.length_drop];omega)
 have HAN:=mk0 hl
 clear h hC2 hc2 hl
 generalize l.drop a=t at *
 go_wp2_with fail
 go_loopw[7,8,23] (fun v7 v8 v23 wr=>∃ (k n:Nat) (fine:Bool),k≤t.length∧v7 = .int .u64 n∧v8 = .bool fine∧v23 = .int .i64 k∧Aside0 (n<18446744073709551616)∧Aside0 (getL k n fine (t.drop k)=getL 0 0 true t)∧wr=w) (fun _ _ i _=>t.length-(intOf i).toNat)
 case atStart=>exact ⟨0,0,true,by omega,rfl,rfl,rfl,⟨by omega⟩,⟨rfl⟩,rfl⟩
 case round=>
  obtain ⟨k,n,fine,hk,rfl,rfl,rfl,HN,HG,rfl⟩:=hrel
  by_cases hlt:k<t.length
  ·obtain ⟨b,o,rfl,hx⟩:=u8_open HC.out (by omega)
   have hx1:=hx k hlt
   have hlt2:(k:Int)<t.length:=by omega
   have HDR:=mk0 (List.drop_eq_getElem_cons hlt)
   clear hx
   generalize t[k]=y at *
   have hy0:(0:Int)≤(y.toNat:Int):=by omega
   have hy1:(y.toNat:Int)<256:=by have:=y.toNat_lt;omega
   have hand:Go.bits .and .u8 (y.toNat:Int) 127=((y.toNat%128:Nat):Int):=by
    have:=and_u8 y 127
    rw[show ((127:UInt8).toNat:Int)=127 from rfl] at this
    rw[this,UInt8.toNat_and,show (127:UInt8).toNat=2 ^ 7-1 from rfl,Nat.and_two_pow_sub_one_eq_mod]
   have hak:(a:Int)+(k:Int)<1099511627777:=by have:=HAL.out;have:=HAN.out;omega
   have hak2:(k:Int)<1099511627777:=by have:=HD.out;omega
   cases fine
   ·skip
    by_cases hk10:k<10
    ·have hk10i:(k:Int)<10:=by omega
     have HFT:getF k false y=false:=rfl
     obtain ⟨n',hn'⟩:∃ n',n'=getN k n y:=⟨_,rfl⟩
     have HNP:=mk0 hn'
     have hor:Go.bits .or .u64 (n:Int) (IntKind.u64.wrap ((y.toNat:Int)%128*2 ^ (7*k)))=(n':Int):=by rw[hn'];exact getN_bits hk10 HN.out
     clear hn'
     by_cases hy:127<y.toNat
     ·have HF:=mk0 HFT
      have hyi:(127:Int)<(y.toNat:Int):=by omega
      have HS:=mk0 (show getL (k+1) n' false (t.drop (k+1))=getL 0 0 true t by rw[← HG.out,HDR.out,getL_more _ _ _ _ _ hy];rw[← HNP.out,HF.out])
      go_wp2
      go_roundw
      case rel=>exact ⟨k+1,n',false,by omega,by first | rfl | trivial,by first | rfl | trivial,by first | go_num | (simp;omega),⟨by rw[HNP.out];exact getN_lt HN.out⟩,HS,by first | rfl | trivial⟩
      case measure=>simp[intOf];omega
     ·have HF:=mk0 HFT
      have hyi:¬ (127:Int)<(y.toNat:Int):=by omega
      have HS:=mk0 (show getL 0 0 true t=(0,0,12) by rw[← HG.out,HDR.out,getL_bad _ _ _ _ _ hy (.inl HF.out)])
      go_wp2
      go_ret3
      exact told3_no HS.out (by decide)
    ·have hk10i:¬ (k:Int)<10:=by omega
     have HFT:getF k false y=false:=rfl
     by_cases hy:127<y.toNat
     ·have HF:=mk0 HFT
      have hyi:(127:Int)<(y.toNat:Int):=by omega
      have HS:=mk0 (show getL (k+1) n false (t.drop (k+1))=getL 0 0 true t by rw[← HG.out,HDR.out,getL_more _ _ _ _ _ hy];rw[getN_ten _ _ hk10,HF.out])
      go_wp2
      go_roundw
      case rel=>exact ⟨k+1,n,false,by omega,by first | rfl | trivial,by first | rfl | trivial,by first | go_num | (simp;omega),HN,HS,by first | rfl | trivial⟩
      case measure=>simp[intOf];omega
     ·have HF:=mk0 HFT
      have hyi:¬ (127:Int)<(y.toNat:Int):=by omega
      have HS:=mk0 (show getL 0 0 true t=(0,0,12) by rw[← HG.out,HDR.out,getL_bad _ _ _ _ _ hy (.inl HF.out)])
      go_wp2
      go_ret3
      exact told3_no HS.out (by decide)
   ·skip
    by_cases hk10:k<10
    ·have hk10i:(k:Int)<10:=by omega
     obtain ⟨n',hn'⟩:∃ n',n'=getN k n y:=⟨_,rfl⟩
     have HNP:=mk0 hn'
     have hor:Go.bits .or .u64 (n:Int) (IntKind.u64.wrap ((y.toNat:Int)%128*2 ^ (7*k)))=(n':Int):=by rw[hn'];exact getN_bits hk10 HN.out
     clear hn'
     by_cases hk9:k<9
     ·have hk9i:(k:Int)<9:=by omega
      have HFT:getF k true y=true:=by simp[getF,hk9]
      by_cases hy:127<y.toNat
      ·have HF:=mk0 HFT
       have hyi:(127:Int)<(y.toNat:Int):=by omega
       have HS:=mk0 (show getL (k+1) n' true (t.drop (k+1))=getL 0 0 true t by rw[← HG.out,HDR.out,getL_more _ _ _ _ _ hy];rw[← HNP.out,HF.out])
       go_wp2
       go_roundw
       case rel=>exact ⟨k+1,n',true,by omega,by first | rfl | trivial,by first | rfl | trivial,by first | go_num | (simp;omega),⟨by rw[HNP.out];exact getN_lt HN.out⟩,HS,by first | rfl | trivial⟩
       case measure=>simp[intOf];omega
      ·have HF:=mk0 HFT
       by_cases hz:0<k∧y.toNat=0
       ·have hz1:(0:Int)<k:=by omega
        have hz2:(y.toNat:Int)=0:=by omega
        have hz3:=hz.1
        have hz4:((y.toNat:Int)==0)=true:=by rw[hz2];rfl
        have HZ0:=mk0 hz
        clear hz2 hz
        have hyi:¬ (127:Int)<(y.toNat:Int):=by omega
        have HS:=mk0 (show getL 0 0 true t=(0,0,12) by rw[← HG.out,HDR.out,getL_bad _ _ _ _ _ hy (.inr HZ0.out)])
        go_wp2
        go_ret3
        exact told3_no HS.out (by decide)
       ·have HZ:=mk0 hz
        rcases (show (¬ (0:Int)<k∧¬ 0<k)∨(((0:Int)<k∧0<k)∧¬ y.toNat=0∧¬ (y.toNat:Int)=0) by omega) with ⟨hz1,hz2⟩ | ⟨⟨hz1,hz2⟩,hz3,hz4⟩
        ·have hyi:¬ (127:Int)<(y.toNat:Int):=by omega
         have HS:=mk0 (show getL 0 0 true t=(n',k+1,0) by rw[← HG.out,HDR.out,getL_end _ _ _ _ _ hy HF.out HZ.out,← HNP.out])
         go_wp2
         go_ret3
         exact told3_ok HS.out _ (by first | omega | (simp;omega))
        ·have hz5:((y.toNat:Int)==0)=false:=by rw[beq_eq_false_iff_ne];exact hz4
         have hyi:¬ (127:Int)<(y.toNat:Int):=by omega
         have HS:=mk0 (show getL 0 0 true t=(n',k+1,0) by rw[← HG.out,HDR.out,getL_end _ _ _ _ _ hy HF.out HZ.out,← HNP.out])
         go_wp2
         go_ret3
         exact told3_ok HS.out _ (by first | omega | (simp;omega))
     ·have hk9i:¬ (k:Int)<9:=by omega
      have hk9b:((k:Int)==9)=true:=by rw[beq_iff_eq];omega
      have hk9n:k=9:=by omega
      by_cases h2:y.toNat%128<2
      ·have h2i:(y.toNat:Int)%128<2:=by omega
       have HFT:getF k true y=true:=by simp[getF,hk9n,h2]
       clear hk9n
       by_cases hy:127<y.toNat
       ·have HF:=mk0 HFT
        have hyi:(127:Int)<(y.toNat:Int):=by omega
        have HS:=mk0 (show getL (k+1) n' true (t.drop (k+1))=getL 0 0 true t by rw[← HG.out,HDR.out,getL_more _ _ _ _ _ hy];rw[← HNP.out,HF.out])
        go_wp2
        go_roundw
        case rel=>exact ⟨k+1,n',true,by omega,by first | rfl | trivial,by first | rfl | trivial,by first | go_num | (simp;omega),⟨by rw[HNP.out];exact getN_lt HN.out⟩,HS,by first | rfl | trivial⟩
        case measure=>simp[intOf];omega
       ·have HF:=mk0 HFT
        by_cases hz:0<k∧y.toNat=0
        ·have hz1:(0:Int)<k:=by omega
         have hz2:(y.toNat:Int)=0:=by omega
         have hz3:=hz.1
         have hz4:((y.toNat:Int)==0)=true:=by rw[hz2];rfl
         have HZ0:=mk0 hz
         clear hz2 hz
         have hyi:¬ (127:Int)<(y.toNat:Int):=by omega
         have HS:=mk0 (show getL 0 0 true t=(0,0,12) by rw[← HG.out,HDR.out,getL_bad _ _ _ _ _ hy (.inr HZ0.out)])
         go_wp2
         go_ret3
         exact told3_no HS.out (by decide)
        ·have HZ:=mk0 hz
         rcases (show (¬ (0:Int)<k∧¬ 0<k)∨(((0:Int)<k∧0<k)∧¬ y.toNat=0∧¬ (y.toNat:Int)=0) by omega) with ⟨hz1,hz2⟩ | ⟨⟨hz1,hz2⟩,hz3,hz4⟩
         ·omega
         ·have hz5:((y.toNat:Int)==0)=false:=by rw[beq_eq_false_iff_ne];exact hz4
          have hyi:¬ (127:Int)<(y.toNat:Int):=by omega
          have HS:=mk0 (show getL 0 0 true t=(n',k+1,0) by rw[← HG.out,HDR.out,getL_end _ _ _ _ _ hy HF.out HZ.out,← HNP.out])
          go_wp2
          go_ret3
          exact told3_ok HS.out _ (by first | omega | (simp;omega))
      ·have h2i:¬ (y.toNat:Int)%128<2:=by omega
       have HFT:getF k true y=false:=by simp[getF,hk9n,h2]
       clear hk9n
       by_cases hy:127<y.toNat
       ·have HF:=mk0 HFT
        have hyi:(127:Int)<(y.toNat:Int):=by omega
        have HS:=mk0 (show getL (k+1) n' false (t.drop (k+1))=getL 0 0 true t by rw[← HG.out,HDR.out,getL_more _ _ _ _ _ hy];rw[← HNP.out,HF.out])
        go_wp2
        go_roundw
        case rel=>exact ⟨k+1,n',false,by omega,by first | rfl | trivial,by first | rfl | trivial,by first | go_num | (simp;omega),⟨by rw[HNP.out];exact getN_lt HN.out⟩,HS,by first | rfl | trivial⟩
        case measure=>simp[intOf];omega
       ·have HF:=mk0 HFT
        have hyi:¬ (127:Int)<(y.toNat:Int):=by omega
        have HS:=mk0 (show getL 0 0 true t=(0,0,12) by rw[← HG.out,HDR.out,getL_bad _ _ _ _ _ hy (.inl HF.out)])
        go_wp2
        go_ret3
        exact told3_no HS.out (by decide)
    ·have hk10i:¬ (k:Int)<10:=by omega
     have hk9i:¬ (k:Int)<9:=by omega
     have hk9e:¬ (k:Int)=9:=by omega
     have hk9b:((k:Int)==9)=false:=by rw[beq_eq_false_iff_ne];exact hk9e
     have HFT:getF k true y=false:=by simp[getF];omega
     by_cases hy:127<y.toNat
     ·have HF:=mk0 HFT
      have hyi:(127:Int)<(y.toNat:Int):=by omega
      have HS:=mk0 (show getL (k+1) n false (t.drop (k+1))=getL 0 0 true t by rw[← HG.out,HDR.out,getL_more _ _ _ _ _ hy];rw[getN_ten _ _ hk10,HF.out])
      go_wp2
      go_roundw
      case rel=>exact ⟨k+1,n,false,by omega,by first | rfl | trivial,by first | rfl | trivial,by first | go_num | (simp;omega),HN,HS,by first | rfl | trivial⟩
      case measure=>simp[intOf];omega
     ·have HF:=mk0 HFT
      have hyi:¬ (127:Int)<(y.toNat:Int):=by omega
      have HS:=mk0 (show getL 0 0 true t=(0,0,12) by rw[← HG.out,HDR.out,getL_bad _ _ _ _ _ hy (.inl HF.out)])
      go_wp2
      go_ret3
      exact told3_no HS.out (by decide)
  ·obtain rfl:k=t.length:=by omega
   have HS:=mk0 (show getL 0 0 true t=(0,0,10) by rw[← HG.out,List.drop_length];rfl)
   go_wp2
   go_ret3
   exact told3_no HS.out (by decide)
end Go.Proofs.YtcmffaejcnbheaaGreat.Lib0
namespace Go.Proofs.YtcmffaejcnbheaaGreat.Lib0
open Go.RowKit Go.Proofs.YtcmffaejcnbheaaGreatW.PrintWords Go.ChangeMaps
section
variable {P:Program} {ops:Array Oper} {rest:List Oper} {o:Oper} {a:Act} {Q:Exit→Act→World→Prop}
theorem u8_append_str {W:World} (s x:Operand) (t u e:TypeId) (v:Value) (xs:List UInt8) (y:ByteArray) (base:Nat)
  (hgd:o.guard=none) (ho:o.op = .call { callee:=.builtin .append,args:=#[s,x],argTypes:=#[t,u] })
  (ht:P.underlying t=some (.slice e)) (hu:P.underlying u=some .string) (hinfo:(P.info? e).map (fun i=>(i.zero,i.size,i.bytes))=some (some (.int .u8 0),1,1))
  (hs:a.eval s=v) (hx:a.eval x = .string y)
  (HO:u8.R e W base (fun _=>True) v xs) (hbase:base≤W.heap.size) (hl:xs.length+y.size≤140737488355328)
  (h:∀ v1 w1,u8.R e w1 base (fun _=>True) v1 (xs++byt y)→Below base W w1→W.grownBy w1 v.ownBlock→wpList P ops Q rest (a.put o.dst v1) w1) :
  wpList P ops Q (o :: rest) a W:=by
 have e1:∀ l:List UInt8,nums .u8 (bi l)=l.map encB:=fun l=>by simp[nums,bi,encB]
 have e2:bi xs++bytesOf y=bi (xs++byt y):=by simp[bi,bytesOf,byt]
 refine print_append_str (w0:=W) base hgd s x t u e ho ht hu hinfo v (bi xs) y hs hx (by rw[bi_length,e1];exact u8_R_iff.1 HO) (Below.refl _ _) hbase (by rw[bi_length];exact hl) ?_
 intro v1 w1 hown hb hg
 rw[e2,bi_length,e1] at hown
 exact h v1 w1 (u8_R_iff.2 hown) hb hg
end
set_option maxHeartbeats 1600000 in
set_option maxRecDepth 100000 in
theorem v_PutText (A:Option Addr) (c:Nat) (l:List UInt8) (s:ByteArray) (w:World) (h:u8.C w A l.length l) (hl:l.length≤1099511627000) (hs:s.size≤1099511627776) :
  Calls Tryz.prog 30 #[.slice A l.length c,.string s] w (Row 5 w (l++putV s.size++byt s)):=by
 have HP:=mk0 (v_Put A c l s.size w h hl (by omega))
 have HL:=mk0 (show (l++putV s.size).length+s.size≤140737488355328 by have:=putV_len10 (n:=s.size) (by omega);rw[List.length_append];omega)
 have hs64:IntKind.u64.wrap (s.size:Int)=(s.size:Int):=by rw[IntKind.wrap_u64];omega
 clear h hl hs
 go_enter Tryz.func30,Tryz.ntmps30
 go_wp2_with fail
 refine HP.out.mono ?_
 rintro e w1 ⟨v1,rfl,hr1,hb1⟩
 go_wp2_with (at_builtin;go_loud (refine u8_append_str (.tmp 9) (.tmp 10) 24 9 5 v1 _ s w.heap.size rfl rfl Tryz.underlying24 Tryz.underlying9 info_u8 rfl rfl hr1 hb1.size HL.out ?_))
 intro v2 w2 hr2 hb2 hg2
 go_wp2
 go_ret
 exact ⟨_,rfl,by rw[List.append_assoc];exact hr2,hb1.trans hb2⟩
def small (n:Nat):Nat:=if n≤1099511627776 then n else 1099511627776
set_option maxHeartbeats 1600000 in
set_option maxRecDepth 100000 in
theorem getL_lt:∀ (l:List UInt8) (k n:Nat) (f:Bool),n<18446744073709551616→(getL k n f l).1<18446744073709551616∧((getL k n f l).2.2=0→k<(getL k n f l).2.1∧(getL k n f l).2.1≤k+l.length)
 | [],k,n,f,h=>by simp[getL]
 | c :: t,k,n,f,h=>by
  rw[getL]
  split
  ·have:=getL_lt t (k+1) _ (getF k f c) (getN_lt (k:=k) (c:=c) h)
   refine ⟨this.1,fun h0=>?_⟩
   have:=this.2 h0
   rw[List.length_cons]
   omega
  ·split
   ·simp
   ·exact ⟨getN_lt h,fun _=>by simp⟩
def getA (l:List UInt8) (a:Int):Nat × Nat × Int:=if a<0∨l.length<a then (0,0,1) else getL 0 0 true (l.drop a.toNat)
theorem v_GetA (A:Option Addr) (c:Nat) (l:List UInt8) (a:Int) (w:World) (h:u8.C w A l.length l) (hc:l.length≤c) (hl:l.length≤1099511627776) :
  Calls Tryz.prog 74 #[.slice A l.length c,.int .i64 a] w (Told3 w a (getA l a)):=by
 unfold getA
 split
 ·rename_i h1
  exact v_Get_arg A c l a w h1
 ·have:=v_Get A c l a.toNat w h hc hl (by omega)
  rwa [show ((a.toNat:Nat):Int)=a by omega] at this
theorem getA_lt (l:List UInt8) (a:Int):(getA l a).1<18446744073709551616∧((getA l a).2.2=0→0≤a∧0<(getA l a).2.1∧a+(getA l a).2.1≤l.length):=by
 unfold getA
 split
 ·simp
 ·have:=getL_lt (l.drop a.toNat) 0 0 true (by omega)
  refine ⟨this.1,fun h0=>?_⟩
  have:=this.2 h0
  rw[List.length_drop] at this
  omega
def endA (a:Int) (r:Nat × Nat × Int):Int:=if r.2.2=0 then a+r.2.1 else 0
set_option maxHeartbeats 1600000 in
set_option maxRecDepth 100000 in
theorem v_Small (A:Option Addr) (c:Nat) (l:List UInt8) (a:Int) (w:World) (h:u8.C w A l.length l) (hc:l.length≤c) (hl:l.length≤1099511627776) :
  Calls Tryz.prog 76 #[.slice A l.length c,.int .i64 a] w fun e w'=>e = .returned (.tuple #[.int .i64 (small (getA l a).1),.int .i64 (endA a (getA l a)),.int .i64 (getA l a).2.2])∧w=w':=by
 have HG:=mk0 (v_GetA A c l a w h hc hl)
 have HB:=mk0 (getA_lt l a).1
 clear h hc hl
 unfold Told3 at HG
 change Aside0 (Calls _ _ _ _ fun e w'=>e = .returned (.tuple #[.int .u64 (getA l a).1,.int .i64 (endA a (getA l a)),.int .i64 (getA l a).2.2])∧w=w') at HG
 generalize (getA l a).1=n at *
 generalize endA a (getA l a)=en at *
 generalize (getA l a).2.2=why at *
 have hn:=HB.out
 obtain ⟨q,hq⟩:∃ q,q=small n:=⟨_,rfl⟩
 rw[← hq]
 go_enter Tryz.func76,Tryz.ntmps76
 go_wp2_with fail
 refine HG.out.mono ?_
 rintro e w' ⟨rfl,rfl⟩
 by_cases h1:n≤1099511627776
 ·have h2:(n:Int)≤1099511627776:=by omega
  have hqn:q=n:=by rw[hq,small,if_pos h1]
  clear hq
  subst hqn
  go_wp2
  go_ret3
  exact ⟨rfl,rfl⟩
 ·have h2:¬ (n:Int)≤1099511627776:=by omega
  have hqn:q=1099511627776:=by rw[hq,small,if_neg h1]
  clear hq
  subst hqn
  go_wp2
  go_ret3
  exact ⟨rfl,rfl⟩
set_option maxHeartbeats 1600000 in
set_option maxRecDepth 100000 in
theorem v_GetZag (A:Option Addr) (c:Nat) (l:List UInt8) (a:Int) (w:World) (h:u8.C w A l.length l) (hc:l.length≤c) (hl:l.length≤1099511627776) :
  Calls Tryz.prog 75 #[.slice A l.length c,.int .i64 a] w fun e w'=>e = .returned (.tuple #[.int .i64 (zag (getA l a).1),.int .i64 (endA a (getA l a)),.int .i64 (getA l a).2.2])∧w=w':=by
 have HG:=mk0 (v_GetA A c l a w h hc hl)
 have HZ:=mk0 (v_Zag (getA l a).1 (getA_lt l a).1 w)
 clear h hc hl
 unfold Told3 at HG
 change Aside0 (Calls _ _ _ _ fun e w'=>e = .returned (.tuple #[.int .u64 (getA l a).1,.int .i64 (endA a (getA l a)),.int .i64 (getA l a).2.2])∧w=w') at HG
 generalize endA a (getA l a)=en at *
 generalize (getA l a).2.2=why at *
 generalize zag (getA l a).1=z at *
 generalize (getA l a).1=n at *
 go_enter Tryz.func75,Tryz.ntmps75
 go_wp2_with fail
 refine HG.out.mono ?_
 rintro e w' ⟨rfl,rfl⟩
 go_wp2_with fail
 refine HZ.out.mono ?_
 rintro e w' ⟨rfl,rfl⟩
 go_wp2
 go_ret3
 exact ⟨rfl,rfl⟩
def getT (l:List UInt8) (a:Int) (most:Nat):List UInt8 × Int × Int:=
 if (getA l a).2.2≠0 then ([],0,(getA l a).2.2)
 else if most<(getA l a).1 then ([],0,3)
 else if l.length<endA a (getA l a)+(getA l a).1 then ([],0,10)
 else ((l.take (endA a (getA l a)+(getA l a).1).toNat).drop (endA a (getA l a)).toNat,endA a (getA l a)+(getA l a).1,0)
set_option maxHeartbeats 3200000 in
set_option maxRecDepth 100000 in
theorem v_GetText (A:Option Addr) (c:Nat) (l:List UInt8) (a:Int) (most:Nat) (w:World) (h:u8.C w A l.length l) (hc:l.length≤c) (hl:l.length≤1099511627776) (hm:most≤1099511627776) :
  Calls Tryz.prog 77 #[.slice A l.length c,.int .i64 a,.int .i64 most] w fun e w'=>e = .returned (.tuple #[.string (str (getT l a most).1),.int .i64 (getT l a most).2.1,.int .i64 (getT l a most).2.2])∧w=w':=by
 have HG:=mk0 (v_GetA A c l a w h hc hl)
 have hlt:=getA_lt l a
 have HT:=mk0 (show getT l a most=_ from rfl)
 unfold Told3 at HG
 change Aside0 (Calls _ _ _ _ fun e w'=>e = .returned (.tuple #[.int .u64 (getA l a).1,.int .i64 (endA a (getA l a)),.int .i64 (getA l a).2.2])∧w=w') at HG
 have hend:(getA l a).2.2=0→0≤endA a (getA l a)∧endA a (getA l a)≤l.length:=by
  intro h0
  have:=hlt.2 h0
  unfold endA
  rw[if_pos h0]
  omega
 have hn:=hlt.1
 clear hlt
 unfold getT at HT ⊢
 generalize endA a (getA l a)=en at *
 generalize (getA l a).2.2=why at *
 generalize (getA l a).1=n at *
 clear HT
 by_cases h0:why=0
 ·subst h0
  have hend:=hend rfl
  obtain ⟨m,rfl⟩:=Int.eq_ofNat_of_zero_le hend.1
  have hm1:(m:Int)≤l.length:=hend.2
  have hmost0:(0:Int)≤most:=Int.natCast_nonneg _
  have hwm:IntKind.u64.wrap (most:Int)=(most:Int):=by rw[IntKind.wrap_u64];omega
  have hwl:IntKind.u64.wrap ((l.length:Int)-(m:Int))=(l.length:Int)-(m:Int):=by rw[IntKind.wrap_u64];omega
  clear hend
  rw[if_neg (by simp)]
  by_cases h1:most<n
  ·have h1i:(most:Int)<n:=by omega
   rw[if_pos h1]
   go_enter Tryz.func77,Tryz.ntmps77
   go_wp2_with fail
   refine HG.out.mono ?_
   rintro e w' ⟨rfl,rfl⟩
   go_wp2
   go_ret3
   exact ⟨rfl,rfl⟩
  ·have h1i:¬ (most:Int)<n:=by omega
   rw[if_neg h1]
   by_cases h2:(l.length:Int)<(m:Int)+n
   ·have h2i:(l.length:Int)-(m:Int)<n:=by omega
    rw[if_pos h2]
    go_enter Tryz.func77,Tryz.ntmps77
    go_wp2_with fail
    refine HG.out.mono ?_
    rintro e w' ⟨rfl,rfl⟩
    go_wp2
    go_ret3
    exact ⟨rfl,rfl⟩
   ·have h2i:¬ (l.length:Int)-(m:Int)<n:=by omega
    rw[if_neg h2]
    have hwn:wrap64 (n:Int)=(n:Int):=by unfold wrap64;omega
    have hwn2:IntKind.i64.wrap (n:Int)=(n:Int):=IntWalk.i64_in _ (by omega)
    obtain ⟨A2,c2,hs,hc2,hC2⟩:=sl_mid (P:=Tryz.prog) u8 24 5 .i64 .i64 Tryz.underlying24 info_u8 rfl A l c (m:Int) ((m:Int)+n) (by omega) (by omega) (by omega) hc
    have hcv:=u8_string (P:=Tryz.prog) (c:=c2) Tryz.underlying24 Tryz.underlying5 Tryz.underlying9 (hC2 w h)
    clear hC2
    generalize (l.take ((m:Int)+n).toNat).drop (m:Int).toNat=t at *
    go_enter Tryz.func77,Tryz.ntmps77
    go_wp2_with fail
    refine HG.out.mono ?_
    rintro e w' ⟨rfl,rfl⟩
    go_wp2
    go_ret3
    exact ⟨rfl,rfl⟩
 ·rw[if_pos h0]
  have h0b:(why==0)=false:=by rw[beq_eq_false_iff_ne];exact h0
  have h0c:(why != 0)=true:=by simp[bne,h0b]
  go_enter Tryz.func77,Tryz.ntmps77
  go_wp2_with fail
  refine HG.out.mono ?_
  rintro e w' ⟨rfl,rfl⟩
  go_wp2
  go_ret3
  exact ⟨rfl,rfl⟩
end Go.Proofs.YtcmffaejcnbheaaGreat.Lib0

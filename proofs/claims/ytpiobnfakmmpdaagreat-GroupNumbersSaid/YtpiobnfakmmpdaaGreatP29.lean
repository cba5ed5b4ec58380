import Derived.Test.YtpiobnfakmmpdaaGreatP28
set_option linter.unusedVariables false
set_option linter.unusedSimpArgs false
namespace Go.Proofs.YtpiobnfakmmpdaaGreat.Lib0
open Go.RowKit Go.Proofs.YtpiobnfakmmpdaaGreatW.PrintWords Go.ChangeMaps
theorem pow8 (k:Nat):2 ^ (8*(k+1))=2 ^ (8*k)*256:=by
 rw[show 8*(k+1)=8*k+8 by omega,Nat.pow_add]
theorem leN_at (n:Nat):∀ (m k:Nat),k+m≤8→leN k (n%2 ^ (8*k)) ((List.range' k m).map fun k=>UInt8.ofNat (n/2 ^ (8*k)))=n%2 ^ (8*(k+m))
 | 0,k,h=>by simp[leN]
 | m+1,k,h=>by
  rw[List.range'_succ,List.map_cons,leN]
  have hc:(UInt8.ofNat (n/2 ^ (8*k))).toNat=n/2 ^ (8*k)%256:=by rw[UInt8.toNat_ofNat']
  have h1:n%2 ^ (8*k)<2 ^ (8*k):=Nat.mod_lt _ (Nat.two_pow_pos _)
  have h2:n/2 ^ (8*k)%256*2 ^ (8*k)<18446744073709551616:=by
   have h3:n/2 ^ (8*k)%256<256:=Nat.mod_lt _ (by decide)
   have h4:n/2 ^ (8*k)%256*2 ^ (8*k)<256*2 ^ (8*k):=(Nat.mul_lt_mul_right (Nat.two_pow_pos _)).2 h3
   have h5:2 ^ (8*(k+1))≤2 ^ 64:=Nat.pow_le_pow_right (by decide) (by omega)
   rw[pow8] at h5
   have e:(2:Nat) ^ 64=18446744073709551616:=by decide
   rw[Nat.mul_comm] at h5
   omega
  rw[hc,Nat.mod_eq_of_lt h2,Nat.or_comm,← Nat.shiftLeft_eq,← Nat.shiftLeft_add_eq_or_of_lt h1,Nat.shiftLeft_eq]
  have e2:n/2 ^ (8*k)%256*2 ^ (8*k)+n%2 ^ (8*k)=n%2 ^ (8*(k+1)):=by
   rw[pow8,Nat.mod_mul,Nat.mul_comm]
   omega
  rw[e2,leN_at n m (k+1) (by omega),show k+1+m=k+(m+1) by omega]
theorem leN_leB {m n:Nat} (hm:m≤8) (hn:n<2 ^ (8*m)):leN 0 0 (leB m n)=n:=by
 have h:=leN_at n m 0 (by omega)
 rw[Nat.mul_zero,Nat.pow_zero,Nat.mod_one,Nat.zero_add,Nat.mod_eq_of_lt hn,← List.range_eq_range'] at h
 exact h
def bitB (l:List UInt8) (p:Nat):Bool:=(l.getD (p/8) 0).toNat.testBit (p%8)
theorem bitAt_B (l:List UInt8) (p:Nat):bitAt l p=(bitB l p).toNat:=by
 unfold bitAt bitB
 rw[Nat.testBit_eq_decide_div_mod_eq]
 have:(l.getD (p/8) 0).toNat/2 ^ (p%8)%2<2:=Nat.mod_lt _ (by decide)
 by_cases h:(l.getD (p/8) 0).toNat/2 ^ (p%8)%2=1
 ·rw[decide_eq_true h,h];rfl
 ·rw[decide_eq_false h];show _=0;omega
theorem putBit_B (out:List UInt8) (p n k q:Nat) (hp:p<8*out.length):bitB (putBit out p n k) q=if q=p then (bitB out q || n.testBit k) else bitB out q:=by
 have hi:p/8<out.length:=by omega
 have hb:(UInt8.ofNat (n/2 ^ k%2*2 ^ (p%8))).toNat=n/2 ^ k%2*2 ^ (p%8):=by
  rw[UInt8.toNat_ofNat',Nat.mod_eq_of_lt]
  have h1:n/2 ^ k%2≤1:=by omega
  have h2:n/2 ^ k%2*2 ^ (p%8)≤1*2 ^ (p%8):=Nat.mul_le_mul_right _ h1
  have h3:2 ^ (p%8)≤2 ^ 7:=Nat.pow_le_pow_right (by decide) (by omega)
  have e:(2:Nat) ^ 7=128:=by decide
  show _<256
  omega
 unfold bitB putBit
 by_cases hq:q/8=p/8
 ·have e1:(out.set (p/8) (out.getD (p/8) 0 ||| UInt8.ofNat (n/2 ^ k%2*2 ^ (p%8)))).getD (q/8) 0=(out.getD (p/8) 0 ||| UInt8.ofNat (n/2 ^ k%2*2 ^ (p%8))):=by
   rw[hq]
   simp[List.getD,hi]
  rw[e1,UInt8.toNat_or,Nat.testBit_or,hb,hq]
  have e2:(n/2 ^ k%2*2 ^ (p%8)).testBit (q%8)=(decide (q%8=p%8) && n.testBit k):=by
   rw[Nat.testBit_eq_decide_div_mod_eq (x:=n)]
   have:n/2 ^ k%2<2:=Nat.mod_lt _ (by decide)
   by_cases h1:n/2 ^ k%2=1
   ·rw[h1,Nat.one_mul,Nat.testBit_two_pow,decide_eq_true rfl,Bool.and_true]
    by_cases h:p%8=q%8
    ·rw[decide_eq_true h,decide_eq_true h.symm]
    ·rw[decide_eq_false h,decide_eq_false (fun h2=>h h2.symm)]
   ·have h0:n/2 ^ k%2=0:=by omega
    rw[h0,Nat.zero_mul,Nat.zero_testBit];simp
  rw[e2]
  by_cases h:q=p
  ·subst h;simp
  ·rw[if_neg h,decide_eq_false (by omega),Bool.false_and,Bool.or_false]
 ·have e1:(out.set (p/8) (out.getD (p/8) 0 ||| UInt8.ofNat (n/2 ^ k%2*2 ^ (p%8)))).getD (q/8) 0=out.getD (q/8) 0:=by
   simp[List.getD,List.getElem?_set,Ne.symm hq]
  rw[e1,if_neg (fun h=>hq (by rw[h]))]
theorem packK_B (n:Nat):∀ (m k p:Nat) (out:List UInt8) (q:Nat),p+m≤8*out.length→bitB (packK n m k p out) q=(bitB out q || (decide (p≤q∧q<p+m) && n.testBit (k+(q-p))))
 | 0,k,p,out,q,h=>by
  rw[packK,decide_eq_false (by omega),Bool.false_and,Bool.or_false]
 | m+1,k,p,out,q,h=>by
  rw[packK,packK_B n m (k+1) (p+1) _ q (by rw[putBit_len];omega),putBit_B out p n k q (by omega)]
  by_cases hq:q=p
  ·subst hq
   rw[if_pos rfl,decide_eq_false (by omega),Bool.false_and,Bool.or_false,decide_eq_true (by omega),Bool.true_and,Nat.sub_self,Nat.add_zero]
  ·rw[if_neg hq]
   by_cases h1:p≤q∧q<p+(m+1)
   ·rw[decide_eq_true h1,decide_eq_true (show p+1≤q∧q<p+1+m by omega),show k+1+(q-(p+1))=k+(q-p) by omega]
   ·rw[decide_eq_false h1,decide_eq_false (show ¬ (p+1≤q∧q<p+1+m) by omega),Bool.false_and,Bool.false_and]
theorem packL_B (wd:Nat):∀ (l:List Nat) (p:Nat) (out:List UInt8) (i j:Nat),p+l.length*wd≤8*out.length→i<l.length→j<wd→bitB out (p+i*wd+j)=false→
  bitB (packL wd l p out) (p+i*wd+j)=(l.getD i 0).testBit j
 | [],p,out,i,j,_,hi,_,_=>by simp at hi
 | n :: l,p,out,i,j,h,hi,hj,h0=>by
  have hmul:(n :: l).length*wd=wd+l.length*wd:=by rw[List.length_cons,Nat.add_mul,Nat.one_mul,Nat.add_comm]
  rw[hmul] at h
  rw[packL]
  have hB:=packK_B n wd 0 p out
  rcases i with _ | i
  ·rw[Nat.zero_mul,Nat.add_zero] at h0 ⊢
   have keep:∀ (l:List Nat) (p':Nat) (out:List UInt8) (q:Nat),p'+l.length*wd≤8*out.length→q<p'→bitB (packL wd l p' out) q=bitB out q:=by
    intro l
    induction l with
    | nil=>intro p' out q _ _;rfl
    | cons x l ih=>
     intro p' out q h1 h2
     rw[List.length_cons,Nat.add_mul,Nat.one_mul] at h1
     rw[packL,ih _ _ _ (by rw[packK_len];omega) (by omega),packK_B x wd 0 p' out q (by omega),decide_eq_false (by omega),Bool.false_and,Bool.or_false]
   rw[keep l _ _ _ (by rw[packK_len];omega) (by omega),hB _ (by omega),h0,decide_eq_true (by omega),Bool.true_and,Bool.false_or,Nat.add_sub_cancel_left,Nat.zero_add]
   rfl
  ·have e:p+(i+1)*wd+j=p+wd+i*wd+j:=by rw[Nat.add_mul,Nat.one_mul];omega
   have hi2:i<l.length:=by simpa using hi
   rw[e] at h0 ⊢
   rw[packL_B wd l (p+wd) (packK n wd 0 p out) i j (by rw[packK_len];omega) hi2 hj ?_]
   ·rfl
   ·rw[hB _ (by omega),h0,decide_eq_false (by omega),Bool.false_and,Bool.or_false]
theorem bitB_zero (n q:Nat):bitB (List.replicate n 0) q=false:=by
 unfold bitB
 have:(List.replicate n (0:UInt8)).getD (q/8) 0=0:=by
  simp only[List.getD,List.getElem?_replicate]
  split<;>rfl
 rw[this]
 exact Nat.zero_testBit _
theorem valK_B (l:List UInt8) (p:Nat):∀ (m k acc j:Nat),k+m≤64→(valK l p m k acc).testBit j=(acc.testBit j || (decide (k≤j∧j<k+m) && bitB l (p+j)))
 | 0,k,acc,j,h=>by rw[valK,decide_eq_false (by omega),Bool.false_and,Bool.or_false]
 | m+1,k,acc,j,h=>by
  have e:bitAt l (p+k)*2 ^ k%18446744073709551616=bitAt l (p+k)*2 ^ k:=by
   refine Nat.mod_eq_of_lt ?_
   have h1:bitAt l (p+k)≤1:=by have:=bitAt_lt l (p+k);omega
   have h2:bitAt l (p+k)*2 ^ k≤1*2 ^ k:=Nat.mul_le_mul_right _ h1
   have h3:2 ^ k≤2 ^ 63:=Nat.pow_le_pow_right (by decide) (by omega)
   have e:(2:Nat) ^ 63=9223372036854775808:=by decide
   omega
  have e2:(bitAt l (p+k)*2 ^ k).testBit j=(decide (j=k) && bitB l (p+k)):=by
   rw[bitAt_B]
   cases bitB l (p+k)
   ·simp
   ·show (1*2 ^ k).testBit j=_
    rw[Nat.one_mul,Nat.testBit_two_pow,Bool.and_true]
    by_cases h:k=j
    ·rw[decide_eq_true h,decide_eq_true h.symm]
    ·rw[decide_eq_false h,decide_eq_false (fun h2=>h h2.symm)]
  rw[valK,valK_B l p m (k+1) _ j (by omega),e,Nat.testBit_or,e2]
  by_cases hj:j=k
  ·subst hj
   rw[decide_eq_true rfl,Bool.true_and,decide_eq_false (show ¬ (j+1≤j∧j<j+1+m) by omega),Bool.false_and,Bool.or_false,decide_eq_true (show j≤j∧j<j+(m+1) by omega),Bool.true_and]
  ·rw[decide_eq_false hj,Bool.false_and,Bool.or_false]
   by_cases h1:k≤j∧j<k+(m+1)
   ·rw[decide_eq_true h1,decide_eq_true (show k+1≤j∧j<k+1+m by omega)]
   ·rw[decide_eq_false h1,decide_eq_false (show ¬ (k+1≤j∧j<k+1+m) by omega)]
theorem unpack_pack {l:List Nat} {wd:Nat} (hw:wd≤64) (h:∀ n ∈ l,n<2 ^ wd):unpackB (packB l wd) l.length wd=l:=by
 apply List.ext_getElem
 ·simp[unpackB]
 ·intro i h1 h2
  have e0:(unpackB (packB l wd) l.length wd)[i]=valK (packB l wd) (i*wd) wd 0 0:=by simp[unpackB]
  rw[e0]
  apply Nat.eq_of_testBit_eq
  intro j
  rw[valK_B _ _ wd 0 0 j (by omega),Nat.zero_testBit,Bool.false_or,Nat.zero_add]
  by_cases hj:j<wd
  ·rw[decide_eq_true (by omega),Bool.true_and]
   have hs:0+l.length*wd≤8*(List.replicate (sizeB l.length wd) (0:UInt8)).length:=by
    rw[List.length_replicate];unfold sizeB;omega
   have:=packL_B wd l 0 (List.replicate (sizeB l.length wd) 0) i j hs h2 hj (bitB_zero _ _)
   rw[Nat.zero_add] at this
   show bitB (packL wd l 0 _) (i*wd+j)=_
   rw[this,List.getD,List.getElem?_eq_getElem h2]
   rfl
  ·rw[decide_eq_false (by omega),Bool.false_and]
   have hn:=h l[i] (List.getElem_mem h2)
   exact (Nat.testBit_lt_two_pow (Nat.lt_of_lt_of_le hn (Nat.pow_le_pow_right (by decide) (by omega)))).symm
end Go.Proofs.YtpiobnfakmmpdaaGreat.Lib0
namespace Go.Proofs.YtpiobnfakmmpdaaGreat.Lib0
open Go.RowKit Go.Proofs.YtpiobnfakmmpdaaGreatW.PrintWords Go.ChangeMaps
theorem same_take:∀ (l:List Nat),l.take (sameN l)=List.replicate (sameN l) (l.getD 0 0)
 | []=>rfl
 | x :: t=>by
  unfold sameN
  simp only
  have h1:∀ l:List Nat,l.take (l.takeWhile (·==x)).length=l.takeWhile (·==x):=by
   intro l
   induction l with
   | nil=>rfl
   | cons a l ih=>
    rw[List.takeWhile_cons]
    split
    ·rw[List.length_cons,List.take_succ_cons,ih]
    ·rfl
  have h2:∀ l:List Nat,l.takeWhile (·==x)=List.replicate (l.takeWhile (·==x)).length x:=by
   intro l
   induction l with
   | nil=>rfl
   | cons a l ih=>
    rw[List.takeWhile_cons]
    split
    ·rename_i h
     rw[List.length_cons,List.replicate_succ,← ih]
     congr 1
     simpa using h
    ·rfl
  rw[h1]
  exact h2 _
theorem grpF_form (l:List Nat):∀ (f e:Nat),e%8=0→e<l.length+8→8≤e→∃ m,grpF f l e=8*m∧1≤m∧8*m<l.length+8
 | 0,e,h0,h1,h2=>⟨e/8,by rw[grpF];omega,by omega,by omega⟩
 | f+1,e,h0,h1,h2=>by
  rw[grpF]
  split
  ·exact grpF_form l f (e+8) (by omega) (by omega) (by omega)
  ·exact ⟨e/8,by omega,by omega,by omega⟩
theorem runsF_nil (wd:Nat):∀ g,runsF wd g [] = []
 | 0=>rfl
 | g+1=>by rw[runsF,if_pos List.length_nil]
theorem decR_done (l0:List UInt8) (n wd p:Nat) (out:List Nat) (h:n≤out.length):∀ f,decR l0 n wd f p out=(0,p,out)
 | 0=>rfl
 | f+1=>by rw[decR,if_pos h]
theorem decR_at {l0:List UInt8} {n wd:Nat} (hw:wd≤32) (hn:n≤1099511627776):∀ (g:Nat) (rest:List Nat) (f p:Nat) (out:List Nat),Stand l0 p (runsF wd g rest)→out.length+rest.length=n→rest.length≤g→l0.length<p+f→(∀ x ∈ rest,x<2 ^ wd)→
  ∃ z,decR l0 n wd f p out=(0,p+(runsF wd g rest).length,out++rest++List.replicate z 0)
 | 0,rest,f,p,out,hs,ho,hg,hf,hx=>by
  have:rest = []:=List.eq_nil_of_length_eq_zero (by omega)
  subst this
  exact ⟨0,by rw[decR_done _ _ _ _ _ (by rw[← ho];simp)];simp[runsF]⟩
 | g+1,rest,f,p,out,hs,ho,hg,hf,hx=>by
  by_cases h0:rest.length=0
  ·have:rest = []:=List.eq_nil_of_length_eq_zero h0
   subst this
   exact ⟨0,by rw[decR_done _ _ _ _ _ (by rw[← ho];simp),runsF_nil];simp⟩
  ·obtain ⟨f,rfl⟩:∃ f',f=f'+1:=by
    have:=hs.le
    rcases f with _ | f
    ·exfalso
     have h1:0<(runsF wd (g+1) rest).length:=by
      rw[runsF,if_neg h0]
      split
      ·have:=putV_pos (2*sameN rest);simp only[List.length_append];omega
      ·have:=putV_pos (2*grpF rest.length rest 8/8+1);simp only[List.length_append];omega
     omega
    ·exact ⟨f,rfl⟩
   rw[runsF,if_neg h0] at hs ⊢
   by_cases h8:8≤sameN rest
   ·rw[if_pos h8] at hs ⊢
    have hsl:=sameN_le rest
    have hs1:=hs.left.left
    have hs2:=hs.left.right
    have hs3:=hs.right
    have hg1:=getA_at hs1 (by omega)
    have hle:=hs2.le
    rw[leB_len] at hle
    have hv:leN 0 0 ((l0.take (p+(putV (2*sameN rest)).length+(wd+7)/8)).drop (p+(putV (2*sameN rest)).length))=rest.getD 0 0:=by
     have:=hs2.cut
     rw[leB_len] at this
     rw[this]
     refine leN_leB (by omega) ?_
     have h1:rest.getD 0 0 ∈ rest:=by
      cases rest with
      | nil=>simp at h0
      | cons a t=>simp
     exact Nat.lt_of_lt_of_le (hx _ h1) (Nat.pow_le_pow_right (by decide) (by omega))
    have hst:stepR l0 (p+(putV (2*sameN rest)).length) n wd out (2*sameN rest)=(0,p+(putV (2*sameN rest)).length+(wd+7)/8,out++rest.take (sameN rest)):=by
     unfold stepR runR
     rw[if_pos (by omega),if_neg (by omega),show 2*sameN rest/2=sameN rest by omega,if_neg (by omega),hv,same_take]
    have hpos:=putV_pos (2*sameN rest)
    obtain ⟨z,hz⟩:=decR_at hw hn g (rest.drop (sameN rest)) f (p+(putV (2*sameN rest)).length+(wd+7)/8) (out++rest.take (sameN rest)) (by rw[List.length_append,leB_len,← Nat.add_assoc] at hs3;exact hs3)
     (by rw[List.length_append,List.length_take,List.length_drop];omega) (by rw[List.length_drop];omega) (by omega) (fun x hx'=>hx x (List.mem_of_mem_drop hx'))
    refine ⟨z,?_⟩
    rw[decR,if_neg (by omega),hg1]
    dsimp only
    rw[if_neg (by simp),hst]
    dsimp only
    rw[if_neg (by simp),hz,List.append_assoc out,List.take_append_drop,List.length_append,List.length_append,leB_len]
    simp only[Nat.add_assoc]
   ·rw[if_neg h8] at hs ⊢
    obtain ⟨m,hm,hm1,hm2⟩:=grpF_form rest rest.length 8 rfl (by omega) (Nat.le_refl _)
    rw[hm,show 2*(8*m)/8+1=2*m+1 by omega] at hs ⊢
    have hs1:=hs.left.left
    have hs2:=hs.left.right
    have hs3:=hs.right
    have hg1:=getA_at hs1 (by omega)
    have hle:=hs2.le
    have hpl:(packB (padN rest (8*m)) wd).length=m*wd:=by
     rw[packB_len,padN_len]
     unfold sizeB
     rw[Nat.mul_assoc]
     omega
    rw[hpl] at hle
    have hu:unpackB ((l0.take (p+(putV (2*m+1)).length+m*wd)).drop (p+(putV (2*m+1)).length)) (8*m) wd=padN rest (8*m):=by
     have:=hs2.cut
     rw[hpl] at this
     rw[this]
     have h1:=unpack_pack (l:=padN rest (8*m)) (wd:=wd) (by omega) (fun x hx'=>by
      rcases padN_mem hx' with h | h
      ·exact hx x h
      ·rw[h];exact Nat.two_pow_pos _)
     rw[padN_len] at h1
     exact h1
    have hmw:0<wd→m≤m*wd:=fun h=>Nat.le_mul_of_pos_right m h
    have hst:stepR l0 (p+(putV (2*m+1)).length) n wd out (2*m+1)=(0,p+(putV (2*m+1)).length+m*wd,out++padN rest (8*m)):=by
     unfold stepR groupsR
     rw[if_neg (by omega),show (2*m+1)/2=m by omega,if_neg (by intro h;have:=hmw h.1;omega),if_neg (by omega),if_neg (by omega),hu]
    have hpos:=putV_pos (2*m+1)
    rw[List.length_append,hpl,← Nat.add_assoc] at hs3
    by_cases hr:8*m≤rest.length
    ·have hpad:padN rest (8*m)=rest.take (8*m):=by unfold padN;rw[show 8*m-rest.length=0 by omega];simp
     rw[hpad] at hst
     obtain ⟨z,hz⟩:=decR_at hw hn g (rest.drop (8*m)) f (p+(putV (2*m+1)).length+m*wd) (out++rest.take (8*m)) hs3
      (by rw[List.length_append,List.length_take,List.length_drop];omega) (by rw[List.length_drop];omega) (by omega) (fun x hx'=>hx x (List.mem_of_mem_drop hx'))
     refine ⟨z,?_⟩
     rw[decR,if_neg (by omega),hg1]
     dsimp only
     rw[if_neg (by simp),hst]
     dsimp only
     rw[if_neg (by simp),hz,List.append_assoc out,List.take_append_drop,List.length_append,List.length_append,hpl]
     simp only[Nat.add_assoc]
    ·have hd:rest.drop (8*m) = []:=List.drop_eq_nil_of_le (by omega)
     have hpad:padN rest (8*m)=rest++List.replicate (8*m-rest.length) 0:=by unfold padN;rw[List.take_of_length_le (by omega)]
     rw[hpad] at hst
     refine ⟨8*m-rest.length,?_⟩
     rw[decR,if_neg (by omega),hg1]
     dsimp only
     rw[if_neg (by simp),hst]
     dsimp only
     rw[if_neg (by simp),decR_done _ _ _ _ _ (by simp only[List.length_append];omega),hd,runsF_nil,List.append_nil,List.length_append,hpl,List.append_assoc]
     simp only[Nat.add_assoc]
theorem runsD_at {l0:List UInt8} {p wd:Nat} {l:List Nat} (h:Stand l0 p (runsB l wd).1) (hw:wd≤32) (hl:widthL l≤wd) (hn:l.length≤1099511627776):runsD l0 p l.length wd=(l,p+(runsB l wd).1.length,0):=by
 have he:runsB l (wd:Int)=(runsF wd l.length l,0):=by
  unfold runsB
  rw[if_neg (by omega),Int.toNat_natCast]
 rw[he] at h ⊢
 dsimp only at h ⊢
 obtain ⟨z,hz⟩:=decR_at hw hn l.length l (l0.length+1) p [] h (by simp) (Nat.le_refl _) (by omega) (fun x hx=>width_mem hl hx)
 unfold runsD endR
 rw[hz]
 dsimp only
 rw[List.nil_append,if_neg (by simp),List.drop_left,List.take_left,he,if_neg,if_neg]
 ·dsimp only
  have:=h.cut
  rw[this]
  simp
 ·simp
end Go.Proofs.YtpiobnfakmmpdaaGreat.Lib0
namespace Go.Proofs.YtpiobnfakmmpdaaGreat.Lib0
open Go.RowKit Go.Proofs.YtpiobnfakmmpdaaGreatW.PrintWords Go.ChangeMaps
theorem lessS_byt (a b:ByteArray):lessS a b=decide (byt a<byt b):=by
 unfold lessS
 rw[Go.Proofs.bytesLess_eq,ByteArray.toList_eq,ByteArray.toList_eq]
 rfl
theorem lessS_trans {a b c:ByteArray} (h:lessS a b=true) (g:lessS b c=true):lessS a c=true:=by
 rw[lessS_byt,decide_eq_true_eq] at *
 exact List.lt_trans h g
theorem lessS_irrefl (a:ByteArray):lessS a a=false:=by
 rw[lessS_byt,decide_eq_false_iff_not]
 exact List.lt_irrefl _
theorem lessS_tri {a b:ByteArray} (h:lessS a b=false) (g:lessS b a=false):a=b:=by
 rw[lessS_byt,decide_eq_false_iff_not] at *
 have:=List.le_antisymm (List.not_lt.1 g) (List.not_lt.1 h)
 have h2:=congrArg str this
 rw[str_byt,str_byt] at h2
 exact h2
def lbF (p:Nat→Bool):Nat→Nat→Nat→Nat
 | 0,i,_=>i
 | f+1,i,j=>if i<j then (if p ((i+j)/2) then lbF p f ((i+j)/2+1) j else lbF p f i ((i+j)/2)) else i
theorem lbF_spec (p:Nat→Bool) (n:Nat) (mono:∀ a b,a≤b→b<n→p b=true→p a=true):∀ (f i j:Nat),i≤j→j≤n→j-i≤f→(∀ m,m<i→p m=true)→(∀ m,j≤m→m<n→p m=false)→
  lbF p f i j≤n∧(∀ m,m<lbF p f i j→p m=true)∧(∀ m,lbF p f i j≤m→m<n→p m=false)
 | 0,i,j,h1,h2,h3,h4,h5=>by
  rw[lbF]
  exact ⟨by omega,h4,fun m h=>h5 m (by omega)⟩
 | f+1,i,j,h1,h2,h3,h4,h5=>by
  rw[lbF]
  split
  ·rename_i hij
   split
   ·rename_i hp
    exact lbF_spec p n mono f _ j (by omega) h2 (by omega) (fun m hm=>mono m _ (by omega) (by omega) hp) h5
   ·rename_i hp
    refine lbF_spec p n mono f i _ (by omega) (by omega) (by omega) h4 (fun m h6 h7=>?_)
    cases hpm:p m
    ·rfl
    ·exact absurd (mono _ m h6 h7 hpm) hp
  ·exact ⟨by omega,h4,fun m h=>h5 m (by omega)⟩
theorem bsS_lb (d:List ByteArray) (s:ByteArray):∀ f i j,bsS d s f i j=lbF (fun m=>lessS (d.getD m ByteArray.empty) s) f i j
 | 0,i,j=>rfl
 | f+1,i,j=>by rw[bsS,lbF,bsS_lb d s f,bsS_lb d s f]
def RiseS (d:List ByteArray):Prop:=∀ i j,(_:i<j)→(h:j<d.length)→lessS (d[i]'(by omega)) d[j]=true
theorem RiseS.get {d:List ByteArray} (h:RiseS d) {i j:Nat} (hi:i<j) (hj:j<d.length):lessS (d.getD i ByteArray.empty) (d.getD j ByteArray.empty)=true:=by
 have:=h i j hi hj
 simpa [List.getD,List.getElem?_eq_getElem hj,List.getElem?_eq_getElem (show i<d.length by omega)] using this
theorem RiseS.rises {d:List ByteArray} (h:RiseS d):risesS d=true:=risesS_true d (fun i hi=>h i (i+1) (by omega) hi)
theorem find_at {d:List ByteArray} (h:RiseS d) {q:Nat} (hq:q<d.length):findS d d[q]=(q,true):=by
 obtain ⟨h1,h2,h3⟩:=lbF_spec (fun m=>lessS (d.getD m ByteArray.empty) d[q]) d.length (fun a b hab hb hp=>by
  rcases Nat.lt_or_ge a b with hl | hl
  ·exact lessS_trans (h.get hl hb) hp
  ·obtain rfl:a=b:=by omega
   exact hp) d.length 0 d.length (Nat.zero_le _) (Nat.le_refl _) (by omega) (fun m hm=>by omega) (fun m h4 h5=>by omega)
 have hdq:d.getD q ByteArray.empty=d[q]:=by simp[List.getD,List.getElem?_eq_getElem hq]
 have hr:lbF (fun m=>lessS (d.getD m ByteArray.empty) d[q]) d.length 0 d.length=q:=by
  rcases Nat.lt_trichotomy (lbF (fun m=>lessS (d.getD m ByteArray.empty) d[q]) d.length 0 d.length) q with hl | hl | hl
  ·have h4:=h3 _ (Nat.le_refl _) (by omega)
   have h5:=h.get hl hq
   rw[hdq] at h5
   rw[h5] at h4
   cases h4
  ·exact hl
  ·have h4:=h2 q hl
   rw[hdq,lessS_irrefl] at h4
   cases h4
 unfold findS findB
 rw[bsS_lb,hr,hdq]
 simp[hq]
theorem sort_le (l:List (List UInt8)):(l.mergeSort fun x y=>decide (x≤y)).Pairwise (·≤·):=by
 have:=List.pairwise_mergeSort (le:=fun x y:List UInt8=>decide (x≤y)) (fun a b c h1 h2=>by
  simp only[decide_eq_true_eq] at *
  exact List.le_trans h1 h2) (fun a b=>by
  simp only[Bool.or_eq_true,decide_eq_true_eq]
  exact List.le_total a b) l
 simpa using this
theorem compact_of (zs:List (List UInt8)) (h:zs.Pairwise (·≤·)):∀ m,m≤zs.length→(Lib.compactUpTo zs.toArray m).Pairwise (· < ·)∧∀ x,x ∈ Lib.compactUpTo zs.toArray m↔x ∈ zs.take m
 | 0,_=>by simp[Lib.compactUpTo]
 | m+1,hm=>by
  obtain ⟨h1,h2⟩:=compact_of zs h m (by omega)
  have hml:m<zs.length:=by omega
  have hg:zs.toArray[m]! = zs[m]:=by simp[hml]
  rw[Lib.compactUpTo_succ,hg]
  have hmem:∀ x,x ∈ zs.take (m+1)↔x ∈ zs.take m∨x=zs[m]:=fun x=>by
   rw[List.take_succ_eq_append_getElem hml,List.mem_append,List.mem_singleton]
  by_cases hk:Lib.keeps zs.toArray m=true
  ·rw[if_pos hk]
   refine ⟨?_,fun x=>by rw[List.mem_append,List.mem_singleton,hmem,h2]⟩
   rw[List.pairwise_append]
   refine ⟨h1,List.pairwise_singleton _ _,fun a ha b hb=>?_⟩
   rw[List.mem_singleton.1 hb]
   have ha2:=(h2 a).1 ha
   obtain ⟨j,hj,hja⟩:=List.mem_iff_getElem.1 ha2
   rw[List.length_take] at hj
   rw[List.getElem_take] at hja
   have hm0:0<m:=by omega
   have hne:zs[m]≠zs[m-1]:=by
    have:¬ m=0:=by omega
    simp only[Lib.keeps,this,false_or,decide_eq_true_eq] at hk
    rw[hg] at hk
    have hg2:zs.toArray[m-1]! = zs[m-1]:=by simp[show m-1<zs.length by omega]
    rw[hg2] at hk
    exact hk
   have hle1:zs[m-1]≤zs[m]:=List.pairwise_iff_getElem.1 h (m-1) m (by omega) hml (by omega)
   have hle2:a≤zs[m-1]:=by
    rw[← hja]
    rcases Nat.lt_or_ge j (m-1) with hl | hl
    ·exact List.pairwise_iff_getElem.1 h j (m-1) (by omega) (by omega) hl
    ·have:j=m-1:=by omega
     subst this
     exact List.le_refl _
   have hlt:zs[m-1]<zs[m]:=by
    rcases Classical.em (zs[m-1]<zs[m]) with hh | hh
    ·exact hh
    ·exact absurd (List.le_antisymm (List.not_lt.1 hh) hle1) hne
   rcases Classical.em (a<zs[m]) with hh | hh
   ·exact hh
   ·exact absurd (List.le_antisymm (List.le_trans (List.not_lt.1 hh) hle2) hle1) hne
  ·rw[if_neg hk,List.append_nil]
   refine ⟨h1,fun x=>?_⟩
   rw[hmem,h2]
   have hm0:¬ m=0:=by
    intro e
    subst e
    simp[Lib.keeps] at hk
   have hg2:zs.toArray[m-1]! = zs[m-1]:=by simp[show m-1<zs.length by omega]
   have he:zs[m]=zs[m-1]:=by
    have hk2:Lib.keeps zs.toArray m=false:=by simpa using hk
    simp only[Lib.keeps,hm0,false_or,decide_eq_false_iff_not,ne_eq,Classical.not_not] at hk2
    rw[hg,hg2] at hk2
    simpa using hk2
   constructor
   ·exact .inl
   ·rintro (h | h)
    ·exact h
    ·rw[h,he]
     exact List.mem_iff_getElem.2 ⟨m-1,by rw[List.length_take];omega,by rw[List.getElem_take]⟩
theorem dictL_spec (l:List ByteArray):RiseS (dictL l)∧∀ s,s ∈ dictL l↔s ∈ l:=by
 have hb:((sortL l).map byt)=(l.map byt).mergeSort fun x y=>decide (x≤y):=by
  unfold sortL
  rw[List.map_map]
  conv=>rhs;rw[← List.map_id ((l.map byt).mergeSort fun x y=>decide (x≤y))]
  exact List.map_congr_left (fun x _=>byt_str x)
 have hz:=sort_le (l.map byt)
 obtain ⟨h1,h2⟩:=compact_of ((l.map byt).mergeSort fun x y=>decide (x≤y)) hz _ (Nat.le_refl _)
 have hd:dictL l=(Lib.compactUpTo ((l.map byt).mergeSort fun x y=>decide (x≤y)).toArray ((l.map byt).mergeSort fun x y=>decide (x≤y)).length).map str:=by
  unfold dictL compL
  rw[hb]
  rfl
 rw[hd]
 refine ⟨fun i j hij hj=>?_,fun s=>?_⟩
 ·rw[List.getElem_map,List.getElem_map,lessS_byt,byt_str,byt_str,decide_eq_true_eq]
  rw[List.length_map] at hj;exact List.pairwise_iff_getElem.1 h1 i j (by omega) hj hij
 ·rw[List.mem_map]
  constructor
  ·rintro ⟨x,hx,rfl⟩
   have:=(h2 x).1 hx
   rw[List.take_length,(List.mergeSort_perm _ _).mem_iff,List.mem_map] at this
   obtain ⟨t,ht,rfl⟩:=this
   rw[str_byt]
   exact ht
  ·intro hs
   refine ⟨byt s,(h2 _).2 ?_,str_byt s⟩
   rw[List.take_length,(List.mergeSort_perm _ _).mem_iff]
   exact List.mem_map_of_mem hs
end Go.Proofs.YtpiobnfakmmpdaaGreat.Lib0

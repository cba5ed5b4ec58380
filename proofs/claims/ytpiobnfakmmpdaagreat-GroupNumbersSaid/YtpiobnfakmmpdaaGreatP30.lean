import Derived.Test.YtpiobnfakmmpdaaGreatP29
set_option linter.unusedVariables false
set_option linter.unusedSimpArgs false
namespace Go.Proofs.YtpiobnfakmmpdaaGreat.Lib0
open Go.RowKit Go.Proofs.YtpiobnfakmmpdaaGreatW.PrintWords Go.ChangeMaps
theorem small_le {n:Nat} (h:n≤1099511627776):small n=n:=by unfold small;rw[if_pos h]
theorem width_of_max {l:List Nat} {n:Nat} (h:∀ x ∈ l,x≤n) (hn:n ∈ l∨n=0):widthL l=widthL [n]:=by
 have e:orF [n]=n:=by unfold orF;simp
 unfold widthL
 rw[e]
 apply Nat.le_antisymm
 ·refine bitlen_le _ _ (orF_pow fun x hx=>?_)
  exact Nat.lt_of_le_of_lt (h x hx) (bitlen_lt _ n (Nat.le_refl _))
 ·refine bitlen_le _ _ ?_
  rcases hn with hn | hn
  ·exact Nat.lt_of_le_of_lt (orF_mem hn) (bitlen_lt _ _ (Nat.le_refl _))
  ·rw[hn];exact Nat.two_pow_pos _
theorem natsL_places (d l:List ByteArray):natsL (placesL d l)=l.map fun s=>(findS d s).1:=by
 unfold natsL placesL
 rw[List.map_map]
 exact List.map_congr_left (fun s _=>by simp)
theorem places_lt {d l:List ByteArray} (h:RiseS d) (hm:∀ s ∈ l,s ∈ d):∀ s ∈ l,(findS d s).1<d.length∧d.getD (findS d s).1 ByteArray.empty=s:=by
 intro s hs
 obtain ⟨q,hq,rfl⟩:=List.mem_iff_getElem.1 (hm s hs)
 rw[find_at h hq]
 exact ⟨hq,by simp[List.getD,List.getElem?_eq_getElem hq]⟩
theorem places_width (l:List ByteArray):widthL (natsL (placesL (dictL l) l))=widthL [(dictL l).length-1]:=by
 obtain ⟨h1,h2⟩:=dictL_spec l
 have h3:=places_lt h1 (fun s hs=>(h2 s).2 hs)
 rw[natsL_places]
 refine width_of_max (fun x hx=>?_) ?_
 ·obtain ⟨s,hs,rfl⟩:=List.mem_map.1 hx
  have:=(h3 s hs).1
  omega
 ·rcases Nat.eq_zero_or_pos (dictL l).length with h0 | h0
  ·exact .inr (by omega)
  ·refine .inl (List.mem_map.2 ⟨(dictL l)[(dictL l).length-1],(h2 _).1 (List.getElem_mem _),?_⟩)
   rw[find_at h1 (by omega)]
theorem decDL_at {l:List UInt8}:∀ (d:List ByteArray) (a:Nat) (out:List ByteArray),Stand l a (textsB d)→(∀ s ∈ d,s.size≤40)→decDL l d.length a out=(out++d,((a+(textsB d).length:Nat):Int),0)
 | [],a,out,_,_=>by simp[decDL,textsB]
 | s :: d,a,out,h,hs=>by
  rw[textsB] at h
  have h40:=hs s (by simp)
  have hl:(byt s).length=s.size:=byt_length s
  have h1:Stand l a (putV (byt s).length++byt s):=by rw[hl];exact h.left
  have h2:=h.right
  rw[List.length_cons,decDL,getT_at h1 (by omega) (by omega)]
  dsimp only
  rw[if_neg (by simp),str_byt]
  have e:(putV (byt s).length++byt s)=textB s:=by rw[hl];rfl
  rw[e,decDL_at d _ _ h2 (fun x hx=>hs x (by simp[hx])),textsB,List.append_assoc,List.singleton_append,List.length_append,Nat.add_assoc]
theorem dictB_fit {d:List ByteArray} (h:RiseS d) (hl:d.length≤16) (hs:∀ s ∈ d,s.size≤40):dictB d=(putV d.length++textsB d,0):=by
 unfold dictB fitsB
 rw[if_pos]
 simp only[Bool.and_eq_true,decide_eq_true_eq,Bool.not_eq_true',List.any_eq_false]
 exact ⟨hl,h.rises,fun s h1=>by have:=hs s h1;simp;omega⟩
theorem dictR_at {l:List UInt8} {a:Nat} {d:List ByteArray} (h:Stand l a (dictB d).1) (hd:RiseS d) (hl:d.length≤16) (hs:∀ s ∈ d,s.size≤40):dictR l a=(d,((a+(dictB d).1.length:Nat):Int),0):=by
 rw[dictB_fit hd hl hs] at h ⊢
 dsimp only at h ⊢
 have he:=endA_at h.left (by omega)
 have hg:=getA_at h.left (by omega)
 unfold dictR
 rw[he,hg]
 dsimp only
 rw[if_neg (by simp),small_le (by omega),if_neg (by omega),decDL_at d _ [] h.right hs,List.nil_append]
 unfold dictE
 dsimp only
 rw[if_neg (by simp),if_pos hd.rises,List.length_append,Nat.add_assoc]
theorem codedR_at {l:List UInt8} {a:Nat} {x:List ByteArray} (h:Stand l a (codedB (dictL x) (placesL (dictL x) x))) (hl:(dictL x).length≤16) (hs:∀ s ∈ x,s.size≤40) (hx:x.length≤1099511627776) :
  codedR l a x.length=(dictL x,natsL (placesL (dictL x) x),((a+(codedB (dictL x) (placesL (dictL x) x)).length:Nat):Int),0):=by
 obtain ⟨h1,h2⟩:=dictL_spec x
 unfold codedB at h ⊢
 have hd:=dictR_at h.left h1 hl (fun s h3=>hs s ((h2 s).1 h3))
 have hlen:(natsL (placesL (dictL x) x)).length=x.length:=by rw[natsL_places,List.length_map]
 have hw:widthL (natsL (placesL (dictL x) x))≤4:=by
  rw[places_width]
  refine width_of fun n hn=>?_
  rw[List.mem_singleton.1 hn]
  have:(2:Nat) ^ 4=16:=by decide
  omega
 have hr:=runsD_at h.right (by omega) (Nat.le_refl _) (by omega)
 rw[hlen] at hr
 unfold codedR numbersR
 rw[hd]
 dsimp only
 rw[if_pos rfl,Int.toNat_natCast,← places_width,hr]
 dsimp only
 rw[List.length_append,Nat.add_assoc]
def NormC (kind:Int) (c:CellM):Prop:=c=noCell∨(c.kind=kind∧c.col=ByteArray.empty∧((kind=1∧c.s=ByteArray.empty∧I64 c.n)∨(kind=2∧c.n=0∧c.s.size≤40)))
theorem NormC.right {kind:Int} {c:CellM} (h:NormC kind c):rightB kind c=true:=by
 unfold rightB
 rcases h with rfl | ⟨h1,h2,h3⟩
 ·rfl
 ·rcases h3 with ⟨k1,k2,k3⟩ | ⟨k1,k2,k3⟩
  ·simp[h1,k1]
  ·simp[h1,k1,k3]
theorem readF_nums {l:List UInt8} (d:List ByteArray):∀ (x:List CellM) (codes:List Nat) (p:Nat) (cs:List CellM) (ats:List Int),Stand l p (numsB x)→(∀ c ∈ x,NormC 1 c)→
  ∃ at_,readF l d 1 (nullsL x) codes p 0 cs ats=(cs++x,at_,((p+(numsB x).length:Nat):Int),0)
 | [],codes,p,cs,ats,_,_=>⟨ats,by simp[readF,nullsL,numsB]⟩
 | c :: x,codes,p,cs,ats,h,hx=>by
  have hn:nullsL (c :: x)=(if c.kind=0 then 1 else 0) :: nullsL x:=rfl
  rw[numsB] at h
  rw[hn,readF]
  rcases hx c (by simp) with rfl | ⟨h1,h2,h3⟩
  ·have e:(if noCell.kind=0 then 1 else 0)=1:=rfl
   have hb:(if noCell.kind=1 then putV (zig noCell.n) else []) = []:=rfl
   rw[hb,List.nil_append] at h
   have hs:stepC l d 1 1 codes p 0=(noCell,-1,codes,(p:Int),0):=by unfold stepC;rw[if_pos (.inl rfl)]
   rw[e,hs]
   obtain ⟨at_,ha⟩:=readF_nums d x codes p (cs++[noCell]) (ats++[-1]) h (fun q hq=>hx q (by simp[hq]))
   exact ⟨at_,by rw[ha,numsB,hb,List.nil_append,List.append_assoc,List.singleton_append]⟩
  ·rcases h3 with ⟨_,k2,k3⟩ | ⟨k1,_⟩
   ·have e:(if c.kind=0 then 1 else 0)=0:=by rw[if_neg (by omega)]
    rw[if_pos h1] at h
    have hz:=zig_lt k3
    have hg:=getA_at h.left hz
    have he:=endA_at h.left hz
    have hcell:(⟨ByteArray.empty,1,c.n,ByteArray.empty⟩:CellM)=c:=by
     obtain ⟨a,b,n,s⟩:=c
     dsimp only at h1 h2 k2
     rw[h1,h2,k2]
    have hs:stepC l d 1 0 codes p 0=(c,-1,codes,((p+(putV (zig c.n)).length:Nat):Int),0):=by
     unfold stepC valueR
     rw[if_neg (by simp),if_pos (by decide),if_pos rfl,he,hg]
     dsimp only
     rw[zag_zig,hcell]
    rw[e,hs]
    obtain ⟨at_,ha⟩:=readF_nums d x codes _ (cs++[c]) (ats++[-1]) h.right (fun q hq=>hx q (by simp[hq]))
    exact ⟨at_,by rw[ha,numsB,if_pos h1,List.append_assoc,List.singleton_append,List.length_append,Nat.add_assoc]⟩
   ·cases k1
theorem readF_texts {l:List UInt8} (d:List ByteArray):∀ (x:List CellM) (codes:List Nat) (p:Nat) (cs:List CellM) (ats:List Int),Stand l p (textsB (textsOf x))→(∀ c ∈ x,NormC 2 c)→
  ∃ at_,readF l d 3 (nullsL x) codes p 0 cs ats=(cs++x,at_,((p+(textsB (textsOf x)).length:Nat):Int),0)
 | [],codes,p,cs,ats,_,_=>⟨ats,by simp[readF,nullsL,textsOf,textsB]⟩
 | c :: x,codes,p,cs,ats,h,hx=>by
  have hn:nullsL (c :: x)=(if c.kind=0 then 1 else 0) :: nullsL x:=rfl
  rw[textsOf] at h
  rw[hn,readF]
  rcases hx c (by simp) with rfl | ⟨h1,h2,h3⟩
  ·have e:(if noCell.kind=0 then 1 else 0)=1:=rfl
   have hb:(if noCell.kind=0∨noCell.kind=1 then [] else [noCell.s]) = []:=rfl
   rw[hb,List.nil_append] at h
   have hs:stepC l d 3 1 codes p 0=(noCell,-1,codes,(p:Int),0):=by unfold stepC;rw[if_pos (.inl rfl)]
   rw[e,hs]
   obtain ⟨at_,ha⟩:=readF_texts d x codes p (cs++[noCell]) (ats++[-1]) h (fun q hq=>hx q (by simp[hq]))
   exact ⟨at_,by rw[ha,textsOf,hb,List.nil_append,List.append_assoc,List.singleton_append]⟩
  ·rcases h3 with ⟨k1,_⟩ | ⟨_,k2,k3⟩
   ·cases k1
   ·have e:(if c.kind=0 then 1 else 0)=0:=by rw[if_neg (by omega)]
    rw[if_neg (by omega),List.singleton_append,textsB] at h
    have hl:(byt c.s).length=c.s.size:=byt_length c.s
    have h4:Stand l p (putV (byt c.s).length++byt c.s):=by rw[hl];exact h.left
    have e2:(putV (byt c.s).length++byt c.s)=textB c.s:=by rw[hl];rfl
    have hg:=getT_at h4 (most:=40) (by omega) (by omega)
    rw[e2] at hg
    have hcell:(⟨ByteArray.empty,2,0,c.s⟩:CellM)=c:=by
     obtain ⟨a,b,n,s⟩:=c
     dsimp only at h1 h2 k2
     rw[h1,h2,k2]
    have hs:stepC l d 3 0 codes p 0=(c,-1,codes,((p+(textB c.s).length:Nat):Int),0):=by
     unfold stepC valueR
     rw[if_neg (by simp),if_pos (by decide),if_neg (by decide),hg]
     dsimp only
     rw[str_byt,hcell]
    rw[e,hs]
    obtain ⟨at_,ha⟩:=readF_texts d x codes _ (cs++[c]) (ats++[-1]) h.right (fun q hq=>hx q (by simp[hq]))
    exact ⟨at_,by rw[ha,textsOf,if_neg (by omega),List.singleton_append,textsB,List.append_assoc,List.singleton_append,List.length_append,Nat.add_assoc]⟩
theorem readF_codes {l:List UInt8} (d:List ByteArray) (p:Int):∀ (x:List CellM) (cs:List CellM) (ats:List Int),(∀ s ∈ textsOf x,(findS d s).1<d.length∧d.getD (findS d s).1 ByteArray.empty=s)→(∀ c ∈ x,NormC 2 c)→
  ∃ at_,readF l d 2 (nullsL x) ((textsOf x).map fun s=>(findS d s).1) p 0 cs ats=(cs++x,at_,p,0)
 | [],cs,ats,_,_=>⟨ats,by simp[readF,nullsL]⟩
 | c :: x,cs,ats,hd,hx=>by
  have hn:nullsL (c :: x)=(if c.kind=0 then 1 else 0) :: nullsL x:=rfl
  rw[hn,readF]
  rcases hx c (by simp) with rfl | ⟨h1,h2,h3⟩
  ·have e:(if noCell.kind=0 then 1 else 0)=1:=rfl
   have hb:textsOf (noCell :: x)=textsOf x:=rfl
   rw[hb] at hd ⊢
   have hs:∀ codes,stepC l d 2 1 codes p 0=(noCell,-1,codes,p,0):=fun codes=>by unfold stepC;rw[if_pos (.inl rfl)]
   rw[e,hs]
   obtain ⟨at_,ha⟩:=readF_codes (l:=l) d p x (cs++[noCell]) (ats++[-1]) hd (fun q hq=>hx q (by simp[hq]))
   exact ⟨at_,by rw[ha,List.append_assoc,List.singleton_append]⟩
  ·rcases h3 with ⟨k1,_⟩ | ⟨_,k2,k3⟩
   ·cases k1
   ·have e:(if c.kind=0 then 1 else 0)=0:=by rw[if_neg (by omega)]
    have hb:textsOf (c :: x)=c.s :: textsOf x:=by rw[textsOf,if_neg (by omega),List.singleton_append]
    rw[hb] at hd ⊢
    obtain ⟨q1,q2⟩:=hd c.s (by simp)
    have hcell:(⟨ByteArray.empty,2,0,c.s⟩:CellM)=c:=by
     obtain ⟨a,b,n,s⟩:=c
     dsimp only at h1 h2 k2
     rw[h1,h2,k2]
    have hs:stepC l d 2 0 ((c.s :: textsOf x).map fun s=>(findS d s).1) p 0=(c,(((findS d c.s).1:Nat):Int),((textsOf x).map fun s=>(findS d s).1),p,0):=by
     unfold stepC
     have e0:((c.s :: textsOf x).map fun s=>(findS d s).1).getD 0 0=(findS d c.s).1:=rfl
     rw[if_neg (by simp),if_neg (by decide),e0,if_neg (by omega),q2,hcell]
     rfl
    rw[e,hs]
    obtain ⟨at_,ha⟩:=readF_codes (l:=l) d p x (cs++[c]) (ats++[(((findS d c.s).1:Nat):Int)]) (fun s hs'=>hd s (by simp[hs'])) (fun q hq=>hx q (by simp[hq]))
    exact ⟨at_,by rw[ha,List.append_assoc,List.singleton_append]⟩
theorem zeros_texts:∀ (x:List CellM),(∀ c ∈ x,NormC 2 c)→zerosN (nullsL x)=(textsOf x).length
 | [],_=>rfl
 | c :: x,h=>by
  have hn:nullsL (c :: x)=(if c.kind=0 then 1 else 0) :: nullsL x:=rfl
  have ih:=zeros_texts x (fun q hq=>h q (by simp[hq]))
  rw[hn,zerosN,ih]
  rcases h c (by simp) with rfl | ⟨h1,h2,h3⟩
  ·show 0+(textsOf x).length=(textsOf x).length
   omega
  ·rcases h3 with ⟨k1,_⟩ | ⟨_,_⟩
   ·cases k1
   ·rw[if_neg (by omega),textsOf,if_neg (by omega),List.length_append,List.length_singleton]
theorem nulls_width (x:List CellM):widthL (nullsL x)≤1:=by
 refine width_of fun n hn=>?_
 obtain ⟨c,_,rfl⟩:=List.mem_map.1 hn
 split<;>decide
theorem nulls_len (x:List CellM):(nullsL x).length=x.length:=by simp[nullsL]
theorem texts_norm:∀ (x:List CellM),(∀ c ∈ x,NormC 2 c)→∀ s ∈ textsOf x,s.size≤40
 | [],_,s,hs=>by cases hs
 | c :: x,h,s,hs=>by
  rw[textsOf] at hs
  rcases List.mem_append.1 hs with hs | hs
  ·rcases h c (by simp) with rfl | ⟨h1,h2,h3⟩
   ·cases hs
   ·rcases h3 with ⟨k1,_⟩ | ⟨_,_,k3⟩
    ·cases k1
    ·rw[if_neg (by omega)] at hs
     rw[List.mem_singleton.1 hs]
     exact k3
  ·exact texts_norm x (fun q hq=>h q (by simp[hq])) s hs
theorem openR_at {kind:Int} {x:List CellM} (hk:kind=1∨kind=2) (hl:x.length≤65536) (hx:∀ c ∈ x,NormC kind c):(chunkB kind x).2=0∧∃ form,openR (chunkB kind x).1=some (form,x)∧kindOf form=kind:=by
 have hc:chunkB kind x=(putV (bodyF kind x).1++putV x.length++(runsB (nullsL x) 1).1++(bodyF kind x).2,0):=by
  unfold chunkB
  rw[if_neg (by omega),if_neg (by omega),if_neg]
  intro h
  obtain ⟨c,h1,h2⟩:=List.any_eq_true.1 h
  rw[(hx c h1).right] at h2
  cases h2
 refine ⟨by rw[hc],(bodyF kind x).1,?_,?_⟩
 ·have hB:(chunkB kind x).1=putV (bodyF kind x).1++putV x.length++(runsB (nullsL x) 1).1++(bodyF kind x).2:=by rw[hc]
  obtain ⟨B,hBd⟩:∃ B,B=(chunkB kind x).1:=⟨_,rfl⟩
  rw[← hBd] at hB ⊢
  have hS:=Stand.all B
  rw[hB] at hS
  have hS0:Stand B 0 (putV (bodyF kind x).1++putV x.length++(runsB (nullsL x) 1).1++(bodyF kind x).2):=by rw[hB];exact hS
  clear hS
  have hform:(bodyF kind x).1≤3∧1≤(bodyF kind x).1:=by
   unfold bodyF
   split
   ·split<;>simp
   ·simp
  have s1:=hS0.left.left.left
  have s2:=hS0.left.left.right
  have s3:=hS0.left.right
  have s4:=hS0.right
  have g1:=getA_at s1 (by omega)
  have e1:=endA_at s1 (by omega)
  have g2:=getA_at s2 (by omega)
  have e2:=endA_at s2 (by omega)
  have hrun:=runsD_at (wd:=1) s3 (by decide) (nulls_width x) (by rw[nulls_len];omega)
  rw[nulls_len] at hrun
  have hlen:B.length=0+(putV (bodyF kind x).1++putV x.length++(runsB (nullsL x) 1).1).length+(bodyF kind x).2.length:=by rw[hB,List.length_append];omega
  have hR:(readR B).cells=x∧(readR B).ok=true:=by
   have hQ:readR B=readQ B (bodyF kind x).1 (nullsL x,((0+(putV (bodyF kind x).1++putV x.length++(runsB (nullsL x) 1).1).length:Nat):Int),0):=by
    have sm1:smallR B 0 0=((bodyF kind x).1,((0+(putV (bodyF kind x).1).length:Nat):Int),0):=by
     unfold smallR
     rw[if_pos rfl]
     have g1':getA B 0=_:=g1
     have e1':endA 0 (getA B 0)=_:=e1
     rw[e1',g1',small_le (by dsimp only;omega)]
    have sm2:smallR B ((0+(putV (bodyF kind x).1).length:Nat):Int) 0=(x.length,((0+(putV (bodyF kind x).1++putV x.length).length:Nat):Int),0):=by
     unfold smallR
     rw[if_pos rfl,e2,g2,small_le (by dsimp only;omega),List.length_append,Nat.add_assoc]
    unfold readR
    rw[sm1]
    dsimp only
    rw[sm2]
    dsimp only
    rw[if_neg (by omega)]
    congr 1
    unfold numbersR
    rw[if_pos rfl,Int.toNat_natCast,hrun]
    dsimp only
    rw[List.length_append (bs:=(runsB (nullsL x) 1).1),Nat.add_assoc]
    rfl
   rw[hQ]
   unfold readQ
   rw[if_neg (by simp)]
   dsimp only
   rcases hk with rfl | rfl
   ·have hb:bodyF 1 x=(1,numsB x):=by unfold bodyF;rw[if_neg (by decide)]
    rw[hb] at s4 hlen ⊢
    dsimp only at s4 hlen ⊢
    have hco:∀ q n,codesOf B 1 q n=([],[],q,0):=fun q n=>by unfold codesOf;rw[if_neg (by decide)]
    obtain ⟨at_,ha⟩:=readF_nums (l:=B) [] x [] _ [] [] s4 hx
    unfold readE
    rw[show ((1:Nat):Int)=1 from rfl,hco]
    dsimp only
    rw[ha]
    dsimp only
    refine ⟨List.nil_append _,?_⟩
    rw[← hlen]
    simp
   ·have hz:=zeros_texts x hx
    have ht:=texts_norm x hx
    have htl:=textsOf_len x
    by_cases h16:(dictL (textsOf x)).length≤16
    ·have hb:bodyF 2 x=(2,codedB (dictL (textsOf x)) (placesL (dictL (textsOf x)) (textsOf x))):=by unfold bodyF;rw[if_pos rfl,if_pos h16]
     rw[hb] at s4 hlen ⊢
     dsimp only at s4 hlen ⊢
     have hcr:=codedR_at s4 h16 ht (by omega)
     obtain ⟨d1,d2⟩:=dictL_spec (textsOf x)
     obtain ⟨at_,ha⟩:=readF_codes (l:=B) (dictL (textsOf x)) (B.length:Int) x [] [] (places_lt d1 (fun s hs=>(d2 s).2 hs)) hx
     unfold readE codesOf
     rw[hz,show ((2:Nat):Int)=2 from rfl,if_pos rfl,hcr,natsL_places]
     dsimp only
     rw[← hlen,ha]
     dsimp only
     exact ⟨List.nil_append _,by simp⟩
    ·have hb:bodyF 2 x=(3,textsB (textsOf x)):=by unfold bodyF;rw[if_pos rfl,if_neg h16]
     rw[hb] at s4 hlen ⊢
     dsimp only at s4 hlen ⊢
     obtain ⟨at_,ha⟩:=readF_texts (l:=B) [] x [] _ [] [] s4 hx
     have hco:∀ q n,codesOf B 3 q n=([],[],q,0):=fun q n=>by unfold codesOf;rw[if_neg (by decide)]
     unfold readE
     rw[show ((3:Nat):Int)=3 from rfl,hco]
     dsimp only
     rw[ha]
     dsimp only
     refine ⟨List.nil_append _,?_⟩
     rw[← hlen]
     simp
  have hkf:kindOf (bodyF kind x).1=kind:=by
   rcases hk with rfl | rfl
   ·unfold bodyF;rw[if_neg (by decide)];rfl
   ·unfold bodyF;rw[if_pos rfl];split<;>rfl
  have g1':getA B 0=_:=g1
  unfold openR
  rw[if_pos hR.2,hR.1,g1']
  dsimp only
  rw[small_le (by omega),hkf,← hBd,if_neg]
  rw[hc]
  simp
 ·rcases hk with rfl | rfl
  ·unfold bodyF;rw[if_neg (by decide)];rfl
  ·unfold bodyF;rw[if_pos rfl];split<;>rfl
end Go.Proofs.YtpiobnfakmmpdaaGreat.Lib0

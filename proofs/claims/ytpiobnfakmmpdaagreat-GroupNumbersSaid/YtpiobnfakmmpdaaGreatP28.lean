import Derived.Test.YtpiobnfakmmpdaaGreatP27
set_option linter.unusedVariables false
set_option linter.unusedSimpArgs false
namespace Go.Proofs.YtpiobnfakmmpdaaGreat.Lib0
open Go.RowKit Go.Proofs.YtpiobnfakmmpdaaGreatW.PrintWords Go.ChangeMaps
def partB (L:List RowM) (c:ColM):List UInt8:=textB c.name++textB (str (chunkB c.kind (columnB L c.name)).1)
def partsB (L:List RowM):List ColM→List UInt8
 | []=>[]
 | c :: l=>partB L c++partsB L l
theorem partsB_app (L:List RowM) (a b:List ColM):partsB L (a++b)=partsB L a++partsB L b:=by
 induction a with
 | nil=>rfl
 | cons c a ih=>rw[List.cons_append,partsB,partsB,ih,List.append_assoc]
def bytesG (H:List RowH) (L:List (List CellM)):List UInt8:=
 deltaB (H.map (·.t))++deltaB (H.map (·.s))++putV (growsR [] (rowsM H L)).1.length++partsB (rowsM H L) (growsR [] (rowsM H L)).1
def writeR (H:List RowH) (L:List (List CellM)):List UInt8 × Int:=
 if H.length=0∨16<H.length then ([],4) else if checkR H L=0 then (bytesG H L,0) else ([],checkR H L)
theorem nameB_len {s:ByteArray} (h:nameB s=true):s.size≤12:=by
 unfold nameB at h
 simp only[Bool.and_eq_true,decide_eq_true_eq] at h
 exact h.1.2
theorem fineB_name {c:CellM} (h:fineB c=true):nameB c.col=true:=by
 unfold fineB at h
 split at h
 ·exact (Bool.and_eq_true _ _ ▸ h).1
 ·split at h
  ·exact (Bool.and_eq_true _ _ ▸ h).1
  ·cases h
theorem cellsRB_fine:∀ (l:List CellM) (p:Option ByteArray),cellsRB p l=true→∀ c ∈ l,fineB c=true
 | [],_,_,c,h=>by simp at h
 | x :: t,p,h,c,hc=>by
  rw[cellsRB.eq_def] at h
  dsimp only at h
  rw[Bool.and_eq_true,Bool.and_eq_true] at h
  rcases List.mem_cons.1 hc with rfl | hc
  ·exact h.1.1
  ·exact cellsRB_fine t _ h.2 c hc
theorem growC_names:∀ (cs:List CellM) (l l':List ColM),growC l cs=some l'→(∀ x ∈ l,x.name.size≤12)→(∀ c ∈ cs,c.col.size≤12)→∀ x ∈ l',x.name.size≤12
 | [],l,l',h,h1,_=>by
  rw[growC] at h
  injection h with h
  subst h
  exact h1
 | c :: t,l,l',h,h1,h2=>by
  rw[growC] at h
  split at h
  ·split at h
   ·exact growC_names t l l' h h1 (fun x hx=>h2 x (List.mem_cons_of_mem _ hx))
   ·cases h
  ·refine growC_names t _ l' h (fun x hx=>?_) (fun x hx=>h2 x (List.mem_cons_of_mem _ hx))
   unfold insL at hx
   rcases List.mem_append.1 hx with hx | hx
   ·exact h1 x (List.mem_of_mem_take hx)
   ·rcases List.mem_cons.1 hx with rfl | hx
    ·exact h2 c (by simp)
    ·exact h1 x (List.mem_of_mem_drop hx)
theorem growR_names (cs:List CellM) (l:List ColM) (h1:∀ x ∈ l,x.name.size≤12) (h2:∀ c ∈ cs,c.col.size≤12):∀ x ∈ (growR l cs).1,x.name.size≤12:=by
 unfold growR
 cases hg:growC l cs with
 | none=>simp
 | some l'=>
  dsimp only
  split
  ·exact growC_names cs l l' hg h1 h2
  ·simp
theorem growsF_names:∀ (L:List RowM) (l:List ColM) (k:Nat),(∀ x ∈ l,x.name.size≤12)→∀ x ∈ (growsF l k L).1,x.name.size≤12
 | [],l,k,h=>h
 | r :: t,l,k,h=>by
  rw[growsF]
  split
  ·rename_i hr
   split
   ·refine growsF_names t _ _ (growR_names r.cs l h (fun c hc=>?_))
    unfold rowB at hr
    rw[Bool.and_eq_true] at hr
    exact nameB_len (fineB_name (cellsRB_fine _ _ hr.2 c hc))
   ·simp
  ·simp
theorem growsR_names (L:List RowM):∀ x ∈ (growsR [] L).1,x.name.size≤12:=by
 unfold growsR
 split
 ·exact growsF_names L [] 0 (by simp)
 ·simp
theorem growsF_len:∀ (L:List RowM) (l:List ColM) (k:Nat),l.length≤12→(growsF l k L).1.length≤12
 | [],l,k,h=>h
 | r :: t,l,k,h=>by
  rw[growsF]
  split
  ·split
   ·exact growsF_len t _ _ (growR_len _ _)
   ·simp
  ·simp
theorem growsR_len (L:List RowM):(growsR [] L).1.length≤12:=by
 unfold growsR
 split
 ·exact growsF_len L [] 0 (by simp)
 ·simp
theorem numsB_len:∀ (l:List CellM),(∀ c ∈ l,I64 c.n)→(numsB l).length≤10*l.length
 | [],_=>by simp[numsB]
 | c :: l,h=>by
  have h1:=numsB_len l (fun x hx=>h x (List.mem_cons_of_mem _ hx))
  have h2:=putV_len10 (zig_lt (h c (by simp)))
  rw[numsB,List.length_append,List.length_cons]
  split
  ·omega
  ·rw[List.length_nil];omega
theorem textsOf_len:∀ (l:List CellM),(textsOf l).length≤l.length
 | []=>by simp[textsOf]
 | c :: l=>by
  have h1:=textsOf_len l
  rw[textsOf,List.length_append,List.length_cons]
  split<;>simp only[List.length_nil,List.length_cons]<;>omega
theorem textsOf_right:∀ (l:List CellM),l.any (fun c=>!rightB 2 c)=false→∀ s ∈ textsOf l,s.size≤40
 | [],_,s,h=>by simp[textsOf] at h
 | c :: l,h0,s,h=>by
  rw[List.any_cons,Bool.or_eq_false_iff] at h0
  rw[textsOf,List.mem_append] at h
  rcases h with h | h
  ·split at h
   ·simp at h
   ·rename_i hk
    simp only[List.mem_singleton] at h
    subst h
    have hr:rightB 2 c=true:=by simpa using h0.1
    rcases right_kinds hr with h1 | ⟨h1,h2 | h2⟩
    ·exact absurd (Or.inl h1) hk
    ·exact absurd h2 (by decide)
    ·exact h2
  ·exact textsOf_right l h0.2 s h
theorem chunkB_len (kind:Int) (l:List CellM) (hl:l.length≤65536) (hi:∀ c ∈ l,I64 c.n):(chunkB kind l).1.length≤1000000000:=by
 unfold chunkB
 split
 ·simp
 ·rename_i hk
  split
  ·simp
  ·split
   ·simp
   ·rename_i hr
    have hr':l.any (fun c=>!rightB kind c)=false:=by simpa using hr
    have h1:=putV_len10 (n:=l.length) (by omega)
    have h2:=runsB_len (nullsL l) 1 (by simp[nullsL];omega)
    have h2':(nullsL l).length=l.length:=by simp[nullsL]
    have h0:(bodyF kind l).1≤3:=by
     unfold bodyF
     split
     ·split<;>simp
     ·simp
    have h3:=putV_len10 (n:=(bodyF kind l).1) (by omega)
    have h4:(bodyF kind l).2.length≤900000000:=by
     unfold bodyF
     split
     ·rename_i hk2
      subst hk2
      have ht:=textsOf_len l
      split
      ·unfold codedB
       have h5:=dictB_len (dictL (textsOf l))
       have h6:=runsB_len (natsL (placesL (dictL (textsOf l)) (textsOf l))) (widthL (natsL (placesL (dictL (textsOf l)) (textsOf l)))) (by simp[natsL,placesL];omega)
       have h7:(natsL (placesL (dictL (textsOf l)) (textsOf l))).length=(textsOf l).length:=by simp[natsL,placesL]
       rw[List.length_append]
       omega
      ·have:=textsB_len (textsOf l) (textsOf_right l hr')
       show (textsB (textsOf l)).length≤_
       omega
     ·have:=numsB_len l hi
      show (numsB l).length≤_
      omega
    rw[List.length_append,List.length_append,List.length_append]
    omega
theorem cellOf_I64:∀ (l:List CellM) (s:ByteArray),(∀ c ∈ l,I64 c.n)→I64 (cellOf l s).n
 | [],s,_=>by rw[cellOf];exact ⟨by decide,by decide⟩
 | c :: t,s,h=>by
  rw[cellOf]
  split
  ·exact h c (by simp)
  ·exact cellOf_I64 t s (fun x hx=>h x (List.mem_cons_of_mem _ hx))
theorem columnB_I64 (L:List RowM) (s:ByteArray) (h:∀ r ∈ L,∀ c ∈ r.cs,I64 c.n):∀ c ∈ columnB L s,I64 c.n:=by
 intro c hc
 unfold columnB at hc
 obtain ⟨r,hr,rfl⟩:=List.mem_map.1 hc
 exact cellOf_I64 r.cs s (h r hr)
theorem columnB_len (L:List RowM) (s:ByteArray):(columnB L s).length=L.length:=by simp[columnB]
theorem encD_len:∀ (l:List Int) (i:Nat) (a b:Int),(∀ n ∈ l,I64 n)→I64 a→I64 b→(encD i a b l).length≤10*l.length
 | [],_,_,_,_,_,_=>by simp[encD]
 | n :: t,i,a,b,h,ha,hb=>by
  have hd:I64 (delD i a n):=by
   unfold delD
   split
   ·exact h n (by simp)
   ·exact wrap64_in _
  have hx:I64 (delX i b (delD i a n)):=by
   unfold delX
   split
   ·exact wrap64_in _
   ·exact hd
  have hs:I64 (delS i b (delD i a n)):=by
   unfold delS
   split
   ·exact hd
   ·exact hb
  have h1:=encD_len t (i+1) n _ (fun x hx=>h x (List.mem_cons_of_mem _ hx)) (h n (by simp)) hs
  have h2:=putV_len10 (zig_lt hx)
  rw[encD,List.length_append,List.length_cons]
  omega
theorem deltaB_len (l:List Int) (h:∀ n ∈ l,I64 n) (hl:l.length<18446744073709551616):(deltaB l).length≤10*l.length+10:=by
 unfold deltaB
 have h1:=encD_len l 0 0 0 h ⟨by decide,by decide⟩ ⟨by decide,by decide⟩
 have h2:=putV_len10 hl
 rw[List.length_append]
 omega
theorem partB_len (L:List RowM) (c:ColM) (hc:c.name.size≤12) (hL:L.length≤65536) (hi:∀ r ∈ L,∀ c ∈ r.cs,I64 c.n):(partB L c).length≤1000000100:=by
 have h1:=chunkB_len c.kind (columnB L c.name) (by rw[columnB_len];exact hL) (columnB_I64 L c.name hi)
 unfold partB textB
 have h2:=putV_len10 (n:=c.name.size) (by omega)
 have h3:=putV_len10 (n:=(str (chunkB c.kind (columnB L c.name)).1).size) (by rw[str_size];omega)
 have h4:(byt c.name).length=c.name.size:=byt_length _
 rw[List.length_append,List.length_append,List.length_append,byt_str]
 omega
theorem partsB_len (L:List RowM) (hL:L.length≤65536) (hi:∀ r ∈ L,∀ c ∈ r.cs,I64 c.n):∀ (l:List ColM),(∀ x ∈ l,x.name.size≤12)→(partsB L l).length≤1000000100*l.length
 | [],_=>Nat.zero_le _
 | c :: l,h=>by
  have h1:=partsB_len L hL hi l (fun x hx=>h x (List.mem_cons_of_mem _ hx))
  have h2:=partB_len L c (h c (by simp)) hL hi
  rw[partsB,List.length_append,List.length_cons]
  omega
theorem check_rows {H:List RowH} {L:List (List CellM)} (h:checkR H L=0):∀ r ∈ rowsM H L,rowB r.t r.s r.cs=true:=by
 intro r hr
 unfold checkR at h
 split at h
 ·cases h
 ·rename_i h0
  have h0':(rowsM H L).any (fun r=>!r.ok)=false:=by simpa using h0
  rw[List.any_eq_false] at h0'
  have:=h0' r hr
  simpa [RowM.ok] using this
theorem rowB_head {t s:Int} {l:List CellM} (h:rowB t s l=true):-1099511627776≤t∧t≤1099511627776∧0≤s∧s≤1073741824∧l.length≤8:=by
 unfold rowB headRB at h
 simp only[Bool.and_eq_true,decide_eq_true_eq] at h
 exact ⟨h.1.1.1.1.1,h.1.1.1.1.2,h.1.1.1.2,h.1.1.2,h.1.2⟩
theorem check_I64 {H:List RowH} {L:List (List CellM)} (hL:H.length=L.length) (h:checkR H L=0):(∀ x ∈ H.map (·.t),I64 x)∧(∀ x ∈ H.map (·.s),I64 x):=by
 have h0:=check_rows h
 have hat:∀ x ∈ H,I64 x.t∧I64 x.s:=by
  intro x hx
  obtain ⟨i,hi,rfl⟩:=List.mem_iff_getElem.1 hx
  have h3:i<(rowsM H L).length:=by rw[rowsM_len H L hL];exact hi
  have h4:=h0 _ (List.getElem_mem h3)
  rw[rowsM_get H L i hi (by omega) h3] at h4
  have:=rowB_head h4
  unfold I64
  dsimp only at this
  omega
 constructor
 ·intro x hx
  obtain ⟨y,hy,rfl⟩:=List.mem_map.1 hx
  exact (hat y hy).1
 ·intro x hx
  obtain ⟨y,hy,rfl⟩:=List.mem_map.1 hx
  exact (hat y hy).2
end Go.Proofs.YtpiobnfakmmpdaaGreat.Lib0
namespace Go.Proofs.YtpiobnfakmmpdaaGreat.Lib0
open Go.RowKit Go.Proofs.YtpiobnfakmmpdaaGreatW.PrintWords Go.ChangeMaps
def Stand (l:List UInt8) (a:Nat) (x:List UInt8):Prop:=∃ p t,l=p++(x++t)∧p.length=a
theorem Stand.le {l:List UInt8} {a:Nat} {x:List UInt8} (h:Stand l a x):a+x.length≤l.length:=by
 obtain ⟨p,t,rfl,rfl⟩:=h
 simp only[List.length_append]
 omega
theorem Stand.drop {l:List UInt8} {a:Nat} {x:List UInt8} (h:Stand l a x):∃ t,l.drop a=x++t:=by
 obtain ⟨p,t,rfl,rfl⟩:=h
 exact ⟨t,List.drop_left⟩
theorem Stand.cut {l:List UInt8} {a:Nat} {x:List UInt8} (h:Stand l a x):(l.take (a+x.length)).drop a=x:=by
 obtain ⟨p,t,rfl,rfl⟩:=h
 rw[← List.append_assoc,← List.length_append,List.take_left,List.drop_left]
theorem Stand.left {l:List UInt8} {a:Nat} {x y:List UInt8} (h:Stand l a (x++y)):Stand l a x:=by
 obtain ⟨p,t,rfl,rfl⟩:=h
 exact ⟨p,y++t,by simp,rfl⟩
theorem Stand.right {l:List UInt8} {a:Nat} {x y:List UInt8} (h:Stand l a (x++y)):Stand l (a+x.length) y:=by
 obtain ⟨p,t,rfl,rfl⟩:=h
 exact ⟨p++x,t,by simp,by simp⟩
theorem Stand.all (l:List UInt8):Stand l 0 l:=⟨[],[],by simp,rfl⟩
theorem pow7 (k:Nat):2 ^ (7*(k+1))=128*2 ^ (7*k):=by
 rw[show 7*(k+1)=7*k+7 by omega,Nat.pow_add]
 omega
theorem pow7_lt {k n:Nat} (h:n*2 ^ (7*k)<18446744073709551616) (h0:0<n):k≤9:=by
 have h1:2 ^ (7*k)<2 ^ 64:=by
  have:2 ^ (7*k)≤n*2 ^ (7*k):=Nat.le_mul_of_pos_left _ h0
  have e:(2:Nat) ^ 64=18446744073709551616:=by decide
  omega
 have:=(Nat.pow_lt_pow_iff_right (by decide:1<2)).1 h1
 omega
theorem getN_low {k n:Nat} {c:UInt8} (hk:k<10) (hn:n<2 ^ (7*k)) (hc:c.toNat%128*2 ^ (7*k)<18446744073709551616):getN k n c=n+c.toNat%128*2 ^ (7*k):=by
 unfold getN
 rw[if_pos hk,Nat.shiftLeft_eq,Nat.mod_eq_of_lt hc,Nat.or_comm,← Nat.shiftLeft_eq,← Nat.shiftLeft_add_eq_or_of_lt hn,Nat.shiftLeft_eq,Nat.add_comm]
theorem getL_put (n:Nat):∀ (k acc:Nat) (t:List UInt8),acc<2 ^ (7*k)→n*2 ^ (7*k)<18446744073709551616→(k=0∨0<n)→getL k acc true (putV n++t)=(acc+n*2 ^ (7*k),k+(putV n).length,0):=by
 induction n using Nat.strongRecOn with
 | ind n ih=>
  intro k acc t ha hn h0
  have hk9:k≤9:=by
   rcases h0 with h0 | h0
   ·omega
   ·exact pow7_lt hn h0
  by_cases h:n≤127
  ·have hc:(UInt8.ofNat n).toNat=n:=by rw[UInt8.toNat_ofNat'];omega
   have hm:n%128=n:=by omega
   have hF:getF k true (UInt8.ofNat n)=true:=by
    unfold getF
    rw[hc,hm]
    by_cases h9:k<9
    ·simp[h9]
    ·obtain rfl:k=9:=by omega
     have:n<2:=by
      have e:(2:Nat) ^ (7*9)=9223372036854775808:=by decide
      rw[e] at hn
      omega
     simp[this]
   rw[putV_small h,List.singleton_append,getL_end k acc true _ t (by rw[hc];omega) hF (by rw[hc];omega),getN_low (by omega) ha (by rw[hc,hm];exact hn),hc,hm]
   rfl
  ·have hc:(UInt8.ofNat n ||| 128).toNat=n%128+128:=by
    rw[UInt8.toNat_or,UInt8.toNat_ofNat']
    show n%2 ^ 8 ||| 128=_
    have e1:n%2 ^ 8=n%256:=rfl
    rw[e1]
    have e2:n%256<256:=Nat.mod_lt _ (by decide)
    have e3:n%128=n%256%128:=by omega
    rw[e3]
    generalize n%256=m at *
    have key:∀ m:Fin 256,m.val ||| 128=m.val%128+128:=by decide +kernel
    exact key ⟨m,e2⟩
   have hc2:(UInt8.ofNat n ||| 128).toNat%128=n%128:=by rw[hc];omega
   have hle:n%128*2 ^ (7*k)≤n*2 ^ (7*k):=Nat.mul_le_mul_right _ (Nat.mod_le _ _)
   have hsum:n*2 ^ (7*k)=n%128*2 ^ (7*k)+n/128*2 ^ (7*(k+1)):=by
    rw[pow7,← Nat.mul_assoc,← Nat.add_mul]
    congr 1
    omega
   have hk8:k<9:=by
    have h1:128*2 ^ (7*k)≤n*2 ^ (7*k):=Nat.mul_le_mul_right _ (by omega)
    rw[← pow7] at h1
    have:=pow7_lt (k:=k+1) (n:=1) (by omega) (by omega)
    omega
   have hF:getF k true (UInt8.ofNat n ||| 128)=true:=by simp[getF,hk8]
   rw[putV_great h,List.cons_append,getL_more k acc true _ _ (by rw[hc];omega),getN_low (by omega) ha (by rw[hc2];omega),hc2,hF,
    ih (n/128) (by omega) (k+1) _ t ?_ (by omega) (.inr (by omega)),List.length_cons]
   ·rw[hsum]
    refine Prod.ext ?_ (Prod.ext ?_ rfl)
    ·show acc+n%128*2 ^ (7*k)+n/128*2 ^ (7*(k+1))=_;omega
    ·show k+1+_=k+(_+1);omega
   ·rw[pow7]
    have:n%128≤127:=by omega
    have:=Nat.mul_le_mul_right (2 ^ (7*k)) this
    omega
theorem getA_at {l:List UInt8} {a n:Nat} (h:Stand l a (putV n)) (hn:n<18446744073709551616):getA l a=(n,(putV n).length,0):=by
 have hle:=h.le
 obtain ⟨t,ht⟩:=h.drop
 unfold getA
 rw[if_neg (by omega),Int.toNat_natCast,ht,getL_put n 0 0 t (by decide) (by simpa using hn) (.inl rfl)]
 simp
theorem endA_at {l:List UInt8} {a n:Nat} (h:Stand l a (putV n)) (hn:n<18446744073709551616):endA a (getA l a)=((a+(putV n).length:Nat):Int):=by
 rw[getA_at h hn]
 unfold endA
 simp
theorem getT_at {l s:List UInt8} {a most:Nat} (h:Stand l a (putV s.length++s)) (hm:s.length≤most) (hs:s.length<18446744073709551616):getT l a most=(s,((a+(putV s.length++s).length:Nat):Int),0):=by
 have h1:=h.left
 have h2:=h.right
 have hle:=h2.le
 unfold getT
 rw[endA_at h1 hs,getA_at h1 hs]
 dsimp only
 rw[if_neg (by simp),if_neg (by omega),if_neg (by omega)]
 refine Prod.ext ?_ (Prod.ext ?_ rfl)
 ·show (l.take (((a+(putV s.length).length:Nat):Int)+(s.length:Int)).toNat).drop (((a+(putV s.length).length:Nat):Int)).toNat=s
  rw[Int.toNat_natCast,show (((a+(putV s.length).length:Nat):Int)+(s.length:Int)).toNat=a+(putV s.length).length+s.length by omega]
  exact h2.cut
 ·show (((a+(putV s.length).length:Nat):Int)+(s.length:Int))=((a+(putV s.length++s).length:Nat):Int)
  rw[List.length_append];omega
theorem wrap_sub_add (a b:Int) (h:I64 a):wrap64 (wrap64 (a-b)+b)=a:=by
 unfold I64 at h
 unfold wrap64
 omega
theorem wrap_add_sub (a b:Int) (h:I64 a):wrap64 (b+wrap64 (a-b))=a:=by
 unfold I64 at h
 unfold wrap64
 omega
theorem encD_in (i:Nat) (last step n:Int) (h1:I64 n):I64 (delX i step (delD i last n)):=by
 unfold delX delD
 split
 ·exact wrap64_in _
 ·split
  ·exact h1
  ·exact wrap64_in _
theorem decX_back (i:Nat) (last step n:Int) (h1:I64 n) (h2:i=0→last=0):decX i step (delX i step (delD i last n))=delD i last n∧wrap64 (last+delD i last n)=n:=by
 have hd:I64 (delD i last n):=by unfold delD;split;exact h1;exact wrap64_in _
 refine ⟨?_,?_⟩
 ·unfold decX delX
  split
  ·exact wrap_sub_add _ _ hd
  ·rfl
 ·unfold delD
  split
  ·rename_i h;rw[h2 h,Int.zero_add];unfold I64 at h1;unfold wrap64;omega
  ·exact wrap_add_sub _ _ h1
theorem decL_at {l:List UInt8}:∀ (x:List Int) (i:Nat) (last step:Int) (en:Nat) (acc:List Int),Stand l en (encD i last step x)→(∀ n ∈ x,I64 n)→(i=0→last=0)→decL l x.length i last step en acc=(acc++x,((en+(encD i last step x).length:Nat):Int),0)
 | [],i,last,step,en,acc,h,hx,h0=>by simp[decL,encD]
 | n :: t,i,last,step,en,acc,h,hx,h0=>by
  rw[encD] at h
  have hn:=hx n (by simp)
  have hz:=zig_lt (encD_in i last step n hn)
  obtain ⟨hb1,hb2⟩:=decX_back i last step n hn h0
  rw[List.length_cons,decL,getA_at h.left hz]
  dsimp only
  rw[if_neg (by simp),zag_zig,hb1,hb2]
  have he:=endA_at h.left hz
  rw[getA_at h.left hz] at he
  rw[he,decL_at t (i+1) n _ _ _ h.right (fun m hm=>hx m (by simp[hm])) (by omega),encD,List.append_assoc,List.singleton_append,List.length_append,Nat.add_assoc]
theorem deltaR_at {l:List UInt8} {a:Nat} {x:List Int} {most:Nat} (h:Stand l a (deltaB x)) (hm:x.length≤most) (hx:∀ n ∈ x,I64 n) (hl:x.length<18446744073709551616):deltaR l a most=(x,((a+(deltaB x).length:Nat):Int),0):=by
 unfold deltaB at h
 unfold deltaR
 have he:=endA_at h.left hl
 rw[getA_at h.left hl] at he ⊢
 dsimp only
 rw[if_neg (by simp),if_neg (by omega),he,decL_at x 0 0 0 _ [] h.right hx (fun _=>rfl),List.nil_append]
 unfold deltaB
 rw[List.length_append,Nat.add_assoc]
end Go.Proofs.YtpiobnfakmmpdaaGreat.Lib0

import Derived.Test.YtplnodcbbcdcgaaGreatP26
set_option linter.unusedVariables false
set_option linter.unusedSimpArgs false
namespace Go.Proofs.YtplnodcbbcdcgaaGreat.Lib0
open Go.RowKit Go.Proofs.YtplnodcbbcdcgaaGreatW.PrintWords Go.ChangeMaps
def partB (L:List RowM) (c:ColM):List UInt8:=textB c.name++textB (str (chunkB c.kind (columnB L c.name)).1)
def partsB (L:List RowM):List ColM→List UInt8
 | []=>[]
 | c :: l=>partB L c++partsB L l
theorem partsB_app (L:List RowM) (a b:List ColM):partsB L (a++b)=partsB L a++partsB L b:=by
 induction a with
 | nil=>rfl
 | cons c a ih=>rw[List.cons_append,partsB,partsB,ih,List.append_assoc]
def bytesG (H:List RowH) (L:List (List CellM)):List UInt8:=
 deltaB (H.map (·.t))++deltaB (H.map (·.s))++putV (growsR [] (rowsM H L)).1.length++partsB (rowsM H L) (growsR [] (rowsM H L)).1
def writeR (H:List RowH) (L:List (List CellM)):List UInt8 × Int:=
 if H.length=0∨16<H.length then ([],4) else if checkR H L=0 then (bytesG H L,0) else ([],checkR H L)
theorem nameB_len {s:ByteArray} (h:nameB s=true):s.size≤12:=by
 unfold nameB at h
 simp only[Bool.and_eq_true,decide_eq_true_eq] at h
 exact h.1.2
theorem fineB_name {c:CellM} (h:fineB c=true):nameB c.col=true:=by
 unfold fineB at h
 split at h
 ·exact (Bool.and_eq_true _ _ ▸ h).1
 ·split at h
  ·exact (Bool.and_eq_true _ _ ▸ h).1
  ·cases h
theorem cellsRB_fine:∀ (l:List CellM) (p:Option ByteArray),cellsRB p l=true→∀ c ∈ l,fineB c=true
 | [],_,_,c,h=>by simp at h
 | x :: t,p,h,c,hc=>by
  rw[cellsRB.eq_def] at h
  dsimp only at h
  rw[Bool.and_eq_true,Bool.and_eq_true] at h
  rcases List.mem_cons.1 hc with rfl | hc
  ·exact h.1.1
  ·exact cellsRB_fine t _ h.2 c hc
theorem growC_names:∀ (cs:List CellM) (l l':List ColM),growC l cs=some l'→(∀ x ∈ l,x.name.size≤12)→(∀ c ∈ cs,c.col.size≤12)→∀ x ∈ l',x.name.size≤12
 | [],l,l',h,h1,_=>by
  rw[growC] at h
  injection h with h
  subst h
  exact h1
 | c :: t,l,l',h,h1,h2=>by
  rw[growC] at h
  split at h
  ·split at h
   ·exact growC_names t l l' h h1 (fun x hx=>h2 x (List.mem_cons_of_mem _ hx))
   ·cases h
  ·refine growC_names t _ l' h (fun x hx=>?_) (fun x hx=>h2 x (List.mem_cons_of_mem _ hx))
   unfold insL at hx
   rcases List.mem_append.1 hx with hx | hx
   ·exact h1 x (List.mem_of_mem_take hx)
   ·rcases List.mem_cons.1 hx with rfl | hx
    ·exact h2 c (by simp)
    ·exact h1 x (List.mem_of_mem_drop hx)
theorem growR_names (cs:List CellM) (l:List ColM) (h1:∀ x ∈ l,x.name.size≤12) (h2:∀ c ∈ cs,c.col.size≤12):∀ x ∈ (growR l cs).1,x.name.size≤12:=by
 unfold growR
 cases hg:growC l cs with
 | none=>simp
 | some l'=>
  dsimp only
  split
  ·exact growC_names cs l l' hg h1 h2
  ·simp
theorem growsF_names:∀ (L:List RowM) (l:List ColM) (k:Nat),(∀ x ∈ l,x.name.size≤12)→∀ x ∈ (growsF l k L).1,x.name.size≤12
 | [],l,k,h=>h
 | r :: t,l,k,h=>by
  rw[growsF]
  split
  ·rename_i hr
   split
   ·refine growsF_names t _ _ (growR_names r.cs l h (fun c hc=>?_))
    unfold rowB at hr
    rw[Bool.and_eq_true] at hr
    exact nameB_len (fineB_name (cellsRB_fine _ _ hr.2 c hc))
   ·simp
  ·simp
theorem growsR_names (L:List RowM):∀ x ∈ (growsR [] L).1,x.name.size≤12:=by
 unfold growsR
 split
 ·exact growsF_names L [] 0 (by simp)
 ·simp
theorem growsF_len:∀ (L:List RowM) (l:List ColM) (k:Nat),l.length≤12→(growsF l k L).1.length≤12
 | [],l,k,h=>h
 | r :: t,l,k,h=>by
  rw[growsF]
  split
  ·split
   ·exact growsF_len t _ _ (growR_len _ _)
   ·simp
  ·simp
theorem growsR_len (L:List RowM):(growsR [] L).1.length≤12:=by
 unfold growsR
 split
 ·exact growsF_len L [] 0 (by simp)
 ·simp
theorem numsB_len:∀ (l:List CellM),(∀ c ∈ l,I64 c.n)→(numsB l).length≤10*l.length
 | [],_=>by simp[numsB]
 | c :: l,h=>by
  have h1:=numsB_len l (fun x hx=>h x (List.mem_cons_of_mem _ hx))
  have h2:=putV_len10 (zig_lt (h c (by simp)))
  rw[numsB,List.length_append,List.length_cons]
  split
  ·omega
  ·rw[List.length_nil];omega
theorem textsOf_len:∀ (l:List CellM),(textsOf l).length≤l.length
 | []=>by simp[textsOf]
 | c :: l=>by
  have h1:=textsOf_len l
  rw[textsOf,List.length_append,List.length_cons]
  split<;>simp only[List.length_nil,List.length_cons]<;>omega
theorem textsOf_right:∀ (l:List CellM),l.any (fun c=>!rightB 2 c)=false→∀ s ∈ textsOf l,s.size≤40
 | [],_,s,h=>by simp[textsOf] at h
 | c :: l,h0,s,h=>by
  rw[List.any_cons,Bool.or_eq_false_iff] at h0
  rw[textsOf,List.mem_append] at h
  rcases h with h | h
  ·split at h
   ·simp at h
   ·rename_i hk
    simp only[List.mem_singleton] at h
    subst h
    have hr:rightB 2 c=true:=by simpa using h0.1
    rcases right_kinds hr with h1 | ⟨h1,h2 | h2⟩
    ·exact absurd (Or.inl h1) hk
    ·exact absurd h2 (by decide)
    ·exact h2
  ·exact textsOf_right l h0.2 s h
theorem chunkB_len (kind:Int) (l:List CellM) (hl:l.length≤65536) (hi:∀ c ∈ l,I64 c.n):(chunkB kind l).1.length≤1000000000:=by
 unfold chunkB
 split
 ·simp
 ·rename_i hk
  split
  ·simp
  ·split
   ·simp
   ·rename_i hr
    have hr':l.any (fun c=>!rightB kind c)=false:=by simpa using hr
    have h1:=putV_len10 (n:=l.length) (by omega)
    have h2:=runsB_len (nullsL l) 1 (by simp[nullsL];omega)
    have h2':(nullsL l).length=l.length:=by simp[nullsL]
    have h0:(bodyF kind l).1≤3:=by
     unfold bodyF
     split
     ·split<;>simp
     ·simp
    have h3:=putV_len10 (n:=(bodyF kind l).1) (by omega)
    have h4:(bodyF kind l).2.length≤900000000:=by
     unfold bodyF
     split
     ·rename_i hk2
      subst hk2
      have ht:=textsOf_len l
      split
      ·unfold codedB
       have h5:=dictB_len (dictL (textsOf l))
       have h6:=runsB_len (natsL (placesL (dictL (textsOf l)) (textsOf l))) (widthL (natsL (placesL (dictL (textsOf l)) (textsOf l)))) (by simp[natsL,placesL];omega)
       have h7:(natsL (placesL (dictL (textsOf l)) (textsOf l))).length=(textsOf l).length:=by simp[natsL,placesL]
       rw[List.length_append]
       omega
      ·have:=textsB_len (textsOf l) (textsOf_right l hr')
       show (textsB (textsOf l)).length≤_
       omega
     ·have:=numsB_len l hi
      show (numsB l).length≤_
      omega
    rw[List.length_append,List.length_append,List.length_append]
    omega
theorem cellOf_I64:∀ (l:List CellM) (s:ByteArray),(∀ c ∈ l,I64 c.n)→I64 (cellOf l s).n
 | [],s,_=>by rw[cellOf];exact ⟨by decide,by decide⟩
 | c :: t,s,h=>by
  rw[cellOf]
  split
  ·exact h c (by simp)
  ·exact cellOf_I64 t s (fun x hx=>h x (List.mem_cons_of_mem _ hx))
theorem columnB_I64 (L:List RowM) (s:ByteArray) (h:∀ r ∈ L,∀ c ∈ r.cs,I64 c.n):∀ c ∈ columnB L s,I64 c.n:=by
 intro c hc
 unfold columnB at hc
 obtain ⟨r,hr,rfl⟩:=List.mem_map.1 hc
 exact cellOf_I64 r.cs s (h r hr)
theorem columnB_len (L:List RowM) (s:ByteArray):(columnB L s).length=L.length:=by simp[columnB]
theorem encD_len:∀ (l:List Int) (i:Nat) (a b:Int),(∀ n ∈ l,I64 n)→I64 a→I64 b→(encD i a b l).length≤10*l.length
 | [],_,_,_,_,_,_=>by simp[encD]
 | n :: t,i,a,b,h,ha,hb=>by
  have hd:I64 (delD i a n):=by
   unfold delD
   split
   ·exact h n (by simp)
   ·exact wrap64_in _
  have hx:I64 (delX i b (delD i a n)):=by
   unfold delX
   split
   ·exact wrap64_in _
   ·exact hd
  have hs:I64 (delS i b (delD i a n)):=by
   unfold delS
   split
   ·exact hd
   ·exact hb
  have h1:=encD_len t (i+1) n _ (fun x hx=>h x (List.mem_cons_of_mem _ hx)) (h n (by simp)) hs
  have h2:=putV_len10 (zig_lt hx)
  rw[encD,List.length_append,List.length_cons]
  omega
theorem deltaB_len (l:List Int) (h:∀ n ∈ l,I64 n) (hl:l.length<18446744073709551616):(deltaB l).length≤10*l.length+10:=by
 unfold deltaB
 have h1:=encD_len l 0 0 0 h ⟨by decide,by decide⟩ ⟨by decide,by decide⟩
 have h2:=putV_len10 hl
 rw[List.length_append]
 omega
theorem partB_len (L:List RowM) (c:ColM) (hc:c.name.size≤12) (hL:L.length≤65536) (hi:∀ r ∈ L,∀ c ∈ r.cs,I64 c.n):(partB L c).length≤1000000100:=by
 have h1:=chunkB_len c.kind (columnB L c.name) (by rw[columnB_len];exact hL) (columnB_I64 L c.name hi)
 unfold partB textB
 have h2:=putV_len10 (n:=c.name.size) (by omega)
 have h3:=putV_len10 (n:=(str (chunkB c.kind (columnB L c.name)).1).size) (by rw[str_size];omega)
 have h4:(byt c.name).length=c.name.size:=byt_length _
 rw[List.length_append,List.length_append,List.length_append,byt_str]
 omega
theorem partsB_len (L:List RowM) (hL:L.length≤65536) (hi:∀ r ∈ L,∀ c ∈ r.cs,I64 c.n):∀ (l:List ColM),(∀ x ∈ l,x.name.size≤12)→(partsB L l).length≤1000000100*l.length
 | [],_=>Nat.zero_le _
 | c :: l,h=>by
  have h1:=partsB_len L hL hi l (fun x hx=>h x (List.mem_cons_of_mem _ hx))
  have h2:=partB_len L c (h c (by simp)) hL hi
  rw[partsB,List.length_append,List.length_cons]
  omega
theorem check_rows {H:List RowH} {L:List (List CellM)} (h:checkR H L=0):∀ r ∈ rowsM H L,rowB r.t r.s r.cs=true:=by
 intro r hr
 unfold checkR at h
 split at h
 ·cases h
 ·rename_i h0
  have h0':(rowsM H L).any (fun r=>!r.ok)=false:=by simpa using h0
  rw[List.any_eq_false] at h0'
  have:=h0' r hr
  simpa [RowM.ok] using this
theorem rowB_head {t s:Int} {l:List CellM} (h:rowB t s l=true):-1099511627776≤t∧t≤1099511627776∧0≤s∧s≤1073741824∧l.length≤8:=by
 unfold rowB headRB at h
 simp only[Bool.and_eq_true,decide_eq_true_eq] at h
 exact ⟨h.1.1.1.1.1,h.1.1.1.1.2,h.1.1.1.2,h.1.1.2,h.1.2⟩
theorem check_I64 {H:List RowH} {L:List (List CellM)} (hL:H.length=L.length) (h:checkR H L=0):(∀ x ∈ H.map (·.t),I64 x)∧(∀ x ∈ H.map (·.s),I64 x):=by
 have h0:=check_rows h
 have hat:∀ x ∈ H,I64 x.t∧I64 x.s:=by
  intro x hx
  obtain ⟨i,hi,rfl⟩:=List.mem_iff_getElem.1 hx
  have h3:i<(rowsM H L).length:=by rw[rowsM_len H L hL];exact hi
  have h4:=h0 _ (List.getElem_mem h3)
  rw[rowsM_get H L i hi (by omega) h3] at h4
  have:=rowB_head h4
  unfold I64
  dsimp only at this
  omega
 constructor
 ·intro x hx
  obtain ⟨y,hy,rfl⟩:=List.mem_map.1 hx
  exact (hat y hy).1
 ·intro x hx
  obtain ⟨y,hy,rfl⟩:=List.mem_map.1 hx
  exact (hat y hy).2
end Go.Proofs.YtplnodcbbcdcgaaGreat.Lib0
namespace Go.Proofs.YtplnodcbbcdcgaaGreat.Lib0
open Go.RowKit Go.Proofs.YtplnodcbbcdcgaaGreatW.PrintWords Go.ChangeMaps
def Stand (l:List UInt8) (a:Nat) (x:List UInt8):Prop:=∃ p t,l=p++(x++t)∧p.length=a
theorem Stand.le {l:List UInt8} {a:Nat} {x:List UInt8} (h:Stand l a x):a+x.length≤l.length:=by
 obtain ⟨p,t,rfl,rfl⟩:=h
 simp only[List.length_append]
 omega
theorem Stand.drop {l:List UInt8} {a:Nat} {x:List UInt8} (h:Stand l a x):∃ t,l.drop a=x++t:=by
 obtain ⟨p,t,rfl,rfl⟩:=h
 exact ⟨t,List.drop_left⟩
theorem Stand.cut {l:List UInt8} {a:Nat} {x:List UInt8} (h:Stand l a x):(l.take (a+x.length)).drop a=x:=by
 obtain ⟨p,t,rfl,rfl⟩:=h
 rw[← List.append_assoc,← List.length_append,List.take_left,List.drop_left]
theorem Stand.left {l:List UInt8} {a:Nat} {x y:List UInt8} (h:Stand l a (x++y)):Stand l a x:=by
 obtain ⟨p,t,rfl,rfl⟩:=h
 exact ⟨p,y++t,by simp,rfl⟩
theorem Stand.right {l:List UInt8} {a:Nat} {x y:List UInt8} (h:Stand l a (x++y)):Stand l (a+x.length) y:=by
 obtain ⟨p,t,rfl,rfl⟩:=h
 exact ⟨p++x,t,by simp,by simp⟩
theorem Stand.all (l:List UInt8):Stand l 0 l:=⟨[],[],by simp,rfl⟩
theorem pow7 (k:Nat):2 ^ (7*(k+1))=128*2 ^ (7*k):=by
 rw[show 7*(k+1)=7*k+7 by omega,Nat.pow_add]
 omega
theorem pow7_lt {k n:Nat} (h:n*2 ^ (7*k)<18446744073709551616) (h0:0<n):k≤9:=by
 have h1:2 ^ (7*k)<2 ^ 64:=by
  have:2 ^ (7*k)≤n*2 ^ (7*k):=Nat.le_mul_of_pos_left _ h0
  have e:(2:Nat) ^ 64=18446744073709551616:=by decide
  omega
 have:=(Nat.pow_lt_pow_iff_right (by decide:1<2)).1 h1
 omega
theorem getN_low {k n:Nat} {c:UInt8} (hk:k<10) (hn:n<2 ^ (7*k)) (hc:c.toNat%128*2 ^ (7*k)<18446744073709551616):getN k n c=n+c.toNat%128*2 ^ (7*k):=by
 unfold getN
 rw[if_pos hk,Nat.shiftLeft_eq,Nat.mod_eq_of_lt hc,Nat.or_comm,← Nat.shiftLeft_eq,← Nat.shiftLeft_add_eq_or_of_lt hn,Nat.shiftLeft_eq,Nat.add_comm]
theorem getL_put (n:Nat):∀ (k acc:Nat) (t:List UInt8),acc<2 ^ (7*k)→n*2 ^ (7*k)<18446744073709551616→(k=0∨0<n)→getL k acc true (putV n++t)=(acc+n*2 ^ (7*k),k+(putV n).length,0):=by
 induction n using Nat.strongRecOn with
 | ind n ih=>
  intro k acc t ha hn h0
  have hk9:k≤9:=by
   rcases h0 with h0 | h0
   ·omega
   ·exact pow7_lt hn h0
  by_cases h:n≤127
  ·have hc:(UInt8.ofNat n).toNat=n:=by rw[UInt8.toNat_ofNat'];omega
   have hm:n%128=n:=by omega
   have hF:getF k true (UInt8.ofNat n)=true:=by
    unfold getF
    rw[hc,hm]
    by_cases h9:k<9
    ·simp[h9]
    ·obtain rfl:k=9:=by omega
     have:n<2:=by
      have e:(2:Nat) ^ (7*9)=9223372036854775808:=by decide
      rw[e] at hn
      omega
     simp[this]
   rw[putV_small h,List.singleton_append,getL_end k acc true _ t (by rw[hc];omega) hF (by rw[hc];omega),getN_low (by omega) ha (by rw[hc,hm];exact hn),hc,hm]
   rfl
  ·have hc:(UInt8.ofNat n ||| 128).toNat=n%128+128:=by
    rw[UInt8.toNat_or,UInt8.toNat_ofNat']
    show n%2 ^ 8 ||| 128=_
    have e1:n%2 ^ 8=n%256:=rfl
    rw[e1]
    have e2:n%256<256:=Nat.mod_lt _ (by decide)
    have e3:n%128=n%256%128:=by omega
    rw[e3]
    generalize n%256=m at *
    have key:∀ m:Fin 256,m.val ||| 128=m.val%128+128:=by decide +kernel
    exact key ⟨m,e2⟩
   have hc2:(UInt8.ofNat n ||| 128).toNat%128=n%128:=by rw[hc];omega
   have hle:n%128*2 ^ (7*k)≤n*2 ^ (7*k):=Nat.mul_le_mul_right _ (Nat.mod_le _ _)
   have hsum:n*2 ^ (7*k)=n%128*2 ^ (7*k)+n/128*2 ^ (7*(k+1)):=by
    rw[pow7,← Nat.mul_assoc,← Nat.add_mul]
    congr 1
    omega
   have hk8:k<9:=by
    have h1:128*2 ^ (7*k)≤n*2 ^ (7*k):=Nat.mul_le_mul_right _ (by omega)
    rw[← pow7] at h1
    have:=pow7_lt (k:=k+1) (n:=1) (by omega) (by omega)
    omega
   have hF:getF k true (UInt8.ofNat n ||| 128)=true:=by simp[getF,hk8]
   rw[putV_great h,List.cons_append,getL_more k acc true _ _ (by rw[hc];omega),getN_low (by omega) ha (by rw[hc2];omega),hc2,hF,
    ih (n/128) (by omega) (k+1) _ t ?_ (by omega) (.inr (by omega)),List.length_cons]
   ·rw[hsum]
    refine Prod.ext ?_ (Prod.ext ?_ rfl)
    ·show acc+n%128*2 ^ (7*k)+n/128*2 ^ (7*(k+1))=_;omega
    ·show k+1+_=k+(_+1);omega
   ·rw[pow7]
    have:n%128≤127:=by omega
    have:=Nat.mul_le_mul_right (2 ^ (7*k)) this
    omega
theorem getA_at {l:List UInt8} {a n:Nat} (h:Stand l a (putV n)) (hn:n<18446744073709551616):getA l a=(n,(putV n).length,0):=by
 have hle:=h.le
 obtain ⟨t,ht⟩:=h.drop
 unfold getA
 rw[if_neg (by omega),Int.toNat_natCast,ht,getL_put n 0 0 t (by decide) (by simpa using hn) (.inl rfl)]
 simp
theorem endA_at {l:List UInt8} {a n:Nat} (h:Stand l a (putV n)) (hn:n<18446744073709551616):endA a (getA l a)=((a+(putV n).length:Nat):Int):=by
 rw[getA_at h hn]
 unfold endA
 simp
theorem getT_at {l s:List UInt8} {a most:Nat} (h:Stand l a (putV s.length++s)) (hm:s.length≤most) (hs:s.length<18446744073709551616):getT l a most=(s,((a+(putV s.length++s).length:Nat):Int),0):=by
 have h1:=h.left
 have h2:=h.right
 have hle:=h2.le
 unfold getT
 rw[endA_at h1 hs,getA_at h1 hs]
 dsimp only
 rw[if_neg (by simp),if_neg (by omega),if_neg (by omega)]
 refine Prod.ext ?_ (Prod.ext ?_ rfl)
 ·show (l.take (((a+(putV s.length).length:Nat):Int)+(s.length:Int)).toNat).drop (((a+(putV s.length).length:Nat):Int)).toNat=s
  rw[Int.toNat_natCast,show (((a+(putV s.length).length:Nat):Int)+(s.length:Int)).toNat=a+(putV s.length).length+s.length by omega]
  exact h2.cut
 ·show (((a+(putV s.length).length:Nat):Int)+(s.length:Int))=((a+(putV s.length++s).length:Nat):Int)
  rw[List.length_append];omega
theorem wrap_sub_add (a b:Int) (h:I64 a):wrap64 (wrap64 (a-b)+b)=a:=by
 unfold I64 at h
 unfold wrap64
 omega
theorem wrap_add_sub (a b:Int) (h:I64 a):wrap64 (b+wrap64 (a-b))=a:=by
 unfold I64 at h
 unfold wrap64
 omega
theorem encD_in (i:Nat) (last step n:Int) (h1:I64 n):I64 (delX i step (delD i last n)):=by
 unfold delX delD
 split
 ·exact wrap64_in _
 ·split
  ·exact h1
  ·exact wrap64_in _
theorem decX_back (i:Nat) (last step n:Int) (h1:I64 n) (h2:i=0→last=0):decX i step (delX i step (delD i last n))=delD i last n∧wrap64 (last+delD i last n)=n:=by
 have hd:I64 (delD i last n):=by unfold delD;split;exact h1;exact wrap64_in _
 refine ⟨?_,?_⟩
 ·unfold decX delX
  split
  ·exact wrap_sub_add _ _ hd
  ·rfl
 ·unfold delD
  split
  ·rename_i h;rw[h2 h,Int.zero_add];unfold I64 at h1;unfold wrap64;omega
  ·exact wrap_add_sub _ _ h1
theorem decL_at {l:List UInt8}:∀ (x:List Int) (i:Nat) (last step:Int) (en:Nat) (acc:List Int),Stand l en (encD i last step x)→(∀ n ∈ x,I64 n)→(i=0→last=0)→decL l x.length i last step en acc=(acc++x,((en+(encD i last step x).length:Nat):Int),0)
 | [],i,last,step,en,acc,h,hx,h0=>by simp[decL,encD]
 | n :: t,i,last,step,en,acc,h,hx,h0=>by
  rw[encD] at h
  have hn:=hx n (by simp)
  have hz:=zig_lt (encD_in i last step n hn)
  obtain ⟨hb1,hb2⟩:=decX_back i last step n hn h0
  rw[List.length_cons,decL,getA_at h.left hz]
  dsimp only
  rw[if_neg (by simp),zag_zig,hb1,hb2]
  have he:=endA_at h.left hz
  rw[getA_at h.left hz] at he
  rw[he,decL_at t (i+1) n _ _ _ h.right (fun m hm=>hx m (by simp[hm])) (by omega),encD,List.append_assoc,List.singleton_append,List.length_append,Nat.add_assoc]
theorem deltaR_at {l:List UInt8} {a:Nat} {x:List Int} {most:Nat} (h:Stand l a (deltaB x)) (hm:x.length≤most) (hx:∀ n ∈ x,I64 n) (hl:x.length<18446744073709551616):deltaR l a most=(x,((a+(deltaB x).length:Nat):Int),0):=by
 unfold deltaB at h
 unfold deltaR
 have he:=endA_at h.left hl
 rw[getA_at h.left hl] at he ⊢
 dsimp only
 rw[if_neg (by simp),if_neg (by omega),he,decL_at x 0 0 0 _ [] h.right hx (fun _=>rfl),List.nil_append]
 unfold deltaB
 rw[List.length_append,Nat.add_assoc]
end Go.Proofs.YtplnodcbbcdcgaaGreat.Lib0
namespace Go.Proofs.YtplnodcbbcdcgaaGreat.Lib0
open Go.RowKit Go.Proofs.YtplnodcbbcdcgaaGreatW.PrintWords Go.ChangeMaps
theorem pow8 (k:Nat):2 ^ (8*(k+1))=2 ^ (8*k)*256:=by
 rw[show 8*(k+1)=8*k+8 by omega,Nat.pow_add]
theorem leN_at (n:Nat):∀ (m k:Nat),k+m≤8→leN k (n%2 ^ (8*k)) ((List.range' k m).map fun k=>UInt8.ofNat (n/2 ^ (8*k)))=n%2 ^ (8*(k+m))
 | 0,k,h=>by simp[leN]
 | m+1,k,h=>by
  rw[List.range'_succ,List.map_cons,leN]
  have hc:(UInt8.ofNat (n/2 ^ (8*k))).toNat=n/2 ^ (8*k)%256:=by rw[UInt8.toNat_ofNat']
  have h1:n%2 ^ (8*k)<2 ^ (8*k):=Nat.mod_lt _ (Nat.two_pow_pos _)
  have h2:n/2 ^ (8*k)%256*2 ^ (8*k)<18446744073709551616:=by
   have h3:n/2 ^ (8*k)%256<256:=Nat.mod_lt _ (by decide)
   have h4:n/2 ^ (8*k)%256*2 ^ (8*k)<256*2 ^ (8*k):=(Nat.mul_lt_mul_right (Nat.two_pow_pos _)).2 h3
   have h5:2 ^ (8*(k+1))≤2 ^ 64:=Nat.pow_le_pow_right (by decide) (by omega)
   rw[pow8] at h5
   have e:(2:Nat) ^ 64=18446744073709551616:=by decide
   rw[Nat.mul_comm] at h5
   omega
  rw[hc,Nat.mod_eq_of_lt h2,Nat.or_comm,← Nat.shiftLeft_eq,← Nat.shiftLeft_add_eq_or_of_lt h1,Nat.shiftLeft_eq]
  have e2:n/2 ^ (8*k)%256*2 ^ (8*k)+n%2 ^ (8*k)=n%2 ^ (8*(k+1)):=by
   rw[pow8,Nat.mod_mul,Nat.mul_comm]
   omega
  rw[e2,leN_at n m (k+1) (by omega),show k+1+m=k+(m+1) by omega]
theorem leN_leB {m n:Nat} (hm:m≤8) (hn:n<2 ^ (8*m)):leN 0 0 (leB m n)=n:=by
 have h:=leN_at n m 0 (by omega)
 rw[Nat.mul_zero,Nat.pow_zero,Nat.mod_one,Nat.zero_add,Nat.mod_eq_of_lt hn,← List.range_eq_range'] at h
 exact h
def bitB (l:List UInt8) (p:Nat):Bool:=(l.getD (p/8) 0).toNat.testBit (p%8)
theorem bitAt_B (l:List UInt8) (p:Nat):bitAt l p=(bitB l p).toNat:=by
 unfold bitAt bitB
 rw[Nat.testBit_eq_decide_div_mod_eq]
 have:(l.getD (p/8) 0).toNat/2 ^ (p%8)%2<2:=Nat.mod_lt _ (by decide)
 by_cases h:(l.getD (p/8) 0).toNat/2 ^ (p%8)%2=1
 ·rw[decide_eq_true h,h];rfl
 ·rw[decide_eq_false h];show _=0;omega
theorem putBit_B (out:List UInt8) (p n k q:Nat) (hp:p<8*out.length):bitB (putBit out p n k) q=if q=p then (bitB out q || n.testBit k) else bitB out q:=by
 have hi:p/8<out.length:=by omega
 have hb:(UInt8.ofNat (n/2 ^ k%2*2 ^ (p%8))).toNat=n/2 ^ k%2*2 ^ (p%8):=by
  rw[UInt8.toNat_ofNat',Nat.mod_eq_of_lt]
  have h1:n/2 ^ k%2≤1:=by omega
  have h2:n/2 ^ k%2*2 ^ (p%8)≤1*2 ^ (p%8):=Nat.mul_le_mul_right _ h1
  have h3:2 ^ (p%8)≤2 ^ 7:=Nat.pow_le_pow_right (by decide) (by omega)
  have e:(2:Nat) ^ 7=128:=by decide
  show _<256
  omega
 unfold bitB putBit
 by_cases hq:q/8=p/8
 ·have e1:(out.set (p/8) (out.getD (p/8) 0 ||| UInt8.ofNat (n/2 ^ k%2*2 ^ (p%8)))).getD (q/8) 0=(out.getD (p/8) 0 ||| UInt8.ofNat (n/2 ^ k%2*2 ^ (p%8))):=by
   rw[hq]
   simp[List.getD,hi]
  rw[e1,UInt8.toNat_or,Nat.testBit_or,hb,hq]
  have e2:(n/2 ^ k%2*2 ^ (p%8)).testBit (q%8)=(decide (q%8=p%8) && n.testBit k):=by
   rw[Nat.testBit_eq_decide_div_mod_eq (x:=n)]
   have:n/2 ^ k%2<2:=Nat.mod_lt _ (by decide)
   by_cases h1:n/2 ^ k%2=1
   ·rw[h1,Nat.one_mul,Nat.testBit_two_pow,decide_eq_true rfl,Bool.and_true]
    by_cases h:p%8=q%8
    ·rw[decide_eq_true h,decide_eq_true h.symm]
    ·rw[decide_eq_false h,decide_eq_false (fun h2=>h h2.symm)]
   ·have h0:n/2 ^ k%2=0:=by omega
    rw[h0,Nat.zero_mul,Nat.zero_testBit];simp
  rw[e2]
  by_cases h:q=p
  ·subst h;simp
  ·rw[if_neg h,decide_eq_false (by omega),Bool.false_and,Bool.or_false]
 ·have e1:(out.set (p/8) (out.getD (p/8) 0 ||| UInt8.ofNat (n/2 ^ k%2*2 ^ (p%8)))).getD (q/8) 0=out.getD (q/8) 0:=by
   simp[List.getD,List.getElem?_set,Ne.symm hq]
  rw[e1,if_neg (fun h=>hq (by rw[h]))]
theorem packK_B (n:Nat):∀ (m k p:Nat) (out:List UInt8) (q:Nat),p+m≤8*out.length→bitB (packK n m k p out) q=(bitB out q || (decide (p≤q∧q<p+m) && n.testBit (k+(q-p))))
 | 0,k,p,out,q,h=>by
  rw[packK,decide_eq_false (by omega),Bool.false_and,Bool.or_false]
 | m+1,k,p,out,q,h=>by
  rw[packK,packK_B n m (k+1) (p+1) _ q (by rw[putBit_len];omega),putBit_B out p n k q (by omega)]
  by_cases hq:q=p
  ·subst hq
   rw[if_pos rfl,decide_eq_false (by omega),Bool.false_and,Bool.or_false,decide_eq_true (by omega),Bool.true_and,Nat.sub_self,Nat.add_zero]
  ·rw[if_neg hq]
   by_cases h1:p≤q∧q<p+(m+1)
   ·rw[decide_eq_true h1,decide_eq_true (show p+1≤q∧q<p+1+m by omega),show k+1+(q-(p+1))=k+(q-p) by omega]
   ·rw[decide_eq_false h1,decide_eq_false (show ¬ (p+1≤q∧q<p+1+m) by omega),Bool.false_and,Bool.false_and]
theorem packL_B (wd:Nat):∀ (l:List Nat) (p:Nat) (out:List UInt8) (i j:Nat),p+l.length*wd≤8*out.length→i<l.length→j<wd→bitB out (p+i*wd+j)=false→
  bitB (packL wd l p out) (p+i*wd+j)=(l.getD i 0).testBit j
 | [],p,out,i,j,_,hi,_,_=>by simp at hi
 | n :: l,p,out,i,j,h,hi,hj,h0=>by
  have hmul:(n :: l).length*wd=wd+l.length*wd:=by rw[List.length_cons,Nat.add_mul,Nat.one_mul,Nat.add_comm]
  rw[hmul] at h
  rw[packL]
  have hB:=packK_B n wd 0 p out
  rcases i with _ | i
  ·rw[Nat.zero_mul,Nat.add_zero] at h0 ⊢
   have keep:∀ (l:List Nat) (p':Nat) (out:List UInt8) (q:Nat),p'+l.length*wd≤8*out.length→q<p'→bitB (packL wd l p' out) q=bitB out q:=by
    intro l
    induction l with
    | nil=>intro p' out q _ _;rfl
    | cons x l ih=>
     intro p' out q h1 h2
     rw[List.length_cons,Nat.add_mul,Nat.one_mul] at h1
     rw[packL,ih _ _ _ (by rw[packK_len];omega) (by omega),packK_B x wd 0 p' out q (by omega),decide_eq_false (by omega),Bool.false_and,Bool.or_false]
   rw[keep l _ _ _ (by rw[packK_len];omega) (by omega),hB _ (by omega),h0,decide_eq_true (by omega),Bool.true_and,Bool.false_or,Nat.add_sub_cancel_left,Nat.zero_add]
   rfl
  ·have e:p+(i+1)*wd+j=p+wd+i*wd+j:=by rw[Nat.add_mul,Nat.one_mul];omega
   have hi2:i<l.length:=by simpa using hi
   rw[e] at h0 ⊢
   rw[packL_B wd l (p+wd) (packK n wd 0 p out) i j (by rw[packK_len];omega) hi2 hj ?_]
   ·rfl
   ·rw[hB _ (by omega),h0,decide_eq_false (by omega),Bool.false_and,Bool.or_false]
theorem bitB_zero (n q:Nat):bitB (List.replicate n 0) q=false:=by
 unfold bitB
 have:(List.replicate n (0:UInt8)).getD (q/8) 0=0:=by
  simp only[List.getD,List.getElem?_replicate]
  split<;>rfl
 rw[this]
 exact Nat.zero_testBit _
theorem valK_B (l:List UInt8) (p:Nat):∀ (m k acc j:Nat),k+m≤64→(valK l p m k acc).testBit j=(acc.testBit j || (decide (k≤j∧j<k+m) && bitB l (p+j)))
 | 0,k,acc,j,h=>by rw[valK,decide_eq_false (by omega),Bool.false_and,Bool.or_false]
 | m+1,k,acc,j,h=>by
  have e:bitAt l (p+k)*2 ^ k%18446744073709551616=bitAt l (p+k)*2 ^ k:=by
   refine Nat.mod_eq_of_lt ?_
   have h1:bitAt l (p+k)≤1:=by have:=bitAt_lt l (p+k);omega
   have h2:bitAt l (p+k)*2 ^ k≤1*2 ^ k:=Nat.mul_le_mul_right _ h1
   have h3:2 ^ k≤2 ^ 63:=Nat.pow_le_pow_right (by decide) (by omega)
   have e:(2:Nat) ^ 63=9223372036854775808:=by decide
   omega
  have e2:(bitAt l (p+k)*2 ^ k).testBit j=(decide (j=k) && bitB l (p+k)):=by
   rw[bitAt_B]
   cases bitB l (p+k)
   ·simp
   ·show (1*2 ^ k).testBit j=_
    rw[Nat.one_mul,Nat.testBit_two_pow,Bool.and_true]
    by_cases h:k=j
    ·rw[decide_eq_true h,decide_eq_true h.symm]
    ·rw[decide_eq_false h,decide_eq_false (fun h2=>h h2.symm)]
  rw[valK,valK_B l p m (k+1) _ j (by omega),e,Nat.testBit_or,e2]
  by_cases hj:j=k
  ·subst hj
   rw[decide_eq_true rfl,Bool.true_and,decide_eq_false (show ¬ (j+1≤j∧j<j+1+m) by omega),Bool.false_and,Bool.or_false,decide_eq_true (show j≤j∧j<j+(m+1) by omega),Bool.true_and]
  ·rw[decide_eq_false hj,Bool.false_and,Bool.or_false]
   by_cases h1:k≤j∧j<k+(m+1)
   ·rw[decide_eq_true h1,decide_eq_true (show k+1≤j∧j<k+1+m by omega)]
   ·rw[decide_eq_false h1,decide_eq_false (show ¬ (k+1≤j∧j<k+1+m) by omega)]
theorem unpack_pack {l:List Nat} {wd:Nat} (hw:wd≤64) (h:∀ n ∈ l,n<2 ^ wd):unpackB (packB l wd) l.length wd=l:=by
 apply List.ext_getElem
 ·simp[unpackB]
 ·intro i h1 h2
  have e0:(unpackB (packB l wd) l.length wd)[i]=valK (packB l wd) (i*wd) wd 0 0:=by simp[unpackB]
  rw[e0]
  apply Nat.eq_of_testBit_eq
  intro j
  rw[valK_B _ _ wd 0 0 j (by omega),Nat.zero_testBit,Bool.false_or,Nat.zero_add]
  by_cases hj:j<wd
  ·rw[decide_eq_true (by omega),Bool.true_and]
   have hs:0+l.length*wd≤8*(List.replicate (sizeB l.length wd) (0:UInt8)).length:=by
    rw[List.length_replicate];unfold sizeB;omega
   have:=packL_B wd l 0 (List.replicate (sizeB l.length wd) 0) i j hs h2 hj (bitB_zero _ _)
   rw[Nat.zero_add] at this
   show bitB (packL wd l 0 _) (i*wd+j)=_
   rw[this,List.getD,List.getElem?_eq_getElem h2]
   rfl
  ·rw[decide_eq_false (by omega),Bool.false_and]
   have hn:=h l[i] (List.getElem_mem h2)
   exact (Nat.testBit_lt_two_pow (Nat.lt_of_lt_of_le hn (Nat.pow_le_pow_right (by decide) (by omega)))).symm
end Go.Proofs.YtplnodcbbcdcgaaGreat.Lib0
namespace Go.Proofs.YtplnodcbbcdcgaaGreat.Lib0
open Go.RowKit Go.Proofs.YtplnodcbbcdcgaaGreatW.PrintWords Go.ChangeMaps
theorem same_take:∀ (l:List Nat),l.take (sameN l)=List.replicate (sameN l) (l.getD 0 0)
 | []=>rfl
 | x :: t=>by
  unfold sameN
  simp only
  have h1:∀ l:List Nat,l.take (l.takeWhile (·==x)).length=l.takeWhile (·==x):=by
   intro l
   induction l with
   | nil=>rfl
   | cons a l ih=>
    rw[List.takeWhile_cons]
    split
    ·rw[List.length_cons,List.take_succ_cons,ih]
    ·rfl
  have h2:∀ l:List Nat,l.takeWhile (·==x)=List.replicate (l.takeWhile (·==x)).length x:=by
   intro l
   induction l with
   | nil=>rfl
   | cons a l ih=>
    rw[List.takeWhile_cons]
    split
    ·rename_i h
     rw[List.length_cons,List.replicate_succ,← ih]
     congr 1
     simpa using h
    ·rfl
  rw[h1]
  exact h2 _
theorem grpF_form (l:List Nat):∀ (f e:Nat),e%8=0→e<l.length+8→8≤e→∃ m,grpF f l e=8*m∧1≤m∧8*m<l.length+8
 | 0,e,h0,h1,h2=>⟨e/8,by rw[grpF];omega,by omega,by omega⟩
 | f+1,e,h0,h1,h2=>by
  rw[grpF]
  split
  ·exact grpF_form l f (e+8) (by omega) (by omega) (by omega)
  ·exact ⟨e/8,by omega,by omega,by omega⟩
theorem runsF_nil (wd:Nat):∀ g,runsF wd g [] = []
 | 0=>rfl
 | g+1=>by rw[runsF,if_pos List.length_nil]
theorem decR_done (l0:List UInt8) (n wd p:Nat) (out:List Nat) (h:n≤out.length):∀ f,decR l0 n wd f p out=(0,p,out)
 | 0=>rfl
 | f+1=>by rw[decR,if_pos h]
theorem decR_at {l0:List UInt8} {n wd:Nat} (hw:wd≤32) (hn:n≤1099511627776):∀ (g:Nat) (rest:List Nat) (f p:Nat) (out:List Nat),Stand l0 p (runsF wd g rest)→out.length+rest.length=n→rest.length≤g→l0.length<p+f→(∀ x ∈ rest,x<2 ^ wd)→
  ∃ z,decR l0 n wd f p out=(0,p+(runsF wd g rest).length,out++rest++List.replicate z 0)
 | 0,rest,f,p,out,hs,ho,hg,hf,hx=>by
  have:rest = []:=List.eq_nil_of_length_eq_zero (by omega)
  subst this
  exact ⟨0,by rw[decR_done _ _ _ _ _ (by rw[← ho];simp)];simp[runsF]⟩
 | g+1,rest,f,p,out,hs,ho,hg,hf,hx=>by
  by_cases h0:rest.length=0
  ·have:rest = []:=List.eq_nil_of_length_eq_zero h0
   subst this
   exact ⟨0,by rw[decR_done _ _ _ _ _ (by rw[← ho];simp),runsF_nil];simp⟩
  ·obtain ⟨f,rfl⟩:∃ f',f=f'+1:=by
    have:=hs.le
    rcases f with _ | f
    ·exfalso
     have h1:0<(runsF wd (g+1) rest).length:=by
      rw[runsF,if_neg h0]
      split
      ·have:=putV_pos (2*sameN rest);simp only[List.length_append];omega
      ·have:=putV_pos (2*grpF rest.length rest 8/8+1);simp only[List.length_append];omega
     omega
    ·exact ⟨f,rfl⟩
   rw[runsF,if_neg h0] at hs ⊢
   by_cases h8:8≤sameN rest
   ·rw[if_pos h8] at hs ⊢
    have hsl:=sameN_le rest
    have hs1:=hs.left.left
    have hs2:=hs.left.right
    have hs3:=hs.right
    have hg1:=getA_at hs1 (by omega)
    have hle:=hs2.le
    rw[leB_len] at hle
    have hv:leN 0 0 ((l0.take (p+(putV (2*sameN rest)).length+(wd+7)/8)).drop (p+(putV (2*sameN rest)).length))=rest.getD 0 0:=by
     have:=hs2.cut
     rw[leB_len] at this
     rw[this]
     refine leN_leB (by omega) ?_
     have h1:rest.getD 0 0 ∈ rest:=by
      cases rest with
      | nil=>simp at h0
      | cons a t=>simp
     exact Nat.lt_of_lt_of_le (hx _ h1) (Nat.pow_le_pow_right (by decide) (by omega))
    have hst:stepR l0 (p+(putV (2*sameN rest)).length) n wd out (2*sameN rest)=(0,p+(putV (2*sameN rest)).length+(wd+7)/8,out++rest.take (sameN rest)):=by
     unfold stepR runR
     rw[if_pos (by omega),if_neg (by omega),show 2*sameN rest/2=sameN rest by omega,if_neg (by omega),hv,same_take]
    have hpos:=putV_pos (2*sameN rest)
    obtain ⟨z,hz⟩:=decR_at hw hn g (rest.drop (sameN rest)) f (p+(putV (2*sameN rest)).length+(wd+7)/8) (out++rest.take (sameN rest)) (by rw[List.length_append,leB_len,← Nat.add_assoc] at hs3;exact hs3)
     (by rw[List.length_append,List.length_take,List.length_drop];omega) (by rw[List.length_drop];omega) (by omega) (fun x hx'=>hx x (List.mem_of_mem_drop hx'))
    refine ⟨z,?_⟩
    rw[decR,if_neg (by omega),hg1]
    dsimp only
    rw[if_neg (by simp),hst]
    dsimp only
    rw[if_neg (by simp),hz,List.append_assoc out,List.take_append_drop,List.length_append,List.length_append,leB_len]
    simp only[Nat.add_assoc]
   ·rw[if_neg h8] at hs ⊢
    obtain ⟨m,hm,hm1,hm2⟩:=grpF_form rest rest.length 8 rfl (by omega) (Nat.le_refl _)
    rw[hm,show 2*(8*m)/8+1=2*m+1 by omega] at hs ⊢
    have hs1:=hs.left.left
    have hs2:=hs.left.right
    have hs3:=hs.right
    have hg1:=getA_at hs1 (by omega)
    have hle:=hs2.le
    have hpl:(packB (padN rest (8*m)) wd).length=m*wd:=by
     rw[packB_len,padN_len]
     unfold sizeB
     rw[Nat.mul_assoc]
     omega
    rw[hpl] at hle
    have hu:unpackB ((l0.take (p+(putV (2*m+1)).length+m*wd)).drop (p+(putV (2*m+1)).length)) (8*m) wd=padN rest (8*m):=by
     have:=hs2.cut
     rw[hpl] at this
     rw[this]
     have h1:=unpack_pack (l:=padN rest (8*m)) (wd:=wd) (by omega) (fun x hx'=>by
      rcases padN_mem hx' with h | h
      ·exact hx x h
      ·rw[h];exact Nat.two_pow_pos _)
     rw[padN_len] at h1
     exact h1
    have hmw:0<wd→m≤m*wd:=fun h=>Nat.le_mul_of_pos_right m h
    have hst:stepR l0 (p+(putV (2*m+1)).length) n wd out (2*m+1)=(0,p+(putV (2*m+1)).length+m*wd,out++padN rest (8*m)):=by
     unfold stepR groupsR
     rw[if_neg (by omega),show (2*m+1)/2=m by omega,if_neg (by intro h;have:=hmw h.1;omega),if_neg (by omega),if_neg (by omega),hu]
    have hpos:=putV_pos (2*m+1)
    rw[List.length_append,hpl,← Nat.add_assoc] at hs3
    by_cases hr:8*m≤rest.length
    ·have hpad:padN rest (8*m)=rest.take (8*m):=by unfold padN;rw[show 8*m-rest.length=0 by omega];simp
     rw[hpad] at hst
     obtain ⟨z,hz⟩:=decR_at hw hn g (rest.drop (8*m)) f (p+(putV (2*m+1)).length+m*wd) (out++rest.take (8*m)) hs3
      (by rw[List.length_append,List.length_take,List.length_drop];omega) (by rw[List.length_drop];omega) (by omega) (fun x hx'=>hx x (List.mem_of_mem_drop hx'))
     refine ⟨z,?_⟩
     rw[decR,if_neg (by omega),hg1]
     dsimp only
     rw[if_neg (by simp),hst]
     dsimp only
     rw[if_neg (by simp),hz,List.append_assoc out,List.take_append_drop,List.length_append,List.length_append,hpl]
     simp only[Nat.add_assoc]
    ·have hd:rest.drop (8*m) = []:=List.drop_eq_nil_of_le (by omega)
     have hpad:padN rest (8*m)=rest++List.replicate (8*m-rest.length) 0:=by unfold padN;rw[List.take_of_length_le (by omega)]
     rw[hpad] at hst
     refine ⟨8*m-rest.length,?_⟩
     rw[decR,if_neg (by omega),hg1]
     dsimp only
     rw[if_neg (by simp),hst]
     dsimp only
     rw[if_neg (by simp),decR_done _ _ _ _ _ (by simp only[List.length_append];omega),hd,runsF_nil,List.append_nil,List.length_append,hpl,List.append_assoc]
     simp only[Nat.add_assoc]
theorem runsD_at {l0:List UInt8} {p wd:Nat} {l:List Nat} (h:Stand l0 p (runsB l wd).1) (hw:wd≤32) (hl:widthL l≤wd) (hn:l.length≤1099511627776):runsD l0 p l.length wd=(l,p+(runsB l wd).1.length,0):=by
 have he:runsB l (wd:Int)=(runsF wd l.length l,0):=by
  unfold runsB
  rw[if_neg (by omega),Int.toNat_natCast]
 rw[he] at h ⊢
 dsimp only at h ⊢
 obtain ⟨z,hz⟩:=decR_at hw hn l.length l (l0.length+1) p [] h (by simp) (Nat.le_refl _) (by omega) (fun x hx=>width_mem hl hx)
 unfold runsD endR
 rw[hz]
 dsimp only
 rw[List.nil_append,if_neg (by simp),List.drop_left,List.take_left,he,if_neg,if_neg]
 ·dsimp only
  have:=h.cut
  rw[this]
  simp
 ·simp
end Go.Proofs.YtplnodcbbcdcgaaGreat.Lib0

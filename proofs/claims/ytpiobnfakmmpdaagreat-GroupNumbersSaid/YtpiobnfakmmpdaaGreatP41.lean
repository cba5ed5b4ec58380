import Derived.Test.YtpiobnfakmmpdaaGreatP30
import Derived.Test.YtpiobnfakmmpdaaGreatP40
import Derived.Test.YtpiobnfakmmpdaaGreatP25
set_option linter.unusedVariables false
set_option linter.unusedSimpArgs false
namespace Go.Proofs.YtpiobnfakmmpdaaGreat.Lib0
open Go.RowKit Go.Proofs.YtpiobnfakmmpdaaGreatW.PrintWords Go.ChangeMaps
theorem cellsRB_rise:∀ (l:List CellM) (p:Option ByteArray),cellsRB p l=true→l.Pairwise (fun a b=>lessS a.col b.col=true)∧∀ q,p=some q→∀ c ∈ l,lessS q c.col=true
 | [],p,h=>⟨List.Pairwise.nil,fun q _ c hc=>by cases hc⟩
 | c :: t,p,h=>by
  rw[cellsRB.eq_def] at h
  dsimp only at h
  rw[Bool.and_eq_true,Bool.and_eq_true] at h
  obtain ⟨⟨h1,h2⟩,h3⟩:=h
  obtain ⟨i1,i2⟩:=cellsRB_rise t _ h3
  refine ⟨List.pairwise_cons.2 ⟨i2 _ rfl,i1⟩,fun q hq d hd=>?_⟩
  subst hq
  dsimp only at h2
  rcases List.mem_cons.1 hd with rfl | hd
  ·exact h2
  ·exact lessS_trans h2 (i2 _ rfl d hd)
theorem cellOf_none:∀ (l:List CellM) (s:ByteArray),(∀ c ∈ l,c.col≠s)→cellOf l s=noCell
 | [],_,_=>rfl
 | c :: t,s,h=>by
  rw[cellOf,if_neg (h c (by simp))]
  exact cellOf_none t s (fun d hd=>h d (by simp[hd]))
theorem cellOf_mem:∀ (l:List CellM) (s:ByteArray),cellOf l s=noCell∨(cellOf l s ∈ l∧(cellOf l s).col=s)
 | [],_=>.inl rfl
 | c :: t,s=>by
  rw[cellOf]
  split
  ·rename_i h;exact .inr ⟨by simp,h⟩
  ·rcases cellOf_mem t s with h | ⟨h1,h2⟩
   ·exact .inl h
   ·exact .inr ⟨List.mem_cons_of_mem _ h1,h2⟩
theorem cells_flat:∀ (l:List ColM) (cs:List CellM),RiseL l→cs.Pairwise (fun a b=>lessS a.col b.col=true)→(∀ c ∈ cs,c.kind≠0)→(∀ c ∈ cs,∃ x ∈ l,x.name=c.col)→
  (l.map fun x=>cellQ (bareC (cellOf cs x.name)) x.name).flatten=cs
 | [],[],_,_,_,_=>rfl
 | [],c :: cs,_,_,_,h=>by
  obtain ⟨x,hx,_⟩:=h c (by simp)
  cases hx
 | x :: l,[],hl,_,_,_=>by
  rw[List.flatten_eq_nil_iff]
  intro y hy
  obtain ⟨z,_,rfl⟩:=List.mem_map.1 hy
  rfl
 | x :: l,c :: cs,hl,hc,h0,h=>by
  have hl2:=List.pairwise_cons.1 hl
  have hc2:=List.pairwise_cons.1 hc
  rw[List.map_cons,List.flatten_cons]
  by_cases e:c.col=x.name
  ·have h1:cellOf (c :: cs) x.name=c:=by rw[cellOf,if_pos e]
   have h2:∀ y ∈ l,cellQ (bareC (cellOf (c :: cs) y.name)) y.name=cellQ (bareC (cellOf cs y.name)) y.name:=fun y hy=>by
    rw[cellOf,if_neg]
    intro e2
    have:=hl2.1 y hy
    rw[← e,e2,lessS_irrefl] at this
    cases this
   rw[h1,List.map_congr_left h2,cells_flat l cs hl2.2 hc2.2 (fun d hd=>h0 d (by simp[hd])) (fun d hd=>?_)]
   ·unfold cellQ bareC
    dsimp only
    rw[if_neg (h0 c (by simp)),← e]
    rfl
   ·obtain ⟨y,hy,hyn⟩:=h d (by simp[hd])
    rcases List.mem_cons.1 hy with rfl | hy
    ·have:=hc2.1 d hd
     rw[e,hyn,lessS_irrefl] at this
     cases this
    ·exact ⟨y,hy,hyn⟩
  ·obtain ⟨y,hy,hyn⟩:=h c (by simp)
   have hy2:y ∈ l:=by
    rcases List.mem_cons.1 hy with rfl | hy
    ·exact absurd hyn.symm e
    ·exact hy
   have hxc:lessS x.name c.col=true:=by rw[← hyn];exact hl2.1 y hy2
   have h1:cellOf (c :: cs) x.name=noCell:=cellOf_none _ _ (fun d hd e2=>by
    rcases List.mem_cons.1 hd with rfl | hd
    ·exact e e2
    ·have:=lessS_trans hxc (hc2.1 d hd)
     rw[e2,lessS_irrefl] at this
     cases this)
   rw[h1,cells_flat l (c :: cs) hl2.2 hc h0 (fun d hd=>?_)]
   ·rfl
   ·obtain ⟨z,hz,hzn⟩:=h d hd
    rcases List.mem_cons.1 hz with rfl | hz
    ·exfalso
     rcases List.mem_cons.1 hd with rfl | hd
     ·exact e hzn.symm
     ·have:=lessS_trans hxc (hc2.1 d hd)
      rw[hzn,lessS_irrefl] at this
      cases this
    ·exact ⟨z,hz,hzn⟩
theorem size0 {s:ByteArray} (h:s.size=0):s=ByteArray.empty:=by
 obtain ⟨d⟩:=s
 have:d=#[]:=Array.eq_empty_of_size_eq_zero h
 subst this
 rfl
theorem fine_norm {c:CellM} (h:fineB c=true) (hi:I64 c.n):NormC c.kind (bareC c)∧(c.kind=1∨c.kind=2):=by
 unfold fineB at h
 split at h
 ·rename_i h1
  simp only[Bool.and_eq_true,decide_eq_true_eq] at h
  exact ⟨.inr ⟨rfl,rfl,.inl ⟨h1,size0 h.2,hi⟩⟩,.inl h1⟩
 ·split at h
  ·rename_i h1 h2
   simp only[Bool.and_eq_true,decide_eq_true_eq] at h
   exact ⟨.inr ⟨rfl,rfl,.inr ⟨h2,h.2.1,h.2.2⟩⟩,.inr h2⟩
  ·cases h
theorem row_cells {r:RowM} (h:r.ok=true):(∀ c ∈ r.cs,fineB c=true)∧r.cs.Pairwise (fun a b=>lessS a.col b.col=true):=by
 unfold RowM.ok rowB at h
 rw[Bool.and_eq_true] at h
 exact ⟨cellsRB_fine _ _ h.2,(cellsRB_rise _ _ h.2).1⟩
structure ColsOf (M:List RowM) (l:List ColM):Prop where
 rise:RiseL l
 has:∀ r ∈ M,∀ c ∈ r.cs,(⟨c.col,c.kind⟩:ColM) ∈ l
 from_:∀ x ∈ l,∃ r ∈ M,∃ c ∈ r.cs,x=⟨c.col,c.kind⟩
theorem growsR_cols {M:List RowM} (h:(growsR [] M).2.1=0):ColsOf M (growsR [] M).1:=by
 have he:growsR [] M=growsF [] 0 M:=by unfold growsR;rw[if_pos (by rfl)]
 rw[he] at h ⊢
 obtain ⟨h1,h2,h3,h4⟩:=growsF_spec M [] 0 h List.Pairwise.nil
 refine ⟨h1,h3,fun x hx=>?_⟩
 rcases h4 x hx with h5 | h5
 ·cases h5
 ·exact h5
theorem ColsOf.norm {M:List RowM} {l:List ColM} (h:ColsOf M l) (hr:∀ r ∈ M,r.ok=true) (hi:∀ r ∈ M,∀ c ∈ r.cs,I64 c.n) {x:ColM} (hx:x ∈ l):(x.kind=1∨x.kind=2)∧∀ c ∈ columnB M x.name,NormC x.kind c:=by
 constructor
 ·obtain ⟨r,h1,c,h2,rfl⟩:=h.from_ x hx
  exact (fine_norm ((row_cells (hr r h1)).1 c h2) (hi r h1 c h2)).2
 ·intro c hc
  unfold columnB at hc
  obtain ⟨r,h1,rfl⟩:=List.mem_map.1 hc
  rcases cellOf_mem r.cs x.name with h2 | ⟨h2,h3⟩
  ·rw[h2];exact .inl rfl
  ·have h4:=h.rise.one (h.has r h1 _ h2) hx h3
   have h5:(cellOf r.cs x.name).kind=x.kind:=congrArg ColM.kind h4
   have:=(fine_norm ((row_cells (hr r h1)).1 _ h2) (hi r h1 _ h2)).1
   rw[h5] at this
   exact this
theorem chunk_small {kind:Int} {x:List CellM} (hk:kind=1∨kind=2) (hl:x.length≤16) (hx:∀ c ∈ x,NormC kind c):(chunkB kind x).1.length≤65536:=by
 unfold chunkB
 split
 ·simp
 ·split
  ·simp
  ·split
   ·simp
   ·have h1:=putV_len10 (n:=x.length) (by omega)
    have h2:=runsB_len (nullsL x) 1 (by rw[nulls_len];omega)
    rw[nulls_len] at h2
    have h0:(bodyF kind x).1≤3:=by
     unfold bodyF
     split
     ·split<;>simp
     ·simp
    have h3:=putV_len10 (n:=(bodyF kind x).1) (by omega)
    have h4:(bodyF kind x).2.length≤10000:=by
     unfold bodyF
     split
     ·rename_i hk2
      subst hk2
      have ht:=textsOf_len x
      have hs:=texts_norm x hx
      split
      ·unfold codedB
       have h5:=dictB_len (dictL (textsOf x))
       have h7:(natsL (placesL (dictL (textsOf x)) (textsOf x))).length=(textsOf x).length:=by simp[natsL,placesL]
       have h6:=runsB_len (natsL (placesL (dictL (textsOf x)) (textsOf x))) (widthL (natsL (placesL (dictL (textsOf x)) (textsOf x)))) (by omega)
       rw[List.length_append]
       omega
      ·have:=textsB_len (textsOf x) hs
       show (textsB (textsOf x)).length≤_
       omega
     ·rename_i hk2
      have h1k:kind=1:=hk.resolve_right hk2
      subst h1k
      have:=numsB_len x (fun c hc=>by
       rcases hx c hc with rfl | ⟨_,_,⟨_,_,h⟩ | ⟨h,_⟩⟩
       ·exact ⟨by decide,by decide⟩
       ·exact h
       ·cases h)
      show (numsB x).length≤_
      omega
    rw[List.length_append,List.length_append,List.length_append]
    omega
theorem partsG_at {l:List UInt8} {M:List RowM} (hM:M.length≤16):∀ (cols:List ColM) (p:Nat) (acc:List PartQ),Stand l p (partsB M cols)→(∀ x ∈ cols,x.name.size≤12∧(x.kind=1∨x.kind=2)∧∀ c ∈ columnB M x.name,NormC x.kind c)→
  ∃ qs:List PartQ,partsG l cols.length p acc=some (acc++qs,((p+(partsB M cols).length:Nat):Int))∧qs.map (fun q=>(q.name,kindOf q.form,q.cs))=cols.map (fun x=>(x.name,x.kind,columnB M x.name))
 | [],p,acc,h,hx=>⟨[],by rw[List.length_nil,partsG_zero,List.append_nil];rfl,rfl⟩
 | x :: cols,p,acc,h,hx=>by
  obtain ⟨hn,hk,hc⟩:=hx x (by simp)
  rw[partsB] at h
  unfold partB at h
  have hcl:(columnB M x.name).length≤16:=by rw[columnB_len];exact hM
  obtain ⟨o1,form,o2,o3⟩:=openR_at hk (by omega) hc
  have hsm:=chunk_small hk hcl hc
  have e1:textB x.name=putV (byt x.name).length++byt x.name:=by rw[byt_length];rfl
  have e2:textB (str (chunkB x.kind (columnB M x.name)).1)=putV (chunkB x.kind (columnB M x.name)).1.length++(chunkB x.kind (columnB M x.name)).1:=by
   unfold textB
   rw[str_size,byt_str]
  have s1:=h.left.left
  have s2:=h.left.right
  have s3:=h.right
  have hn2:(byt x.name).length≤12:=by rw[byt_length];exact hn
  rw[e1] at s1
  have g1:=getT_at s1 (most:=12) hn2 (by omega)
  rw[← e1] at g1
  rw[e2] at s2
  have g2:=getT_at s2 (most:=65536) hsm (by omega)
  rw[← e2] at g2
  rw[List.length_append] at s3
  obtain ⟨qs,q1,q2⟩:=partsG_at hM cols _ (acc++[⟨x.name,(chunkB x.kind (columnB M x.name)).1,form,columnB M x.name⟩]) s3 (fun y hy=>hx y (by simp[hy]))
  refine ⟨⟨x.name,(chunkB x.kind (columnB M x.name)).1,form,columnB M x.name⟩ :: qs,?_,?_⟩
  ·rw[List.length_cons,partsG_succ,g1]
   dsimp only
   rw[if_neg (by simp),g2]
   dsimp only
   rw[if_neg (by simp),o2]
   dsimp only
   rw[str_byt]
   have e3:p+(textB x.name).length+(textB (str (chunkB x.kind (columnB M x.name)).1)).length=p+((textB x.name).length+(textB (str (chunkB x.kind (columnB M x.name)).1)).length):=by omega
   rw[e3,q1,List.append_assoc,List.singleton_append,partsB]
   unfold partB
   rw[List.length_append,List.length_append,Nat.add_assoc]
  ·rw[List.map_cons,List.map_cons,q2,o3]
theorem flat_built {M:List RowM} {l:List ColM} (h:ColsOf M l) (hr:∀ r ∈ M,r.ok=true) (hi:∀ r ∈ M,∀ c ∈ r.cs,I64 c.n) {qs:List PartQ} (hq:qs.map (fun q=>(q.name,kindOf q.form,q.cs))=l.map (fun x=>(x.name,x.kind,columnB M x.name))) :
  builtM (M.map (·.t)) (M.map (·.s)) qs=M:=by
 apply List.ext_getElem
 ·rw[builtM_len,List.length_map]
 ·intro i h1 h2
  have hm:M[i] ∈ M:=List.getElem_mem h2
  obtain ⟨c1,c2⟩:=row_cells (hr _ hm)
  have e1:(builtM (M.map (·.t)) (M.map (·.s)) qs)[i]=⟨(M.map (·.t)).getD i 0,(M.map (·.s)).getD i 0,cellsB i qs⟩:=by simp[builtM]
  have e2:cellsB i qs=M[i].cs:=by
   have e3:cellsB i qs=((qs.map (fun q=>(q.name,kindOf q.form,q.cs))).map fun y=>cellQ (y.2.2.getD i noCell) y.1).flatten:=by
    unfold cellsB
    rw[List.map_map]
    rfl
   rw[e3,hq,List.map_map]
   have e4:∀ x ∈ l,((fun y:ByteArray × Int × List CellM=>cellQ (y.2.2.getD i noCell) y.1) ∘ fun x:ColM=>(x.name,x.kind,columnB M x.name)) x=cellQ (bareC (cellOf M[i].cs x.name)) x.name:=fun x _=>by
    show cellQ ((columnB M x.name).getD i noCell) x.name=_
    unfold columnB
    rw[List.getD,List.getElem?_map,List.getElem?_eq_getElem h2]
    rfl
   rw[List.map_congr_left e4]
   exact cells_flat l M[i].cs h.rise c2 (fun c hc=>by
    rcases (fine_norm (c1 c hc) (hi _ hm c hc)).2 with h5 | h5<;>omega) (fun c hc=>⟨_,h.has _ hm c hc,rfl⟩)
  rw[e1,e2]
  have e5:(M.map (·.t)).getD i 0=M[i].t:=by rw[List.getD,List.getElem?_map,List.getElem?_eq_getElem h2];rfl
  have e6:(M.map (·.s)).getD i 0=M[i].s:=by rw[List.getD,List.getElem?_map,List.getElem?_eq_getElem h2];rfl
  rw[e5,e6]
theorem checkM_ok {M:List RowM} (h:checkM M=0):(∀ r ∈ M,r.ok=true)∧(growsR [] M).2.1=0∧risesM M=true:=by
 unfold checkM at h
 split at h
 ·cases h
 ·rename_i h0
  split at h
  ·rename_i h2
   split at h
   ·rename_i h1
    refine ⟨fun r hr=>?_,h1,h2⟩
    have h3:M.any (fun r=>!r.ok)=false:=by simpa using h0
    rw[List.any_eq_false] at h3
    simpa using h3 r hr
   ·cases h
  ·cases h
theorem readG_write {M:List RowM} (h:(writeM M).2=0) (hi:∀ r ∈ M,∀ c ∈ r.cs,I64 c.n) :
  ∃ qs,readG (writeM M).1=some (M.map (·.t),M.map (·.s),qs)∧builtM (M.map (·.t)) (M.map (·.s)) qs=M∧qs.map (fun q=>(q.name,kindOf q.form,q.cs))=(growsR [] M).1.map (fun x=>(x.name,x.kind,columnB M x.name)):=by
 obtain ⟨h0,h16,hck,hw⟩:=writeM_ok h
 obtain ⟨hok,hg,_⟩:=checkM_ok hck
 have hcols:=growsR_cols hg
 have h12:=growsR_len M
 have hnm:=growsR_names M
 have hrow:∀ r ∈ M,I64 r.t∧I64 r.s:=fun r hr=>by
  have:=rowB_head (show rowB r.t r.s r.cs=true from hok r hr)
  unfold I64
  omega
 have ht:∀ n ∈ M.map (·.t),I64 n:=fun n hn=>by
  obtain ⟨r,hr,rfl⟩:=List.mem_map.1 hn
  exact (hrow r hr).1
 have hs:∀ n ∈ M.map (·.s),I64 n:=fun n hn=>by
  obtain ⟨r,hr,rfl⟩:=List.mem_map.1 hn
  exact (hrow r hr).2
 have hB:(writeM M).1=bytesM M:=by rw[hw]
 obtain ⟨B,hBd⟩:∃ B,B=(writeM M).1:=⟨_,rfl⟩
 rw[← hBd] at hB ⊢
 have hS:=Stand.all B
 have hS0:Stand B 0 (deltaB (M.map (·.t))++deltaB (M.map (·.s))++putV (growsR [] M).1.length++partsB M (growsR [] M).1):=by
  have:Stand B 0 (bytesM M):=by rw[← hB];exact hS
  exact this
 clear hS
 have s1:=hS0.left.left.left
 have s2:=hS0.left.left.right
 have s3:=hS0.left.right
 have s4:=hS0.right
 have d1:=deltaR_at s1 (most:=16) (by rw[List.length_map];exact h16) ht (by rw[List.length_map];omega)
 have d2:=deltaR_at s2 (most:=16) (by rw[List.length_map];exact h16) hs (by rw[List.length_map];omega)
 have g3:=getA_at s3 (by omega)
 have e3:=endA_at s3 (by omega)
 obtain ⟨qs,q1,q2⟩:=partsG_at (l:=B) h16 (growsR [] M).1 _ [] s4 (fun x hx=>⟨hnm x hx,hcols.norm hok hi hx⟩)
 have hlen:(0+(deltaB (M.map (·.t))++deltaB (M.map (·.s))++putV (growsR [] M).1.length).length+(partsB M (growsR [] M).1).length)=B.length:=by
  rw[hB]
  unfold bytesM
  rw[List.length_append (bs:=partsB M (growsR [] M).1)]
  omega
 have hb:=flat_built hcols hok hi q2
 refine ⟨qs,?_,hb,q2⟩
 have e2:0+(deltaB (M.map (·.t))).length+(deltaB (M.map (·.s))).length=0+(deltaB (M.map (·.t))++deltaB (M.map (·.s))).length:=by rw[List.length_append];omega
 rw[e2] at d2
 have d1':deltaR B 0 16=_:=d1
 have hp:partsR B ((0+(deltaB (M.map (·.t))++deltaB (M.map (·.s))).length:Nat):Int)=some (qs,(B.length:Int)):=by
  unfold partsR
  rw[e3,g3]
  dsimp only
  rw[small_le (by omega),if_neg (by simp;omega)]
  have e4:0+(deltaB (M.map (·.t))++deltaB (M.map (·.s))).length+(putV (growsR [] M).1.length).length=0+(deltaB (M.map (·.t))++deltaB (M.map (·.s))++putV (growsR [] M).1.length).length:=by rw[List.length_append (bs:=putV _)];omega
  rw[e4,q1,hlen,List.nil_append]
 unfold readG
 rw[d1']
 dsimp only
 rw[if_neg (by simp),d2]
 dsimp only
 rw[if_neg (by simp),hp]
 dsimp only
 rw[if_neg (by simp),if_neg,hb,if_neg]
 ·rw[hBd]
  simp[h]
 ·intro hx
  obtain ⟨q,hq,hq2⟩:=List.any_eq_true.1 hx
  have hm:(q.name,kindOf q.form,q.cs) ∈ (growsR [] M).1.map (fun x=>(x.name,x.kind,columnB M x.name)):=by rw[← q2];exact List.mem_map_of_mem hq
  obtain ⟨x,_,hx2⟩:=List.mem_map.1 hm
  have:q.cs=columnB M x.name:=(congrArg (fun y=>y.2.2) hx2).symm
  rw[this,columnB_len,List.length_map] at hq2
  simp at hq2
end Go.Proofs.YtpiobnfakmmpdaaGreat.Lib0
namespace Go.Proofs.YtpiobnfakmmpdaaGreat.Lib0
open Go.RowKit Go.Proofs.YtpiobnfakmmpdaaGreatW.PrintWords Go.ChangeMaps
end Go.Proofs.YtpiobnfakmmpdaaGreat.Lib0
namespace Go.Proofs.YtpiobnfakmmpdaaGreat.Lib0
open Go.RowKit Go.Proofs.YtpiobnfakmmpdaaGreatW.PrintWords Go.ChangeMaps
theorem partB_small {M:List RowM} (hM:M.length≤16) (x:ColM) (h:x.name.size≤12∧(x.kind=1∨x.kind=2)∧∀ c ∈ columnB M x.name,NormC x.kind c):(partB M x).length≤70000:=by
 have h1:=chunk_small h.2.1 (by rw[columnB_len];exact hM) h.2.2
 unfold partB textB
 have h2:=putV_len10 (n:=x.name.size) (by omega)
 have h3:=putV_len10 (n:=(str (chunkB x.kind (columnB M x.name)).1).size) (by rw[str_size];omega)
 have h4:(byt x.name).length=x.name.size:=byt_length _
 rw[List.length_append,List.length_append,List.length_append,byt_str]
 omega
theorem partsB_small {M:List RowM} (hM:M.length≤16):∀ (l:List ColM),(∀ x ∈ l,x.name.size≤12∧(x.kind=1∨x.kind=2)∧∀ c ∈ columnB M x.name,NormC x.kind c)→(partsB M l).length≤70000*l.length
 | [],_=>Nat.zero_le _
 | c :: l,h=>by
  have h1:=partsB_small hM l (fun x hx=>h x (List.mem_cons_of_mem _ hx))
  have h2:=partB_small hM c (h c (by simp))
  rw[partsB,List.length_append,List.length_cons]
  omega
theorem write_small {M:List RowM} (h:(writeM M).2=0) (hi:∀ r ∈ M,∀ c ∈ r.cs,I64 c.n):(writeM M).1.length≤1000000:=by
 obtain ⟨h0,h16,hck,hw⟩:=writeM_ok h
 obtain ⟨hok,hg,_⟩:=checkM_ok hck
 have hcols:=growsR_cols hg
 have h3:=growsR_len M
 have hnm:=growsR_names M
 have hrow:∀ r ∈ M,I64 r.t∧I64 r.s:=fun r hr=>by
  have:=rowB_head (show rowB r.t r.s r.cs=true from hok r hr)
  unfold I64
  omega
 have h1:=deltaB_len (M.map (·.t)) (fun n hn=>by obtain ⟨r,hr,rfl⟩:=List.mem_map.1 hn;exact (hrow r hr).1) (by rw[List.length_map];omega)
 have h2:=deltaB_len (M.map (·.s)) (fun n hn=>by obtain ⟨r,hr,rfl⟩:=List.mem_map.1 hn;exact (hrow r hr).2) (by rw[List.length_map];omega)
 have h4:=partsB_small h16 (growsR [] M).1 (fun x hx=>⟨hnm x hx,hcols.norm hok hi hx⟩)
 have h5:=putV_len10 (n:=(growsR [] M).1.length) (by omega)
 rw[hw]
 show (bytesM M).length≤_
 unfold bytesM
 rw[List.length_map] at h1 h2
 simp only[List.length_append]
 omega
def TrueEnd (w:World) (e:Ending) (w':World):Prop:=e = .returned (.bool true)∧Below w.heap.size w w'
end Go.Proofs.YtpiobnfakmmpdaaGreat.Lib0
namespace Go.Proofs.YtpiobnfakmmpdaaGreat.Lib0
open Go.RowKit Go.Proofs.YtpiobnfakmmpdaaGreatW.PrintWords Go.ChangeMaps
theorem toList_byt (s:ByteArray):s.toList=byt s:=by rw[ByteArray.toList_eq];rfl
theorem byt_inj {a b:ByteArray} (h:byt a=byt b):a=b:=by rw[← str_byt a,h,str_byt]
def bareB (p:PredM):Bool:=
 (decide (1≤p.kind) && decide (p.kind≤10)) && ((decide (4≤p.kind) && decide (p.kind≤9)) || decide (p.col.size=0)) && ((decide (p.kind=4) || decide (p.kind=5) || decide (p.kind=10)) || decide (p.n=0)) && (decide (p.kind=10) || decide (p.m=0)) && ((decide (p.kind=6) || decide (p.kind=8)) || decide (p.s.size=0)) && (decide (p.kind=7) || decide (p.set.length=0)) && (decide (p.kind≤3) || decide (p.kids.length=0))
def partP (p:PredM):Bool:=
 bareB p && (if p.kind=1∨p.kind=2∨p.kind=10 then true else if p.kind=3 then decide (p.kids.length=1) else nameB p.col && decide (p.s.size≤40) && decide (p.set.length≤8) && risesS p.set && p.set.all fun s=>decide (s.size≤40))
def partsP:Nat→PredM→Bool
 | 0,_=>false
 | d+1,p=>partP p && p.kids.all fun k=>partsP d k
def rightP (p:PredM):Bool:=decide (p.size≤40) && partsP 6 p
inductive Fine:PredM→Prop where
 | mk (p:PredM) (h:partP p=true) (hk:∀ k ∈ p.kids,Fine k):Fine p
theorem Fine.part {p:PredM} (h:Fine p):partP p=true:=by cases h;assumption
theorem Fine.kid {p k:PredM} (h:Fine p) (hk:k ∈ p.kids):Fine k:=by cases h;rename_i h2 h3;exact h3 k hk
end Go.Proofs.YtpiobnfakmmpdaaGreat.Lib0

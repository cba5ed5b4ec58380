import Derived.Test.YtplnodcbbcdcgaaGreatP38
set_option linter.unusedVariables false
set_option linter.unusedSimpArgs false
namespace Go.Proofs.YtplnodcbbcdcgaaGreat.Lib0
open Go.RowKit Go.Proofs.YtplnodcbbcdcgaaGreatW.PrintWords Go.ChangeMaps
theorem cellsRB_rise:∀ (l:List CellM) (p:Option ByteArray),cellsRB p l=true→l.Pairwise (fun a b=>lessS a.col b.col=true)∧∀ q,p=some q→∀ c ∈ l,lessS q c.col=true
 | [],p,h=>⟨List.Pairwise.nil,fun q _ c hc=>by cases hc⟩
 | c :: t,p,h=>by
  rw[cellsRB.eq_def] at h
  dsimp only at h
  rw[Bool.and_eq_true,Bool.and_eq_true] at h
  obtain ⟨⟨h1,h2⟩,h3⟩:=h
  obtain ⟨i1,i2⟩:=cellsRB_rise t _ h3
  refine ⟨List.pairwise_cons.2 ⟨i2 _ rfl,i1⟩,fun q hq d hd=>?_⟩
  subst hq
  dsimp only at h2
  rcases List.mem_cons.1 hd with rfl | hd
  ·exact h2
  ·exact lessS_trans h2 (i2 _ rfl d hd)
theorem cellOf_none:∀ (l:List CellM) (s:ByteArray),(∀ c ∈ l,c.col≠s)→cellOf l s=noCell
 | [],_,_=>rfl
 | c :: t,s,h=>by
  rw[cellOf,if_neg (h c (by simp))]
  exact cellOf_none t s (fun d hd=>h d (by simp[hd]))
theorem cellOf_mem:∀ (l:List CellM) (s:ByteArray),cellOf l s=noCell∨(cellOf l s ∈ l∧(cellOf l s).col=s)
 | [],_=>.inl rfl
 | c :: t,s=>by
  rw[cellOf]
  split
  ·rename_i h;exact .inr ⟨by simp,h⟩
  ·rcases cellOf_mem t s with h | ⟨h1,h2⟩
   ·exact .inl h
   ·exact .inr ⟨List.mem_cons_of_mem _ h1,h2⟩
theorem cells_flat:∀ (l:List ColM) (cs:List CellM),RiseL l→cs.Pairwise (fun a b=>lessS a.col b.col=true)→(∀ c ∈ cs,c.kind≠0)→(∀ c ∈ cs,∃ x ∈ l,x.name=c.col)→
  (l.map fun x=>cellQ (bareC (cellOf cs x.name)) x.name).flatten=cs
 | [],[],_,_,_,_=>rfl
 | [],c :: cs,_,_,_,h=>by
  obtain ⟨x,hx,_⟩:=h c (by simp)
  cases hx
 | x :: l,[],hl,_,_,_=>by
  rw[List.flatten_eq_nil_iff]
  intro y hy
  obtain ⟨z,_,rfl⟩:=List.mem_map.1 hy
  rfl
 | x :: l,c :: cs,hl,hc,h0,h=>by
  have hl2:=List.pairwise_cons.1 hl
  have hc2:=List.pairwise_cons.1 hc
  rw[List.map_cons,List.flatten_cons]
  by_cases e:c.col=x.name
  ·have h1:cellOf (c :: cs) x.name=c:=by rw[cellOf,if_pos e]
   have h2:∀ y ∈ l,cellQ (bareC (cellOf (c :: cs) y.name)) y.name=cellQ (bareC (cellOf cs y.name)) y.name:=fun y hy=>by
    rw[cellOf,if_neg]
    intro e2
    have:=hl2.1 y hy
    rw[← e,e2,lessS_irrefl] at this
    cases this
   rw[h1,List.map_congr_left h2,cells_flat l cs hl2.2 hc2.2 (fun d hd=>h0 d (by simp[hd])) (fun d hd=>?_)]
   ·unfold cellQ bareC
    dsimp only
    rw[if_neg (h0 c (by simp)),← e]
    rfl
   ·obtain ⟨y,hy,hyn⟩:=h d (by simp[hd])
    rcases List.mem_cons.1 hy with rfl | hy
    ·have:=hc2.1 d hd
     rw[e,hyn,lessS_irrefl] at this
     cases this
    ·exact ⟨y,hy,hyn⟩
  ·obtain ⟨y,hy,hyn⟩:=h c (by simp)
   have hy2:y ∈ l:=by
    rcases List.mem_cons.1 hy with rfl | hy
    ·exact absurd hyn.symm e
    ·exact hy
   have hxc:lessS x.name c.col=true:=by rw[← hyn];exact hl2.1 y hy2
   have h1:cellOf (c :: cs) x.name=noCell:=cellOf_none _ _ (fun d hd e2=>by
    rcases List.mem_cons.1 hd with rfl | hd
    ·exact e e2
    ·have:=lessS_trans hxc (hc2.1 d hd)
     rw[e2,lessS_irrefl] at this
     cases this)
   rw[h1,cells_flat l (c :: cs) hl2.2 hc h0 (fun d hd=>?_)]
   ·rfl
   ·obtain ⟨z,hz,hzn⟩:=h d hd
    rcases List.mem_cons.1 hz with rfl | hz
    ·exfalso
     rcases List.mem_cons.1 hd with rfl | hd
     ·exact e hzn.symm
     ·have:=lessS_trans hxc (hc2.1 d hd)
      rw[hzn,lessS_irrefl] at this
      cases this
    ·exact ⟨z,hz,hzn⟩
theorem size0 {s:ByteArray} (h:s.size=0):s=ByteArray.empty:=by
 obtain ⟨d⟩:=s
 have:d=#[]:=Array.eq_empty_of_size_eq_zero h
 subst this
 rfl
theorem fine_norm {c:CellM} (h:fineB c=true) (hi:I64 c.n):NormC c.kind (bareC c)∧(c.kind=1∨c.kind=2):=by
 unfold fineB at h
 split at h
 ·rename_i h1
  simp only[Bool.and_eq_true,decide_eq_true_eq] at h
  exact ⟨.inr ⟨rfl,rfl,.inl ⟨h1,size0 h.2,hi⟩⟩,.inl h1⟩
 ·split at h
  ·rename_i h1 h2
   simp only[Bool.and_eq_true,decide_eq_true_eq] at h
   exact ⟨.inr ⟨rfl,rfl,.inr ⟨h2,h.2.1,h.2.2⟩⟩,.inr h2⟩
  ·cases h
theorem row_cells {r:RowM} (h:r.ok=true):(∀ c ∈ r.cs,fineB c=true)∧r.cs.Pairwise (fun a b=>lessS a.col b.col=true):=by
 unfold RowM.ok rowB at h
 rw[Bool.and_eq_true] at h
 exact ⟨cellsRB_fine _ _ h.2,(cellsRB_rise _ _ h.2).1⟩
structure ColsOf (M:List RowM) (l:List ColM):Prop where
 rise:RiseL l
 has:∀ r ∈ M,∀ c ∈ r.cs,(⟨c.col,c.kind⟩:ColM) ∈ l
 from_:∀ x ∈ l,∃ r ∈ M,∃ c ∈ r.cs,x=⟨c.col,c.kind⟩
theorem growsR_cols {M:List RowM} (h:(growsR [] M).2.1=0):ColsOf M (growsR [] M).1:=by
 have he:growsR [] M=growsF [] 0 M:=by unfold growsR;rw[if_pos (by rfl)]
 rw[he] at h ⊢
 obtain ⟨h1,h2,h3,h4⟩:=growsF_spec M [] 0 h List.Pairwise.nil
 refine ⟨h1,h3,fun x hx=>?_⟩
 rcases h4 x hx with h5 | h5
 ·cases h5
 ·exact h5
theorem ColsOf.norm {M:List RowM} {l:List ColM} (h:ColsOf M l) (hr:∀ r ∈ M,r.ok=true) (hi:∀ r ∈ M,∀ c ∈ r.cs,I64 c.n) {x:ColM} (hx:x ∈ l):(x.kind=1∨x.kind=2)∧∀ c ∈ columnB M x.name,NormC x.kind c:=by
 constructor
 ·obtain ⟨r,h1,c,h2,rfl⟩:=h.from_ x hx
  exact (fine_norm ((row_cells (hr r h1)).1 c h2) (hi r h1 c h2)).2
 ·intro c hc
  unfold columnB at hc
  obtain ⟨r,h1,rfl⟩:=List.mem_map.1 hc
  rcases cellOf_mem r.cs x.name with h2 | ⟨h2,h3⟩
  ·rw[h2];exact .inl rfl
  ·have h4:=h.rise.one (h.has r h1 _ h2) hx h3
   have h5:(cellOf r.cs x.name).kind=x.kind:=congrArg ColM.kind h4
   have:=(fine_norm ((row_cells (hr r h1)).1 _ h2) (hi r h1 _ h2)).1
   rw[h5] at this
   exact this
theorem chunk_small {kind:Int} {x:List CellM} (hk:kind=1∨kind=2) (hl:x.length≤16) (hx:∀ c ∈ x,NormC kind c):(chunkB kind x).1.length≤65536:=by
 unfold chunkB
 split
 ·simp
 ·split
  ·simp
  ·split
   ·simp
   ·have h1:=putV_len10 (n:=x.length) (by omega)
    have h2:=runsB_len (nullsL x) 1 (by rw[nulls_len];omega)
    rw[nulls_len] at h2
    have h0:(bodyF kind x).1≤3:=by
     unfold bodyF
     split
     ·split<;>simp
     ·simp
    have h3:=putV_len10 (n:=(bodyF kind x).1) (by omega)
    have h4:(bodyF kind x).2.length≤10000:=by
     unfold bodyF
     split
     ·rename_i hk2
      subst hk2
      have ht:=textsOf_len x
      have hs:=texts_norm x hx
      split
      ·unfold codedB
       have h5:=dictB_len (dictL (textsOf x))
       have h7:(natsL (placesL (dictL (textsOf x)) (textsOf x))).length=(textsOf x).length:=by simp[natsL,placesL]
       have h6:=runsB_len (natsL (placesL (dictL (textsOf x)) (textsOf x))) (widthL (natsL (placesL (dictL (textsOf x)) (textsOf x)))) (by omega)
       rw[List.length_append]
       omega
      ·have:=textsB_len (textsOf x) hs
       show (textsB (textsOf x)).length≤_
       omega
     ·rename_i hk2
      have h1k:kind=1:=hk.resolve_right hk2
      subst h1k
      have:=numsB_len x (fun c hc=>by
       rcases hx c hc with rfl | ⟨_,_,⟨_,_,h⟩ | ⟨h,_⟩⟩
       ·exact ⟨by decide,by decide⟩
       ·exact h
       ·cases h)
      show (numsB x).length≤_
      omega
    rw[List.length_append,List.length_append,List.length_append]
    omega
theorem partsG_at {l:List UInt8} {M:List RowM} (hM:M.length≤16):∀ (cols:List ColM) (p:Nat) (acc:List PartQ),Stand l p (partsB M cols)→(∀ x ∈ cols,x.name.size≤12∧(x.kind=1∨x.kind=2)∧∀ c ∈ columnB M x.name,NormC x.kind c)→
  ∃ qs:List PartQ,partsG l cols.length p acc=some (acc++qs,((p+(partsB M cols).length:Nat):Int))∧qs.map (fun q=>(q.name,kindOf q.form,q.cs))=cols.map (fun x=>(x.name,x.kind,columnB M x.name))
 | [],p,acc,h,hx=>⟨[],by rw[List.length_nil,partsG_zero,List.append_nil];rfl,rfl⟩
 | x :: cols,p,acc,h,hx=>by
  obtain ⟨hn,hk,hc⟩:=hx x (by simp)
  rw[partsB] at h
  unfold partB at h
  have hcl:(columnB M x.name).length≤16:=by rw[columnB_len];exact hM
  obtain ⟨o1,form,o2,o3⟩:=openR_at hk (by omega) hc
  have hsm:=chunk_small hk hcl hc
  have e1:textB x.name=putV (byt x.name).length++byt x.name:=by rw[byt_length];rfl
  have e2:textB (str (chunkB x.kind (columnB M x.name)).1)=putV (chunkB x.kind (columnB M x.name)).1.length++(chunkB x.kind (columnB M x.name)).1:=by
   unfold textB
   rw[str_size,byt_str]
  have s1:=h.left.left
  have s2:=h.left.right
  have s3:=h.right
  have hn2:(byt x.name).length≤12:=by rw[byt_length];exact hn
  rw[e1] at s1
  have g1:=getT_at s1 (most:=12) hn2 (by omega)
  rw[← e1] at g1
  rw[e2] at s2
  have g2:=getT_at s2 (most:=65536) hsm (by omega)
  rw[← e2] at g2
  rw[List.length_append] at s3
  obtain ⟨qs,q1,q2⟩:=partsG_at hM cols _ (acc++[⟨x.name,(chunkB x.kind (columnB M x.name)).1,form,columnB M x.name⟩]) s3 (fun y hy=>hx y (by simp[hy]))
  refine ⟨⟨x.name,(chunkB x.kind (columnB M x.name)).1,form,columnB M x.name⟩ :: qs,?_,?_⟩
  ·rw[List.length_cons,partsG_succ,g1]
   dsimp only
   rw[if_neg (by simp),g2]
   dsimp only
   rw[if_neg (by simp),o2]
   dsimp only
   rw[str_byt]
   have e3:p+(textB x.name).length+(textB (str (chunkB x.kind (columnB M x.name)).1)).length=p+((textB x.name).length+(textB (str (chunkB x.kind (columnB M x.name)).1)).length):=by omega
   rw[e3,q1,List.append_assoc,List.singleton_append,partsB]
   unfold partB
   rw[List.length_append,List.length_append,Nat.add_assoc]
  ·rw[List.map_cons,List.map_cons,q2,o3]
theorem flat_built {M:List RowM} {l:List ColM} (h:ColsOf M l) (hr:∀ r ∈ M,r.ok=true) (hi:∀ r ∈ M,∀ c ∈ r.cs,I64 c.n) {qs:List PartQ} (hq:qs.map (fun q=>(q.name,kindOf q.form,q.cs))=l.map (fun x=>(x.name,x.kind,columnB M x.name))) :
  builtM (M.map (·.t)) (M.map (·.s)) qs=M:=by
 apply List.ext_getElem
 ·rw[builtM_len,List.length_map]
 ·intro i h1 h2
  have hm:M[i] ∈ M:=List.getElem_mem h2
  obtain ⟨c1,c2⟩:=row_cells (hr _ hm)
  have e1:(builtM (M.map (·.t)) (M.map (·.s)) qs)[i]=⟨(M.map (·.t)).getD i 0,(M.map (·.s)).getD i 0,cellsB i qs⟩:=by simp[builtM]
  have e2:cellsB i qs=M[i].cs:=by
   have e3:cellsB i qs=((qs.map (fun q=>(q.name,kindOf q.form,q.cs))).map fun y=>cellQ (y.2.2.getD i noCell) y.1).flatten:=by
    unfold cellsB
    rw[List.map_map]
    rfl
   rw[e3,hq,List.map_map]
   have e4:∀ x ∈ l,((fun y:ByteArray × Int × List CellM=>cellQ (y.2.2.getD i noCell) y.1) ∘ fun x:ColM=>(x.name,x.kind,columnB M x.name)) x=cellQ (bareC (cellOf M[i].cs x.name)) x.name:=fun x _=>by
    show cellQ ((columnB M x.name).getD i noCell) x.name=_
    unfold columnB
    rw[List.getD,List.getElem?_map,List.getElem?_eq_getElem h2]
    rfl
   rw[List.map_congr_left e4]
   exact cells_flat l M[i].cs h.rise c2 (fun c hc=>by
    rcases (fine_norm (c1 c hc) (hi _ hm c hc)).2 with h5 | h5<;>omega) (fun c hc=>⟨_,h.has _ hm c hc,rfl⟩)
  rw[e1,e2]
  have e5:(M.map (·.t)).getD i 0=M[i].t:=by rw[List.getD,List.getElem?_map,List.getElem?_eq_getElem h2];rfl
  have e6:(M.map (·.s)).getD i 0=M[i].s:=by rw[List.getD,List.getElem?_map,List.getElem?_eq_getElem h2];rfl
  rw[e5,e6]
theorem checkM_ok {M:List RowM} (h:checkM M=0):(∀ r ∈ M,r.ok=true)∧(growsR [] M).2.1=0∧risesM M=true:=by
 unfold checkM at h
 split at h
 ·cases h
 ·rename_i h0
  split at h
  ·rename_i h2
   split at h
   ·rename_i h1
    refine ⟨fun r hr=>?_,h1,h2⟩
    have h3:M.any (fun r=>!r.ok)=false:=by simpa using h0
    rw[List.any_eq_false] at h3
    simpa using h3 r hr
   ·cases h
  ·cases h
theorem readG_write {M:List RowM} (h:(writeM M).2=0) (hi:∀ r ∈ M,∀ c ∈ r.cs,I64 c.n) :
  ∃ qs,readG (writeM M).1=some (M.map (·.t),M.map (·.s),qs)∧builtM (M.map (·.t)) (M.map (·.s)) qs=M∧qs.map (fun q=>(q.name,kindOf q.form,q.cs))=(growsR [] M).1.map (fun x=>(x.name,x.kind,columnB M x.name)):=by
 obtain ⟨h0,h16,hck,hw⟩:=writeM_ok h
 obtain ⟨hok,hg,_⟩:=checkM_ok hck
 have hcols:=growsR_cols hg
 have h12:=growsR_len M
 have hnm:=growsR_names M
 have hrow:∀ r ∈ M,I64 r.t∧I64 r.s:=fun r hr=>by
  have:=rowB_head (show rowB r.t r.s r.cs=true from hok r hr)
  unfold I64
  omega
 have ht:∀ n ∈ M.map (·.t),I64 n:=fun n hn=>by
  obtain ⟨r,hr,rfl⟩:=List.mem_map.1 hn
  exact (hrow r hr).1
 have hs:∀ n ∈ M.map (·.s),I64 n:=fun n hn=>by
  obtain ⟨r,hr,rfl⟩:=List.mem_map.1 hn
  exact (hrow r hr).2
 have hB:(writeM M).1=bytesM M:=by rw[hw]
 obtain ⟨B,hBd⟩:∃ B,B=(writeM M).1:=⟨_,rfl⟩
 rw[← hBd] at hB ⊢
 have hS:=Stand.all B
 have hS0:Stand B 0 (deltaB (M.map (·.t))++deltaB (M.map (·.s))++putV (growsR [] M).1.length++partsB M (growsR [] M).1):=by
  have:Stand B 0 (bytesM M):=by rw[← hB];exact hS
  exact this
 clear hS
 have s1:=hS0.left.left.left
 have s2:=hS0.left.left.right
 have s3:=hS0.left.right
 have s4:=hS0.right
 have d1:=deltaR_at s1 (most:=16) (by rw[List.length_map];exact h16) ht (by rw[List.length_map];omega)
 have d2:=deltaR_at s2 (most:=16) (by rw[List.length_map];exact h16) hs (by rw[List.length_map];omega)
 have g3:=getA_at s3 (by omega)
 have e3:=endA_at s3 (by omega)
 obtain ⟨qs,q1,q2⟩:=partsG_at (l:=B) h16 (growsR [] M).1 _ [] s4 (fun x hx=>⟨hnm x hx,hcols.norm hok hi hx⟩)
 have hlen:(0+(deltaB (M.map (·.t))++deltaB (M.map (·.s))++putV (growsR [] M).1.length).length+(partsB M (growsR [] M).1).length)=B.length:=by
  rw[hB]
  unfold bytesM
  rw[List.length_append (bs:=partsB M (growsR [] M).1)]
  omega
 have hb:=flat_built hcols hok hi q2
 refine ⟨qs,?_,hb,q2⟩
 have e2:0+(deltaB (M.map (·.t))).length+(deltaB (M.map (·.s))).length=0+(deltaB (M.map (·.t))++deltaB (M.map (·.s))).length:=by rw[List.length_append];omega
 rw[e2] at d2
 have d1':deltaR B 0 16=_:=d1
 have hp:partsR B ((0+(deltaB (M.map (·.t))++deltaB (M.map (·.s))).length:Nat):Int)=some (qs,(B.length:Int)):=by
  unfold partsR
  rw[e3,g3]
  dsimp only
  rw[small_le (by omega),if_neg (by simp;omega)]
  have e4:0+(deltaB (M.map (·.t))++deltaB (M.map (·.s))).length+(putV (growsR [] M).1.length).length=0+(deltaB (M.map (·.t))++deltaB (M.map (·.s))++putV (growsR [] M).1.length).length:=by rw[List.length_append (bs:=putV _)];omega
  rw[e4,q1,hlen,List.nil_append]
 unfold readG
 rw[d1']
 dsimp only
 rw[if_neg (by simp),d2]
 dsimp only
 rw[if_neg (by simp),hp]
 dsimp only
 rw[if_neg (by simp),if_neg,hb,if_neg]
 ·rw[hBd]
  simp[h]
 ·intro hx
  obtain ⟨q,hq,hq2⟩:=List.any_eq_true.1 hx
  have hm:(q.name,kindOf q.form,q.cs) ∈ (growsR [] M).1.map (fun x=>(x.name,x.kind,columnB M x.name)):=by rw[← q2];exact List.mem_map_of_mem hq
  obtain ⟨x,_,hx2⟩:=List.mem_map.1 hm
  have:q.cs=columnB M x.name:=(congrArg (fun y=>y.2.2) hx2).symm
  rw[this,columnB_len,List.length_map] at hq2
  simp at hq2
end Go.Proofs.YtplnodcbbcdcgaaGreat.Lib0
namespace Go.Proofs.YtplnodcbbcdcgaaGreat.Lib0
open Go.RowKit Go.Proofs.YtplnodcbbcdcgaaGreatW.PrintWords Go.ChangeMaps
end Go.Proofs.YtplnodcbbcdcgaaGreat.Lib0
namespace Go.Proofs.YtplnodcbbcdcgaaGreat.Lib0
open Go.RowKit Go.Proofs.YtplnodcbbcdcgaaGreatW.PrintWords Go.ChangeMaps
theorem partB_small {M:List RowM} (hM:M.length≤16) (x:ColM) (h:x.name.size≤12∧(x.kind=1∨x.kind=2)∧∀ c ∈ columnB M x.name,NormC x.kind c):(partB M x).length≤70000:=by
 have h1:=chunk_small h.2.1 (by rw[columnB_len];exact hM) h.2.2
 unfold partB textB
 have h2:=putV_len10 (n:=x.name.size) (by omega)
 have h3:=putV_len10 (n:=(str (chunkB x.kind (columnB M x.name)).1).size) (by rw[str_size];omega)
 have h4:(byt x.name).length=x.name.size:=byt_length _
 rw[List.length_append,List.length_append,List.length_append,byt_str]
 omega
theorem partsB_small {M:List RowM} (hM:M.length≤16):∀ (l:List ColM),(∀ x ∈ l,x.name.size≤12∧(x.kind=1∨x.kind=2)∧∀ c ∈ columnB M x.name,NormC x.kind c)→(partsB M l).length≤70000*l.length
 | [],_=>Nat.zero_le _
 | c :: l,h=>by
  have h1:=partsB_small hM l (fun x hx=>h x (List.mem_cons_of_mem _ hx))
  have h2:=partB_small hM c (h c (by simp))
  rw[partsB,List.length_append,List.length_cons]
  omega
theorem write_small {M:List RowM} (h:(writeM M).2=0) (hi:∀ r ∈ M,∀ c ∈ r.cs,I64 c.n):(writeM M).1.length≤1000000:=by
 obtain ⟨h0,h16,hck,hw⟩:=writeM_ok h
 obtain ⟨hok,hg,_⟩:=checkM_ok hck
 have hcols:=growsR_cols hg
 have h3:=growsR_len M
 have hnm:=growsR_names M
 have hrow:∀ r ∈ M,I64 r.t∧I64 r.s:=fun r hr=>by
  have:=rowB_head (show rowB r.t r.s r.cs=true from hok r hr)
  unfold I64
  omega
 have h1:=deltaB_len (M.map (·.t)) (fun n hn=>by obtain ⟨r,hr,rfl⟩:=List.mem_map.1 hn;exact (hrow r hr).1) (by rw[List.length_map];omega)
 have h2:=deltaB_len (M.map (·.s)) (fun n hn=>by obtain ⟨r,hr,rfl⟩:=List.mem_map.1 hn;exact (hrow r hr).2) (by rw[List.length_map];omega)
 have h4:=partsB_small h16 (growsR [] M).1 (fun x hx=>⟨hnm x hx,hcols.norm hok hi hx⟩)
 have h5:=putV_len10 (n:=(growsR [] M).1.length) (by omega)
 rw[hw]
 show (bytesM M).length≤_
 unfold bytesM
 rw[List.length_map] at h1 h2
 simp only[List.length_append]
 omega
theorem eqMs_refl:∀ l:List RowM,eqMs l l=true
 | []=>rfl
 | c :: l=>by rw[eqMs,eqMs_refl l,eqM_self];rfl
def TrueEnd (w:World) (e:Ending) (w':World):Prop:=e = .returned (.bool true)∧Below w.heap.size w w'
end Go.Proofs.YtplnodcbbcdcgaaGreat.Lib0
namespace Go.Proofs.YtplnodcbbcdcgaaGreat.Lib0
open Go.RowKit Go.Proofs.YtplnodcbbcdcgaaGreatW.PrintWords Go.ChangeMaps
theorem RiseL.sub_len:∀ {l big:List ColM},RiseL l→RiseL big→(∀ x ∈ l,x ∈ big)→l.length≤big.length
 | [],_,_,_,_=>Nat.zero_le _
 | a :: l,[],_,_,h=>absurd (h a (by simp)) (by simp)
 | a :: l,b :: big,hl,hb,h=>by
  have hl1:RiseL l:=(List.pairwise_cons.1 hl).2
  have hl0:=(List.pairwise_cons.1 hl).1
  have hb1:RiseL big:=(List.pairwise_cons.1 hb).2
  have hb0:=(List.pairwise_cons.1 hb).1
  have hgt:∀ x ∈ l,lessS b.name x.name=true:=fun x hx=>by
   have h1:=hl0 x hx
   rcases List.mem_cons.1 (h a (by simp)) with rfl | h2
   ·exact h1
   ·exact lessS_trans (hb0 a h2) h1
  have:=RiseL.sub_len hl1 hb1 (fun x hx=>by
   rcases List.mem_cons.1 (h x (by simp[hx])) with rfl | h2
   ·have:=hgt x hx
    rw[lessS_irrefl] at this
    cases this
   ·exact h2)
  simp only[List.length_cons]
  omega
theorem growC_sub:∀ (cs:List CellM) (l big:List ColM),RiseL l→RiseL big→(∀ x ∈ l,x ∈ big)→(∀ c ∈ cs,(⟨c.col,c.kind⟩:ColM) ∈ big)→∃ l',growC l cs=some l'∧RiseL l'∧∀ x ∈ l',x ∈ big
 | [],l,big,hl,hb,hs,hc=>⟨l,by rw[growC],hl,hs⟩
 | c :: t,l,big,hl,hb,hs,hc=>by
  have h1:=hc c (by simp)
  by_cases hh:hasL l c.col=true
  ·obtain ⟨x,hx,hn,hg⟩:=hasL_get hh
   have hx2:x=⟨c.col,c.kind⟩:=hb.one (hs x hx) h1 hn
   have hk:kindAt l (atL l c.col)=c.kind:=by unfold kindAt;rw[hg,hx2];rfl
   obtain ⟨l',e,r⟩:=growC_sub t l big hl hb hs (fun d hd=>hc d (by simp[hd]))
   exact ⟨l',by rw[growC,if_pos hh,if_pos hk];exact e,r⟩
  ·have hh2:hasL l c.col=false:=by simpa using hh
   obtain ⟨l',e,r⟩:=growC_sub t (insL l (atL l c.col) ⟨c.col,c.kind⟩) big (insL_rise hl c.kind hh2) hb (fun x hx=>by
    rcases mem_insL.1 hx with rfl | hx
    ·exact h1
    ·exact hs x hx) (fun d hd=>hc d (by simp[hd]))
   exact ⟨l',by rw[growC,if_neg hh];exact e,r⟩
theorem growsF_sub:∀ (M:List RowM) (l big:List ColM) (k:Nat),RiseL l→RiseL big→big.length≤12→(∀ x ∈ l,x ∈ big)→(∀ r ∈ M,r.ok=true)→(∀ r ∈ M,∀ c ∈ r.cs,(⟨c.col,c.kind⟩:ColM) ∈ big)→(growsF l k M).2.1=0
 | [],l,big,k,_,_,_,_,_,_=>rfl
 | r :: t,l,big,k,hl,hb,h12,hs,hr,hc=>by
  obtain ⟨l',e,r1,r2⟩:=growC_sub r.cs l big hl hb hs (hc r (by simp))
  have hg:growR l r.cs=(l',0):=by
   unfold growR
   rw[e]
   exact if_pos (Nat.le_trans (RiseL.sub_len r1 hb r2) h12)
  have h0:rowB r.t r.s r.cs=true:=hr r (by simp)
  rw[growsF,if_pos h0,hg,if_pos rfl]
  exact growsF_sub t l' big (k+1) r1 hb h12 r2 (fun x hx=>hr x (by simp[hx])) (fun x hx=>hc x (by simp[hx]))
theorem risesM_get:∀ (d:List RowM),risesM d=true→∀ i (h:i+1<d.length),lessM d[i] d[i+1]=true
 | [],_,i,h=>absurd h (by simp)
 | [_],_,i,h=>absurd h (by simp)
 | a :: b :: t,h,i,hi=>by
  rw[risesM,Bool.and_eq_true] at h
  rcases i with _ | i
  ·exact h.1
  ·have:=risesM_get (b :: t) h.2 i (by simpa using hi)
   simpa using this
theorem checkM_of {M N:List RowM} (h:checkM M=0) (hm:∀ r ∈ N,r ∈ M) (hr:risesM N=true):checkM N=0:=by
 obtain ⟨h1,h2,_⟩:=checkM_ok h
 have hc:=growsR_cols h2
 have h12:=growsR_len M
 have e1:¬ N.any (fun r=>!r.ok)=true:=by
  intro h3
  obtain ⟨r,h4,h5⟩:=List.any_eq_true.1 h3
  rw[h1 r (hm r h4)] at h5
  cases h5
 unfold checkM
 rw[if_neg e1,if_pos hr,if_pos]
 unfold growsR
 rw[if_pos (by rfl)]
 exact growsF_sub N [] (growsR [] M).1 0 List.Pairwise.nil hc.rise h12 (fun x hx=>by cases hx) (fun r h=>h1 r (hm r h)) (fun r h=>hc.has r (hm r h))
theorem checkM_take {M:List RowM} (h:checkM M=0) (n:Nat):checkM (M.take n)=0:=
 checkM_of h (fun r hr=>List.mem_of_mem_take hr) (risesM_true _ (fun i hi=>by
  have:=risesM_get M (checkM_ok h).2.2 i (by rw[List.length_take] at hi;omega)
  simpa using this))
theorem checkM_drop {M:List RowM} (h:checkM M=0) (n:Nat):checkM (M.drop n)=0:=
 checkM_of h (fun r hr=>List.mem_of_mem_drop hr) (risesM_true _ (fun i hi=>by
  have:=risesM_get M (checkM_ok h).2.2 (n+i) (by rw[List.length_drop] at hi;omega)
  simpa [Nat.add_assoc] using this))
def pcs:Nat→List RowM→List (List RowM)
 | 0,_=>[]
 | k+1,M=>M.take 16 :: pcs k (M.drop 16)
def nP (M:List RowM):Nat:=(M.length+15)/16
theorem pcs_len:∀ (k:Nat) (M:List RowM),(pcs k M).length=k
 | 0,_=>rfl
 | k+1,M=>by rw[pcs,List.length_cons,pcs_len k]
theorem pcs_get:∀ (k:Nat) (M:List RowM) (i:Nat) (h:i<(pcs k M).length),(pcs k M)[i]=(M.drop (16*i)).take 16
 | 0,M,i,h=>absurd h (by simp[pcs])
 | k+1,M,0,h=>by simp[pcs]
 | k+1,M,i+1,h=>by
  simp only[pcs,List.getElem_cons_succ]
  rw[pcs_get k (M.drop 16) i _,List.drop_drop]
  congr 2
  omega
def blks (M:List RowM):List (List UInt8):=putV M.length :: (pcs (nP M) M).map (fun m=>bytesM m)
def segB (M:List RowM):List UInt8:=recs (blks M)
def writeS (M:List RowM):List UInt8 × Int:=if M.length=0∨4096<M.length then ([],4) else if checkM M=0 then (segB M,0) else ([],checkM M)
theorem writeM_of {M:List RowM} (h:checkM M=0) (h0:0<M.length) (h16:M.length≤16):writeM M=(bytesM M,0):=by
 unfold writeM
 rw[if_neg (by omega),if_pos h]
theorem piece_len {M:List RowM} {i:Nat} (hi:16*i<M.length):0<((M.drop (16*i)).take 16).length∧((M.drop (16*i)).take 16).length≤16:=by
 rw[List.length_take,List.length_drop]
 omega
theorem pcs_write {M:List RowM} (h:checkM M=0) (i:Nat) (hi:16*i<M.length):writeM ((M.drop (16*i)).take 16)=(bytesM ((M.drop (16*i)).take 16),0):=
 writeM_of (checkM_take (checkM_drop h _) _) (piece_len hi).1 (piece_len hi).2
def rowsQ:List (List UInt8)→Option (List RowM)
 | []=>some []
 | x :: l=>match readG x with
  | none=>none
  | some (ts,ss,qs)=>match rowsQ l with
   | none=>none
   | some r=>some (builtM ts ss qs++r)
theorem rows_pcs:∀ (k:Nat) (M:List RowM),nP M=k→checkM M=0→(∀ r ∈ M,∀ c ∈ r.cs,I64 c.n)→rowsQ ((pcs k M).map (fun m=>bytesM m))=some M
 | 0,M,hk,_,_=>by
  have:M = []:=List.eq_nil_of_length_eq_zero (by unfold nP at hk;omega)
  subst this
  rfl
 | k+1,M,hk,h,hi=>by
  have h0:0<M.length:=by unfold nP at hk;omega
  have hw:writeM (M.take 16)=(bytesM (M.take 16),0):=writeM_of (checkM_take h 16) (by rw[List.length_take];omega) (by rw[List.length_take];omega)
  obtain ⟨qs,h1,h2,_⟩:=readG_write (M:=M.take 16) (by rw[hw]) (fun r hr=>hi r (List.mem_of_mem_take hr))
  rw[hw] at h1
  have ih:=rows_pcs k (M.drop 16) (by unfold nP at hk ⊢;rw[List.length_drop];omega) (checkM_drop h 16) (fun r hr=>hi r (List.mem_of_mem_drop hr))
  rw[pcs,List.map_cons,rowsQ,h1,ih]
  show some (builtM _ _ qs++M.drop 16)=_
  rw[h2,List.take_append_drop]
theorem bytesM_small {M:List RowM} (h:checkM M=0) (h0:0<M.length) (h16:M.length≤16) (hi:∀ r ∈ M,∀ c ∈ r.cs,I64 c.n):(bytesM M).length≤1000000:=by
 have hw:=writeM_of h h0 h16
 have:=write_small (M:=M) (by rw[hw]) hi
 rw[hw] at this
 exact this
theorem blks_small {M:List RowM} (h:checkM M=0) (hl:M.length≤4096) (hi:∀ r ∈ M,∀ c ∈ r.cs,I64 c.n):∀ x ∈ blks M,x.length≤1048576:=by
 intro x hx
 rcases List.mem_cons.1 hx with rfl | hx
 ·have:=putV_len10 (n:=M.length) (by omega)
  omega
 ·obtain ⟨m,hm,rfl⟩:=List.mem_map.1 hx
  obtain ⟨i,hi2,rfl⟩:=List.mem_iff_getElem.1 hm
  rw[pcs_len] at hi2
  have hlt:16*i<M.length:=by unfold nP at hi2;omega
  rw[pcs_get]
  have:=bytesM_small (checkM_take (checkM_drop h (16*i)) 16) (piece_len hlt).1 (piece_len hlt).2 (fun r hr=>hi r (List.mem_of_mem_drop (List.mem_of_mem_take hr)))
  omega
theorem allF_end:∀ (k:Nat) (b:List UInt8) (n:Nat),n≤b.length→b.length<n+k→(allF k b n).2.1=b.length→(allF k b n).2.2=0
 | 0,b,n,hn,hk=>by omega
 | k+1,b,n,hn,hk=>by
  unfold allF
  by_cases hlt:(n:Int)<b.length
  ·rw[if_pos hlt]
   by_cases he:(openB b n).2.2≠0
   ·rw[if_pos he]
    intro h
    simp only at h
    omega
   ·rw[if_neg he]
    have he':(openB b n).2.2=0:=by simpa using he
    obtain ⟨g0,g1,g2⟩:=openB_ok _ _ he'
    intro h
    simp only at h ⊢
    obtain ⟨m,hm⟩:=Int.eq_ofNat_of_zero_le (show 0≤(openB b n).2.1 by omega)
    rw[hm] at h g1 g2 ⊢
    exact allF_end k b m (by omega) (by omega) h
  ·rw[if_neg hlt]
   intro _
   rfl
theorem allB_end (l:List (List UInt8)) (hl:∀ x ∈ l,x.length≤1048576):allB (recs l)=(l,((recs l).length:Int),0):=by
 obtain ⟨h1,h2⟩:=allB_whole l hl
 have h3:(allB (recs l)).2.1=(recs l).length→(allB (recs l)).2.2=0:=by
  have:=allF_end ((recs l).length+1) (recs l) 0 (by omega) (by omega)
  simpa [allB] using this
 have h4:=h3 h2
 clear h3
 generalize allB (recs l)=r at *
 obtain ⟨a,b,c⟩:=r
 simp only at h1 h2 h4
 rw[h1,h2,h4]
def openS (b:List UInt8):Option (List RowM):=if (allB b).2.2≠0∨(allB b).1 = [] then none else match rowsQ (allB b).1.tail with
 | none=>none
 | some M=>if writeS M=(b,0) then some M else none
theorem writeS_ok {M:List RowM} {b:List UInt8} (h:writeS M=(b,0)):0<M.length∧M.length≤4096∧checkM M=0∧b=segB M:=by
 unfold writeS at h
 split at h
 ·cases h
 ·split at h
  ·rename_i h1 h2
   injection h with h3
   exact ⟨by omega,by omega,h2,h3.symm⟩
  ·rename_i h1 h2
   injection h with _ h4
   exact absurd h4 h2
theorem openS_write {M:List RowM} {b:List UInt8} (h:writeS M=(b,0)) (hi:∀ r ∈ M,∀ c ∈ r.cs,I64 c.n):openS b=some M:=by
 obtain ⟨h0,h1,h2,rfl⟩:=writeS_ok h
 unfold openS
 rw[show allB (segB M)=(blks M,((segB M).length:Int),0) from allB_end _ (blks_small h2 h1 hi)]
 rw[if_neg (by simp[blks])]
 show (match rowsQ ((pcs (nP M) M).map (fun m=>bytesM m)) with
  | none=>none
  | some M'=>if writeS M'=(segB M,0) then some M' else none)=some M
 rw[rows_pcs _ M rfl h2 hi]
 exact if_pos h
theorem openS_some {M:List RowM} {b:List UInt8} (h:openS b=some M):writeS M=(b,0):=by
 unfold openS at h
 split at h
 ·cases h
 ·split at h
  ·cases h
  ·split at h
   ·rename_i h1
    injection h with h
    subst h
    exact h1
   ·cases h
theorem writeS_inj {M N:List RowM} {b:List UInt8} (h:writeS M=(b,0)) (k:writeS N=(b,0)) (hi:∀ r ∈ M,∀ c ∈ r.cs,I64 c.n) (ki:∀ r ∈ N,∀ c ∈ r.cs,I64 c.n):M=N:=by
 have:=openS_write h hi
 rw[openS_write k ki] at this
 injection this with this
 exact this.symm
theorem rowsQ_I64:∀ (l:List (List UInt8)) (M:List RowM),rowsQ l=some M→∀ r ∈ M,∀ c ∈ r.cs,I64 c.n
 | [],M,h,r,hr=>by
  injection h with h
  subst h
  cases hr
 | x :: l,M,h,r,hr=>by
  rw[rowsQ] at h
  split at h
  ·cases h
  ·rename_i ts ss qs hx
   split at h
   ·cases h
   ·rename_i N hN
    injection h with h
    subst h
    rcases List.mem_append.1 hr with hr | hr
    ·exact builtM_I64 ts ss qs (fun q hq=>(openR_cells ((readG_some hx).op q hq)).2.1) r hr
    ·exact rowsQ_I64 l N hN r hr
theorem rising_check (M:List RowM) (n:Nat) (hn:n≤1000):checkM (risingM M n)=0:=by
 have hr:=rising17_row M n hn
 have h1:¬ (risingM M n).any (fun r=>!r.ok)=true:=by
  intro h
  obtain ⟨r,h1,h2⟩:=List.any_eq_true.1 h
  have:r.ok=true:=(hr r h1).1
  rw[this] at h2
  cases h2
 have h2:risesM (risingM M n)=true:=risesM_true _ (fun i h=>by
  rw[risingM_get,risingM_get]
  have hs:=stepI_range ((M[i+1]?).elim 0 (·.t))
  have ht:riseT M (i+1+1)=riseT M (i+1)+stepI ((M[i+1]?).elim 0 (·.t)):=rfl
  unfold lessM riseRow
  dsimp only
  rw[ht]
  unfold cmpR orZ cmpZ
  simp only[decide_eq_true_eq]
  split<;>(try split)<;>(try split)<;>(try split)<;>(try split)<;>omega)
 obtain ⟨a,b,s,t,h3⟩:=growsF_tame (risingM M n) (fun r h=>⟨(hr r h).1,(hr r h).2.1⟩) false false false false 0
 unfold checkM
 rw[if_neg h1,if_pos h2,if_pos]
 unfold growsR
 rw[if_pos (by rfl)]
 show (growsF (stL false false false false) 0 (risingM M n)).2.1=0
 rw[h3]
theorem rising_writeS (M:List RowM) (n:Nat) (h0:0<n) (hn:n≤1000):writeS (risingM M n)=(segB (risingM M n),0):=by
 unfold writeS
 rw[if_neg (by rw[risingM_len];omega),if_pos (rising_check M n hn)]
end Go.Proofs.YtplnodcbbcdcgaaGreat.Lib0

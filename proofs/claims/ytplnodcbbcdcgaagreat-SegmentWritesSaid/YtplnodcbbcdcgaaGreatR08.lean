import Derived.SizedLaws
import Derived.Test.YtplnodcbbcdcgaaGreatR06
set_option linter.unusedVariables false
set_option linter.unusedSimpArgs false
namespace Go.Proofs.YtplnodcbbcdcgaaGreat.Lib0
open Go.ChangeShapes Go.WideShapes Go.ChangeAt Go.RowKit
open Go.Proofs.YtplnodcbbcdcgaaGreatW.PrintWords
section
variable {H:Type} {enc:TypeId × Value→H}
theorem weights_mem_all {P:Program} {e:TypeId}:∀ {l:List (DataW H)} {d:DataW H},d ∈ l→∀ b ∈ DataW.weights P e d,b ∈ DataW.weightsAll P e l
 | x :: l,d,hd,b,hb=>by
  rw[DataW.weightsAll,List.mem_append]
  rcases List.mem_cons.1 hd with rfl | hd
  ·exact .inl hb
  ·exact .inr (weights_mem_all hd b hb)
set_option maxRecDepth 100000 in
theorem in_cells2 {W:World} {fuel:Nat} {v:Value} {x:DataW H × List MemPlace} (h:DataW.trod enc Tryz.prog W 0 (fun _=>true) true fuel 35 [v]=some x) (hw:∀ b ∈ DataW.weights Tryz.prog 35 x.1,b≤reachBytes) :
  ∃ A c,∃ l:List CellM,v = .slice A l.length c∧l.length≤c∧kc.C W A l.length l∧l.length*48≤140737488355328∧∀ c ∈ l,I64 c.n:=by
 rcases Go.Deep.open_slice Tryz.underlying35 h with ⟨hcs,hx⟩ | ⟨a,len,cap,m,n,D,Pl,hcs,_,hl,hm,hmm,hx,hel⟩
 ·simp at hcs
  subst hcs
  exact ⟨none,0,[],rfl,Nat.le_refl _,⟨rfl,by simp,fun h=>absurd h (by simp)⟩,by simp,fun c hc=>by cases hc⟩
 ·simp at hcs
  subst hcs
  simp only[if_true] at hmm
  have hmx:cap≤9223372036854775807:=by simpa [maxLen] using hm
  have hce:Tryz.prog.cellsOf 39=4:=by kernel_rfl
  obtain ⟨f,hf⟩:=Go.Deep.choose_lt (α:=CellM) (n:=len) (p:=fun i c=>(∀ j u,c.cells[j]?=some u→W.cell? (a.add (i*4+j))=some u)∧I64 c.n) (fun i hi=>by
   obtain ⟨cs',h1,h2⟩:=hel i (by omega)
   rw[hce] at h1
   obtain ⟨_,hlen,hcell⟩:=World.cells?_some h1
   obtain ⟨y0,y1,y2,y3,n',_,_,g0,g1,g2,g3⟩:=Go.Joins.trod_struct4 Tryz.underlying39 h2
   obtain ⟨c0,c1,c2,c3,rfl⟩:=list4 hlen
   dsimp only at g0 g1 g2 g3
   rw[show Tryz.prog.cellsOf 9=1 by kernel_rfl] at g0 g3
   rw[show Tryz.prog.cellsOf 3=1 by kernel_rfl] at g1
   rw[show Tryz.prog.cellsOf 2=1 by kernel_rfl] at g2
   simp only[List.drop_zero,List.drop_succ_cons,List.take_succ_cons,List.take_zero] at g0 g1 g2 g3
   obtain ⟨s0,e0,_,_⟩:=DataW.trod_string Tryz.underlying9 g0
   obtain ⟨n1,e1,_,_⟩:=DataW.trod_int Tryz.underlying3 g1
   obtain ⟨n2,e2,_,hwf2⟩:=DataW.trod_int Tryz.underlying2 g2
   obtain ⟨s3,e3,_,_⟩:=DataW.trod_string Tryz.underlying9 g3
   cases e0;cases e1;cases e2;cases e3
   refine ⟨⟨s0,n1,n2,s3⟩,fun j u hu=>?_,bounds_i64 hwf2⟩
   have hj:j<4:=(List.getElem?_eq_some_iff.1 hu).1
   have:=hcell j hj
   rw[add_go] at this
   rw[this]
   exact hu)
  have hlen:((List.range len).map f).length=len:=by simp
  have hsz:len*48≤140737488355328:=by
   have hmem:((List.range len).map D).length+((List.range (m-len)).map fun j=>D (len+j)).length≤2932031007320:=by
    have h1:=hw ((((List.range len).map D).length+((List.range (m-len)).map fun j=>D (len+j)).length)*Tryz.prog.bytesOf 39) (by rw[hx];simp[DataW.weights,Tryz.underlying35])
    have h2:Tryz.prog.bytesOf 39=48:=by kernel_rfl
    rw[h2] at h1
    unfold reachBytes at h1
    omega
   rw[List.length_map,List.length_range] at hmem
   omega
  refine ⟨some a,cap,(List.range len).map f,by rw[hlen],by omega,?_,by rw[hlen];exact hsz,fun c hc=>?_⟩
  case refine_2=>
   obtain ⟨i,hi,rfl⟩:=List.mem_map.1 hc
   exact (hf i (List.mem_range.1 hi)).2
  have hC:=C_told (l:=(List.range len).map f) (W:=W) (a:=a) kc_flat kc_told (by omega) (fun i hi j u hu=>by
   have hi2:i<len:=by simpa using hi
   rw[List.getElem_map,List.getElem_range] at hu
   exact (hf i hi2).1 j u hu)
  exact hC
set_option maxRecDepth 100000 in
theorem in_rows2 {W:World} {v:Value} {d:DataW H} {ps:List MemPlace} {b:Nat} (hv:Value.okWide Tryz.prog W .any b 22 v) (h:DataW.Trod enc Tryz.prog W 0 (fun _=>true) true 22 v d ps) (hw:∀ b ∈ DataW.weights Tryz.prog 22 d,b≤reachBytes) :
  ∃ A c,∃ (R:List RowH) (L:List (List CellM)),v = .slice A R.length c∧kr.C W A R.length R∧RowsOn W R L∧R.length≤9223372036854775807∧∀ x ∈ L,x.length*48≤140737488355328∧∀ c ∈ x,I64 c.n:=by
 obtain ⟨a0,len0,cap0,rfl⟩:=okWide_slice Tryz.underlying22 hv
 obtain ⟨fuel,h⟩:=h
 simp only[Value.cells] at h
 rcases Go.Deep.open_slice Tryz.underlying22 h with ⟨hcs,hx⟩ | ⟨a,len,cap,m,n,D,Pl,hcs,_,hl,hm,hmm,hx,hel⟩
 ·simp at hcs
  obtain ⟨rfl,rfl,rfl⟩:=hcs
  exact ⟨none,0,[],[],rfl,⟨rfl,by simp,fun h=>absurd h (by simp)⟩,⟨rfl,fun i h1=>by simp at h1⟩,by simp,fun x hx=>by cases hx⟩
 ·simp at hcs
  obtain ⟨rfl,rfl,rfl⟩:=hcs
  simp only[if_true] at hmm
  have hmx:cap0≤9223372036854775807:=by simpa [maxLen] using hm
  have hce:Tryz.prog.cellsOf 37=3:=by kernel_rfl
  obtain ⟨f,hf⟩:=Go.Deep.choose_lt (α:=RowIn) (n:=len0) (p:=fun i c=>(∀ j u,c.h.cells[j]?=some u→W.cell? (a.add (i*3+j))=some u)∧c.h.n=c.cs.length∧c.cs.length≤c.h.c∧kc.C W c.h.A c.cs.length c.cs∧c.cs.length*48≤140737488355328∧∀ y ∈ c.cs,I64 y.n) (fun i hi=>by
   obtain ⟨cs',h1,h2⟩:=hel i (by omega)
   rw[hce] at h1
   obtain ⟨_,hlen,hcell⟩:=World.cells?_some h1
   obtain ⟨y0,y1,y2,n',hDi,_,g0,g1,g2⟩:=Go.Deep.trod_struct3 Tryz.underlying37 h2
   obtain ⟨c0,c1,c2,rfl⟩:=list3 hlen
   dsimp only at g0 g1 g2
   rw[show Tryz.prog.cellsOf 2=1 by kernel_rfl] at g0
   rw[show Tryz.prog.cellsOf 3=1 by kernel_rfl] at g1
   rw[show Tryz.prog.cellsOf 35=1 by kernel_rfl] at g2
   simp only[List.drop_zero,List.drop_succ_cons,List.take_succ_cons,List.take_zero] at g0 g1 g2
   obtain ⟨n0,e0,_,_⟩:=DataW.trod_int Tryz.underlying2 g0
   obtain ⟨n1,e1,_,_⟩:=DataW.trod_int Tryz.underlying3 g1
   obtain ⟨A2,c2',l2,e2,k1,k2,k3,k4⟩:=in_cells2 g2 (fun b hb=>by
    refine hw b ?_
    have e9:d = .slice ((List.range len0).map D) ((List.range (m-len0)).map fun j=>D (len0+j)):=congrArg Prod.fst hx
    have e8:D i = .agg [y0.1,y1.1,y2.1]:=congrArg Prod.fst hDi
    rw[e9]
    have hin:b ∈ DataW.weights Tryz.prog 37 (D i):=by
     rw[e8]
     simp only[DataW.weights,Tryz.underlying37]
     exact DataW.weights_mem_each (j:=2) rfl rfl b hb
    simp only[DataW.weights,Tryz.underlying22,List.mem_cons,List.mem_append]
    exact .inr (.inl (weights_mem_all (List.mem_map_of_mem (List.mem_range.2 hi)) b hin)))
   cases e0;cases e1;subst e2
   refine ⟨⟨⟨n0,n1,A2,l2.length,c2'⟩,l2⟩,fun j u hu=>?_,rfl,k1,k2,k3,k4⟩
   have hj:j<3:=(List.getElem?_eq_some_iff.1 hu).1
   have:=hcell j hj
   rw[add_go] at this
   rw[this]
   exact hu)
  have hlen:((List.range len0).map (fun i=>(f i).h)).length=len0:=by simp
  refine ⟨some a,cap0,(List.range len0).map (fun i=>(f i).h),(List.range len0).map (fun i=>(f i).cs),by rw[hlen],?_,⟨by simp,fun i k1 k2=>?_⟩,by omega,fun x hx=>?_⟩
  ·exact C_told (l:=(List.range len0).map (fun i=>(f i).h)) (W:=W) (a:=a) kr_flat kr_told (by omega) (fun i hi j u hu=>by
    have hi2:i<len0:=by simpa using hi
    rw[List.getElem_map,List.getElem_range] at hu
    exact (hf i hi2).1 j u hu)
  ·have hi2:i<len0:=by simpa using k1
   rw[List.getElem_map,List.getElem_map,List.getElem_range]
   obtain ⟨q1,q2,q3,q4,q5,q6⟩:=hf i hi2
   exact ⟨q2,q3,q4⟩
  ·obtain ⟨i,hi,rfl⟩:=List.mem_map.1 hx
   exact (hf i (List.mem_range.1 hi)).2.2.2.2
end
end Go.Proofs.YtplnodcbbcdcgaaGreat.Lib0

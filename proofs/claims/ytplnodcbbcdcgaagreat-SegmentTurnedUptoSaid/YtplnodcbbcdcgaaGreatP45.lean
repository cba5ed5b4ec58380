import Derived.ProofKit
import Derived.OpenShut
import Derived.Deep.DeepHandedRow
import Derived.Deep.Grids
import Derived.Lib.SmallJoins
import Derived.Test.YtplnodcbbcdcgaaGreatP34
set_option linter.unusedVariables false
set_option linter.unusedSimpArgs false
namespace Go.Proofs.YtplnodcbbcdcgaaGreat.Lib0
open Go.RowKit Go.Proofs.YtplnodcbbcdcgaaGreatW.PrintWords Go.ChangeMaps
structure G20 (W V:World) (v:Value) (xs:List ColM):Prop where
 R:kl.R 91 V W.heap.size (fun _=>True) v xs
 B:Below W.heap.size W V
theorem G20.alloc {W V:World} {v:Value} {xs:List ColM} (h:G20 W V v xs) (o:Obj):G20 W (V.alloc o) v xs:=⟨Kd.R_alloc h.R o,h.B.trans ((below_alloc (Below.refl _ _) o).mono h.B.size)⟩
def EmpC (W V:World) (z:Value):Prop:=∃ b,z = .slice (some ⟨b,0,none⟩) 0 0∧V.heap[b]?=some (.cells #[] 91 (0,0))∧W.heap.size≤b∧Below W.heap.size W V
theorem EmpC.new {W V:World} {b:Nat} (h:Below W.heap.size W V) (hb:b=V.heap.size):EmpC W (V.alloc (.cells #[] 91)) (.slice (some ⟨b,0,none⟩) 0 0):=by
 subst hb
 exact ⟨_,rfl,heap_alloc_new V _,h.size,h.trans ((below_alloc (Below.refl _ _) _).mono h.size)⟩
theorem EmpC.alloc {W V:World} {z:Value} (h:EmpC W V z) (o:Obj):EmpC W (V.alloc o) z:=by
 obtain ⟨b,h1,h2,h3,h4⟩:=h
 exact ⟨b,h1,(heap_alloc_old V o (Array.getElem?_eq_some_iff.1 h2).1).trans h2,h3,h4.trans ((below_alloc (Below.refl _ _) o).mono h4.size)⟩
theorem EmpC.drew {W V:World} {z:Value} (h:EmpC W V z):EmpC W V.drew z:=by
 obtain ⟨b,h1,h2,h3,h4⟩:=h
 exact ⟨b,h1,h2,h3,h4.trans (below_drew _ _)⟩
def PenC (V:World) (z:Value) (x:ColM):Prop:=∃ b,z = .slice (some ⟨b,0,none⟩) 1 1∧V.heap[b]?=some (.cells #[.string x.name,.int .i64 x.kind] 91 (0,0))
theorem PenC.new {V:World} {b:Nat} {x:ColM} (hb:b=V.heap.size):PenC (V.alloc (.cells #[.string x.name,.int .i64 x.kind] 91)) (.slice (some ⟨b,0,none⟩) 1 1) x:=by
 subst hb
 exact ⟨_,rfl,heap_alloc_new V _⟩
theorem PenC.drew {V:World} {z:Value} {x:ColM} (h:PenC V z x):PenC V.drew z x:=h
theorem PenC.alloc {V:World} {z:Value} {x:ColM} (h:PenC V z x) (o:Obj):PenC (V.alloc o) z x:=by
 obtain ⟨b,h1,h2⟩:=h
 exact ⟨b,h1,(heap_alloc_old V o (Array.getElem?_eq_some_iff.1 h2).1).trans h2⟩
attribute [local irreducible] wpQuiet
end Go.Proofs.YtplnodcbbcdcgaaGreat.Lib0
namespace Go.Proofs.YtplnodcbbcdcgaaGreat.Lib0
open Go.RowKit Go.Proofs.YtplnodcbbcdcgaaGreatW.PrintWords Go.ChangeMaps
attribute [local irreducible] wpQuiet
end Go.Proofs.YtplnodcbbcdcgaaGreat.Lib0
namespace Go.Proofs.YtplnodcbbcdcgaaGreat.Lib0
open Go.ChangeShapes Go.WideShapes Go.ChangeAt Go.RowKit
open Go.Proofs.YtplnodcbbcdcgaaGreatW.PrintWords
section
variable {H:Type} {enc:TypeId × Value→H}
theorem laidOut:laidOutB Tryz.prog=true:=by kernel_rfl
theorem trodAll_stays {W W':World} {sp:Nat→Bool}:∀ {ts:List TypeId} {vs:List Value} {ds:List (DataW H)} {ps:List MemPlace},(∀ t ∈ ts,Tryz.prog.readableRec t=true∧t<Tryz.prog.types.size)→DataW.TrodAll enc Tryz.prog W 0 (fun _=>true) true ts vs ds ps→(∀ x ∈ ps,W.sameAt W' x)→(∀ x ∈ ps,sp x.block=true)→DataW.TrodAll enc Tryz.prog W' 0 sp true ts vs ds ps
 | [],vs,ds,ps,_,h,_,_=>by
  obtain ⟨rfl,rfl,rfl⟩:=trodAll_nil h
  exact trodAll_mk0
 | t :: ts,vs,ds,ps,hr,h,h1,h2=>by
  obtain ⟨v,vs',d,ds',p,q,rfl,rfl,rfl,g1,g2⟩:=trodAll_cons h
  exact trodAll_cons_mk (WideElems.Trod_stays laidOut (hr t (by simp)).1 (hr t (by simp)).2 g1 (fun x hx=>h1 x (by simp[hx])) (fun x hx=>h2 x (by simp[hx])))
   (trodAll_stays (fun u hu=>hr u (by simp[hu])) g2 (fun x hx=>h1 x (by simp[hx])) (fun x hx=>h2 x (by simp[hx])))
set_option maxRecDepth 100000 in
theorem post_true {f:Func} {s:ChangeSpec} {apart fresh handsOn again:Bool} {W W':World} {args:Array Value} {ds gs:List (DataW H)} {before:List MemPlace}
  (hW:DataW.Whole enc Tryz.prog f.params.toList s.vars apart W args.toList ds gs before) (hb:Below W.heap.size W W')
  (hr:∀ t ∈ f.params.toList,Tryz.prog.readableRec t=true∧t<Tryz.prog.types.size) (hvs:s.vars = []) (hres:f.resultTypes=#[4])
  (h1:(s.fn H (ds++gs)).results = [.lit (.bool true)]) (h2:(s.fn H (ds++gs)).args=ds) (h3:(s.fn H (ds++gs)).vars = []) :
  s.post enc Tryz.prog f apart fresh handsOn again W args (.bool true) W':=by
 have hlt:∀ p ∈ before,p.block<W.heap.size:=fun p hp=>by simpa using hW.lt p hp
 have hold:∀ p ∈ before,(fun b=>decide (b<W.heap.size)) p.block=true:=fun p hp=>by simpa using hlt p hp
 have hW2:=hW
 obtain ⟨pa,pv,hA,hV,rfl,hz,hn⟩:=hW2
 rw[hvs] at hV
 obtain ⟨rfl,rfl⟩:=trodVars_none hV
 simp only[List.append_nil] at hlt hold hz hn hA
 have hargs:∀ sp:Nat→Bool,(∀ p ∈ pa,sp p.block=true)→DataW.TrodAll enc Tryz.prog W' 0 sp true f.params.toList args.toList ds pa:=fun sp hsp=>trodAll_stays hr hA (fun x hx=>hb.same (hlt x hx)) hsp
 have hrs:∀ (b:Nat) (sp:Nat→Bool) (hd:Bool),DataW.TrodAll enc Tryz.prog W' b sp hd f.resultTypes.toList ((Value.bool true).resultList f.resultTypes.size) [.lit (.bool true)] []:=by
  intro b sp hd
  rw[hres]
  exact trodAll_cons_mk (shut_bool Tryz.underlying4 _) trodAll_mk0
 have hvars:DataW.TrodVars enc Tryz.prog W' (fun _=>true) s.vars ([]:List (DataW H)) []:=by rw[hvs];rfl
 refine ⟨ds,[],_,[],pa,[],hW,by rw[h1];exact hrs _ _ _,by rw[h2];exact hargs _ hold,by rw[h3,hvs];rfl,hb.frame _,fun _=>?_⟩
 refine ⟨?_,_,_,([]++pa)++[],⟨[]++pa,[],trodAll_append (hargs _ (fun _ _=>rfl)) (hrs _ _ _),hvars,rfl,?_,?_⟩,?_⟩
 ·exact ok_one hres rfl (okWide_bool_mk Tryz.underlying4 _)
 ·intro b off hp
  have hp':MemPlace.cell b off ∈ pa:=by simpa using hp
  rw[hb.frozen (hlt _ hp')]
  exact hz b off hp'
 ·intro ha
  simpa using hn ha
 ·intro p hp _
  simpa using hp
theorem add_go (a:Addr) (i j:Nat):(a.add i).add j=a.add (i+j):=Go.Deep.add_add a i j
theorem list4 {α:Type} {l:List α} (h:l.length=4):∃ a b c d,l = [a,b,c,d]:=by
 rcases l with _ | ⟨a,_ | ⟨b,_ | ⟨c,_ | ⟨d,_ | ⟨e,l⟩⟩⟩⟩⟩
 all_goals first | exact ⟨_,_,_,_,rfl⟩ | (simp at h)
theorem list3 {α:Type} {l:List α} (h:l.length=3):∃ a b c,l = [a,b,c]:=by
 rcases l with _ | ⟨a,_ | ⟨b,_ | ⟨c,_ | ⟨d,l⟩⟩⟩⟩
 all_goals first | exact ⟨_,_,_,rfl⟩ | (simp at h)
instance:Inhabited CellM:=⟨noCell⟩
theorem kc_told {w:World} {c:CellM}:kc.K w c c.cells:=
 ⟨[.string c.col],[.int .i64 c.kind,.int .i64 c.n,.string c.s],rfl,rfl,[.int .i64 c.kind],[.int .i64 c.n,.string c.s],rfl,rfl,[.int .i64 c.n],[.string c.s],rfl,rfl,rfl⟩
theorem kr_told {w:World} {c:RowH}:kr.K w c c.cells:=
 ⟨[.int .i64 c.t],[.int .i64 c.s,.slice c.A c.n c.c],rfl,rfl,[.int .i64 c.s],[.slice c.A c.n c.c],rfl,rfl,rfl⟩
structure RowIn where
 h:RowH
 cs:List CellM
instance:Inhabited RowIn:=⟨⟨⟨0,0,none,0,0⟩,[]⟩⟩
theorem C_told {α:Type} {d:Kd α} {f:α→List Value} {K:Nat} (F:Flat d f K) (hK:∀ {w:World} {x:α},d.K w x (f x)) {W:World} {a:Addr} {l:List α} (hm:l.length≤9223372036854775807)
  (h:∀ i (hi:i<l.length) j u,(f l[i])[j]?=some u→W.cell? (a.add (i*K+j))=some u):d.C W (some a) l.length l:=by
 refine ⟨rfl,hm,fun _=>⟨a,rfl,fun j p hp=>⟨f p,by rw[F.len,F.sz],hK,fun i u hu=>?_⟩⟩⟩
 obtain ⟨hj,rfl⟩:=List.getElem?_eq_some_iff.1 hp
 rw[F.sz]
 exact h j hj i u hu
set_option maxRecDepth 100000 in
theorem in_cells {W:World} {fuel:Nat} {v:Value} {x:DataW H × List MemPlace} (h:DataW.trod enc Tryz.prog W 0 (fun _=>true) true fuel 35 [v]=some x) :
  ∃ A c,∃ l:List CellM,v = .slice A l.length c∧l.length≤c∧kc.C W A l.length l∧l.length≤9223372036854775807:=by
 rcases Go.Deep.open_slice Tryz.underlying35 h with ⟨hcs,hx⟩ | ⟨a,len,cap,m,n,D,Pl,hcs,_,hl,hm,hmm,hx,hel⟩
 ·simp at hcs
  subst hcs
  exact ⟨none,0,[],rfl,Nat.le_refl _,⟨rfl,by simp,fun h=>absurd h (by simp)⟩,by simp⟩
 ·simp at hcs
  subst hcs
  simp only[if_true] at hmm
  have hmx:cap≤9223372036854775807:=by simpa [maxLen] using hm
  have hce:Tryz.prog.cellsOf 39=4:=by kernel_rfl
  obtain ⟨f,hf⟩:=Go.Deep.choose_lt (α:=CellM) (n:=len) (p:=fun i c=>∀ j u,c.cells[j]?=some u→W.cell? (a.add (i*4+j))=some u) (fun i hi=>by
   obtain ⟨cs',h1,h2⟩:=hel i (by omega)
   rw[hce] at h1
   obtain ⟨_,hlen,hcell⟩:=World.cells?_some h1
   obtain ⟨y0,y1,y2,y3,n',_,_,g0,g1,g2,g3⟩:=Go.Joins.trod_struct4 Tryz.underlying39 h2
   obtain ⟨c0,c1,c2,c3,rfl⟩:=list4 hlen
   dsimp only at g0 g1 g2 g3
   rw[show Tryz.prog.cellsOf 9=1 by kernel_rfl] at g0 g3
   rw[show Tryz.prog.cellsOf 3=1 by kernel_rfl] at g1
   rw[show Tryz.prog.cellsOf 2=1 by kernel_rfl] at g2
   simp only[List.drop_zero,List.drop_succ_cons,List.take_succ_cons,List.take_zero] at g0 g1 g2 g3
   obtain ⟨s0,e0,_,_⟩:=DataW.trod_string Tryz.underlying9 g0
   obtain ⟨n1,e1,_,_⟩:=DataW.trod_int Tryz.underlying3 g1
   obtain ⟨n2,e2,_,_⟩:=DataW.trod_int Tryz.underlying2 g2
   obtain ⟨s3,e3,_,_⟩:=DataW.trod_string Tryz.underlying9 g3
   cases e0;cases e1;cases e2;cases e3
   refine ⟨⟨s0,n1,n2,s3⟩,fun j u hu=>?_⟩
   have hj:j<4:=(List.getElem?_eq_some_iff.1 hu).1
   have:=hcell j hj
   rw[add_go] at this
   rw[this]
   exact hu)
  have hlen:((List.range len).map f).length=len:=by simp
  refine ⟨some a,cap,(List.range len).map f,by rw[hlen],by omega,?_,by omega⟩
  have hC:=C_told (l:=(List.range len).map f) (W:=W) (a:=a) kc_flat kc_told (by omega) (fun i hi j u hu=>by
   have hi2:i<len:=by simpa using hi
   rw[List.getElem_map,List.getElem_range] at hu
   exact hf i hi2 j u hu)
  exact hC
set_option maxRecDepth 100000 in
theorem in_rows {W:World} {v:Value} {d:DataW H} {ps:List MemPlace} {b:Nat} (hv:Value.okWide Tryz.prog W .any b 22 v) (h:DataW.Trod enc Tryz.prog W 0 (fun _=>true) true 22 v d ps) :
  ∃ A c,∃ (R:List RowH) (L:List (List CellM)),v = .slice A R.length c∧kr.C W A R.length R∧RowsOn W R L∧R.length≤9223372036854775807∧∀ x ∈ L,x.length≤9223372036854775807:=by
 obtain ⟨a0,len0,cap0,rfl⟩:=okWide_slice Tryz.underlying22 hv
 obtain ⟨fuel,h⟩:=h
 simp only[Value.cells] at h
 rcases Go.Deep.open_slice Tryz.underlying22 h with ⟨hcs,hx⟩ | ⟨a,len,cap,m,n,D,Pl,hcs,_,hl,hm,hmm,hx,hel⟩
 ·simp at hcs
  obtain ⟨rfl,rfl,rfl⟩:=hcs
  exact ⟨none,0,[],[],rfl,⟨rfl,by simp,fun h=>absurd h (by simp)⟩,⟨rfl,fun i h1=>by simp at h1⟩,by simp,fun x hx=>by cases hx⟩
 ·simp at hcs
  obtain ⟨rfl,rfl,rfl⟩:=hcs
  simp only[if_true] at hmm
  have hmx:cap0≤9223372036854775807:=by simpa [maxLen] using hm
  have hce:Tryz.prog.cellsOf 37=3:=by kernel_rfl
  obtain ⟨f,hf⟩:=Go.Deep.choose_lt (α:=RowIn) (n:=len0) (p:=fun i c=>(∀ j u,c.h.cells[j]?=some u→W.cell? (a.add (i*3+j))=some u)∧c.h.n=c.cs.length∧c.cs.length≤c.h.c∧kc.C W c.h.A c.cs.length c.cs∧c.cs.length≤9223372036854775807) (fun i hi=>by
   obtain ⟨cs',h1,h2⟩:=hel i (by omega)
   rw[hce] at h1
   obtain ⟨_,hlen,hcell⟩:=World.cells?_some h1
   obtain ⟨y0,y1,y2,n',_,_,g0,g1,g2⟩:=Go.Deep.trod_struct3 Tryz.underlying37 h2
   obtain ⟨c0,c1,c2,rfl⟩:=list3 hlen
   dsimp only at g0 g1 g2
   rw[show Tryz.prog.cellsOf 2=1 by kernel_rfl] at g0
   rw[show Tryz.prog.cellsOf 3=1 by kernel_rfl] at g1
   rw[show Tryz.prog.cellsOf 35=1 by kernel_rfl] at g2
   simp only[List.drop_zero,List.drop_succ_cons,List.take_succ_cons,List.take_zero] at g0 g1 g2
   obtain ⟨n0,e0,_,_⟩:=DataW.trod_int Tryz.underlying2 g0
   obtain ⟨n1,e1,_,_⟩:=DataW.trod_int Tryz.underlying3 g1
   obtain ⟨A2,c2',l2,e2,k1,k2,k3⟩:=in_cells g2
   cases e0;cases e1;subst e2
   refine ⟨⟨⟨n0,n1,A2,l2.length,c2'⟩,l2⟩,fun j u hu=>?_,rfl,k1,k2,k3⟩
   have hj:j<3:=(List.getElem?_eq_some_iff.1 hu).1
   have:=hcell j hj
   rw[add_go] at this
   rw[this]
   exact hu)
  have hlen:((List.range len0).map (fun i=>(f i).h)).length=len0:=by simp
  refine ⟨some a,cap0,(List.range len0).map (fun i=>(f i).h),(List.range len0).map (fun i=>(f i).cs),by rw[hlen],?_,⟨by simp,fun i k1 k2=>?_⟩,by omega,fun x hx=>?_⟩
  ·exact C_told (l:=(List.range len0).map (fun i=>(f i).h)) (W:=W) (a:=a) kr_flat kr_told (by omega) (fun i hi j u hu=>by
    have hi2:i<len0:=by simpa using hi
    rw[List.getElem_map,List.getElem_range] at hu
    exact (hf i hi2).1 j u hu)
  ·have hi2:i<len0:=by simpa using k1
   rw[List.getElem_map,List.getElem_map,List.getElem_range]
   obtain ⟨q1,q2,q3,q4,q5⟩:=hf i hi2
   exact ⟨q2,q3,q4⟩
  ·obtain ⟨i,hi,rfl⟩:=List.mem_map.1 hx
   exact (hf i (List.mem_range.1 hi)).2.2.2.2
end
end Go.Proofs.YtplnodcbbcdcgaaGreat.Lib0

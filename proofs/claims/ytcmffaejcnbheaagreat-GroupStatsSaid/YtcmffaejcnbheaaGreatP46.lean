import Derived.Test.YtcmffaejcnbheaaGreatP25
import Derived.Test.YtcmffaejcnbheaaGreatP43
set_option linter.unusedVariables false
set_option linter.unusedSimpArgs false
namespace Go.Proofs.YtcmffaejcnbheaaGreat.Lib0
open Go.RowKit Go.Proofs.YtcmffaejcnbheaaGreatW.PrintWords Go.ChangeMaps
theorem riseS_pw {d:List ByteArray}:RiseS d↔d.Pairwise (fun a b=>lessS a b=true):=by
 rw[List.pairwise_iff_getElem]
 exact ⟨fun h i j _ hj hij=>h i j hij hj,fun h i j hij hj=>h i j (by omega) hj hij⟩
def insS (d:List ByteArray) (k:Nat) (s:ByteArray):List ByteArray:=d.take k++[s]++d.drop k
theorem insS_mem (d:List ByteArray) (k:Nat) (s x:ByteArray):x ∈ insS d k s↔x ∈ d∨x=s:=by
 unfold insS
 conv=>rhs;rw[← List.take_append_drop k d]
 simp only[List.mem_append,List.mem_singleton]
 constructor
 ·rintro ((h | h) | h)
  ·exact .inl (.inl h)
  ·exact .inr h
  ·exact .inl (.inr h)
 ·rintro ((h | h) | h)
  ·exact .inl (.inl h)
  ·exact .inr h
  ·exact .inl (.inr h)
theorem insS_len (d:List ByteArray) (k:Nat) (s:ByteArray) (h:k≤d.length):(insS d k s).length=d.length+1:=by
 unfold insS
 rw[List.length_append,List.length_append,List.length_take,List.length_drop,List.length_singleton]
 omega
theorem insS_rise {d:List ByteArray} (h:RiseS d) (k:Nat) (s:ByteArray) (hk:k≤d.length) (h1:∀ q (hq:q<d.length),q<k→lessS d[q] s=true) (h2:∀ hk:k<d.length,lessS d[k] s=false∧d[k]≠s):RiseS (insS d k s):=by
 have hp:=riseS_pw.1 h
 have a1:∀ x ∈ d.take k,lessS x s=true:=fun x hx=>by
  obtain ⟨q,hq,rfl⟩:=List.mem_iff_getElem.1 hx
  rw[List.length_take] at hq
  rw[List.getElem_take]
  exact h1 q (by omega) (by omega)
 have a2:∀ x ∈ d.drop k,lessS s x=true:=fun x hx=>by
  obtain ⟨q,hq,rfl⟩:=List.mem_iff_getElem.1 hx
  rw[List.length_drop] at hq
  rw[List.getElem_drop]
  have hk2:k<d.length:=by omega
  obtain ⟨g1,g2⟩:=h2 hk2
  have g3:lessS s d[k]=true:=by
   cases g:lessS s d[k]
   ·exact absurd (lessS_tri g1 g) g2
   ·rfl
  rcases Nat.eq_zero_or_pos q with e | e
  ·subst e;exact g3
  ·exact lessS_trans g3 (h k (k+q) (by omega) (by omega))
 rw[riseS_pw]
 unfold insS
 rw[List.pairwise_append,List.pairwise_append]
 refine ⟨⟨hp.sublist (List.take_sublist _ _),List.pairwise_singleton _ _,fun x hx y hy=>?_⟩,hp.sublist (List.drop_sublist _ _),fun x hx y hy=>?_⟩
 ·rw[List.mem_singleton] at hy
  subst hy
  exact a1 x hx
 ·rw[List.mem_append,List.mem_singleton] at hx
  rcases hx with hx | rfl
  ·exact lessS_trans (a1 x hx) (a2 y hy)
  ·exact a2 y hy
theorem riseS_uniq:∀ {a b:List ByteArray},RiseS a→RiseS b→(∀ x,x ∈ a↔x ∈ b)→a=b:=by
 have main:∀ a b:List ByteArray,a.Pairwise (fun a b=>lessS a b=true)→b.Pairwise (fun a b=>lessS a b=true)→(∀ x,x ∈ a↔x ∈ b)→a=b:=by
  intro a
  induction a with
  | nil=>
   intro b _ _ h
   cases b with
   | nil=>rfl
   | cons y t=>exact absurd ((h y).2 (List.mem_cons_self ..)) (by simp)
  | cons x t ih=>
   intro b ha hb h
   cases b with
   | nil=>exact absurd ((h x).1 (List.mem_cons_self ..)) (by simp)
   | cons y u=>
    rw[List.pairwise_cons] at ha hb
    have e:x=y:=by
     rcases List.mem_cons.1 ((h x).1 (List.mem_cons_self ..)) with e | e
     ·exact e
     ·rcases List.mem_cons.1 ((h y).2 (List.mem_cons_self ..)) with e2 | e2
      ·exact e2.symm
      ·have:=lessS_trans (hb.1 x e) (ha.1 y e2)
       rw[lessS_irrefl] at this
       cases this
    subst e
    congr 1
    refine ih u ha.2 hb.2 fun z=>⟨fun hz=>?_,fun hz=>?_⟩
    ·rcases List.mem_cons.1 ((h z).1 (List.mem_cons_of_mem _ hz)) with e | e
     ·subst e
      have:=ha.1 z hz
      rw[lessS_irrefl] at this
      cases this
     ·exact e
    ·rcases List.mem_cons.1 ((h z).2 (List.mem_cons_of_mem _ hz)) with e | e
     ·subst e
      have:=hb.1 z hz
      rw[lessS_irrefl] at this
      cases this
     ·exact e
 intro a b ha hb h
 exact main a b (riseS_pw.1 ha) (riseS_pw.1 hb) h
theorem s_flat:Flat Kd.string (fun s=>[Value.string s]) 1:=⟨rfl,fun h=>h,fun x=>rfl,fun _=>rfl,fun x u hu=>by
 simp only[List.mem_cons,List.not_mem_nil,or_false] at hu
 subst hu
 rfl⟩
def FindW (m:Nat) (w:World) (e:Ending) (w':World):Prop:=∃ (n:Nat) (b:Value),e = .returned (.tuple #[.int .i64 n,b])∧n≤m∧w=w'
set_option maxRecDepth 100000 in
theorem ref_FindS (A:Option Addr) (c:Nat) (d:List ByteArray) (s:ByteArray) (w:World) (h:Kd.string.C w A d.length d) (hl:d.length≤1099511627776) :
  Calls Tryz.prog 119 #[.slice A d.length c,.string s] w (FindW d.length w):=by
 have HC:=mk0 h
 clear h
 go_enter Tryz.func119,Tryz.ntmps119
 go_wp2_with fail
 go_loopw[6] (fun v6 wr=>∃ k:Nat,k≤d.length∧v6 = .int .i64 k∧wr=w) (fun i _=>d.length-(intOf i).toNat)
 case atStart=>exact ⟨0,by omega,rfl,rfl⟩
 case round=>
  obtain ⟨k,hk,rfl,rfl⟩:=hrel
  by_cases hlt:k<d.length
  ·have hlt2:(k:Int)<d.length:=by omega
   obtain ⟨b,o,rfl,hx⟩:=str_open HC.out (by omega)
   have x0:=hx k hlt
   clear hx
   generalize d[k]=y at *
   by_cases e:y=s
   ·subst e
    go_wp2
    go_ret2
    exact ⟨k,.bool true,rfl,by omega,rfl⟩
   ·have e1:(y.toList==s.toList)=false:=by rw[beq_eq_false_iff_ne];exact fun h=>e (toList_inj h)
    go_wp2
    go_roundw
    case rel=>exact ⟨k+1,by omega,by go_num,trivial⟩
    case measure=>simp[intOf];omega
  ·have hlt2:¬ (k:Int)<d.length:=by omega
   go_wp2
   go_ret2
   exact ⟨0,.bool false,rfl,by omega,rfl⟩
structure GS (W V:World) (v:Value) (xs:List ByteArray):Prop where
 R:Kd.string.R 9 V W.heap.size (fun _=>True) v xs
 B:Below W.heap.size W V
theorem GS.alloc {W V:World} {v:Value} {xs:List ByteArray} (h:GS W V v xs) (o:Obj):GS W (V.alloc o) v xs:=⟨Kd.R_alloc h.R o,h.B.trans ((below_alloc (Below.refl _ _) o).mono h.B.size)⟩
def EmpS (W V:World) (z:Value):Prop:=∃ b,z = .slice (some ⟨b,0,none⟩) 0 0∧V.heap[b]?=some (.cells #[] 9 (0,0))∧W.heap.size≤b∧Below W.heap.size W V
theorem EmpS.new {W V:World} {b:Nat} (h:Below W.heap.size W V) (hb:b=V.heap.size):EmpS W (V.alloc (.cells #[] 9)) (.slice (some ⟨b,0,none⟩) 0 0):=by
 subst hb
 exact ⟨_,rfl,heap_alloc_new V _,h.size,h.trans ((below_alloc (Below.refl _ _) _).mono h.size)⟩
theorem EmpS.alloc {W V:World} {z:Value} (h:EmpS W V z) (o:Obj):EmpS W (V.alloc o) z:=by
 obtain ⟨b,h1,h2,h3,h4⟩:=h
 exact ⟨b,h1,(heap_alloc_old V o (Array.getElem?_eq_some_iff.1 h2).1).trans h2,h3,h4.trans ((below_alloc (Below.refl _ _) o).mono h4.size)⟩
theorem EmpS.drew {W V:World} {z:Value} (h:EmpS W V z):EmpS W V.drew z:=by
 obtain ⟨b,h1,h2,h3,h4⟩:=h
 exact ⟨b,h1,h2,h3,h4.trans (below_drew _ _)⟩
def PenS (V:World) (z:Value) (x:ByteArray):Prop:=∃ b,z = .slice (some ⟨b,0,none⟩) 1 1∧V.heap[b]?=some (.cells #[.string x] 9 (0,0))
theorem PenS.new {V:World} {b:Nat} {x:ByteArray} (hb:b=V.heap.size):PenS (V.alloc (.cells #[.string x] 9)) (.slice (some ⟨b,0,none⟩) 1 1) x:=by
 subst hb
 exact ⟨_,rfl,heap_alloc_new V _⟩
theorem PenS.drew {V:World} {z:Value} {x:ByteArray} (h:PenS V z x):PenS V.drew z x:=h
theorem PenS.alloc {V:World} {z:Value} {x:ByteArray} (h:PenS V z x) (o:Obj):PenS (V.alloc o) z x:=by
 obtain ⟨b,h1,h2⟩:=h
 exact ⟨b,h1,(heap_alloc_old V o (Array.getElem?_eq_some_iff.1 h2).1).trans h2⟩
def PutW (d:List ByteArray) (s:ByteArray) (base:Nat) (w:World) (e:Ending) (w':World):Prop:=
 ∃ g c d',e = .returned (.slice (some ⟨g,0,none⟩) (List.length d') c)∧0<d'.length∧RiseS d'∧(∀ x,x ∈ d'↔x ∈ d∨x=s)∧d'.length≤d.length+1∧Kd.string.R 9 w' base (fun _=>True) (.slice (some ⟨g,0,none⟩) d'.length c) d'∧Below base w w'
set_option maxHeartbeats 1600000 in
set_option maxRecDepth 100000 in
theorem ref_put1 (g c:Nat) (d:List ByteArray) (s:ByteArray) (w:World) (base:Nat) (hb:base≤w.heap.size) (h:Kd.string.R 9 w base (fun _=>True) (.slice (some ⟨g,0,none⟩) d.length c) d) (hr:RiseS d) (hl:d.length≤1048576) (h0:0<d.length) :
  Calls Tryz.prog 118 #[.slice (some ⟨g,0,none⟩) d.length c,.string s] w (PutW d s base w):=by
 have HRR:=mk0 h
 have HC:=mk0 (Kd.R_reads' h).2.2
 have hlc:=(Kd.R_reads' h).2.1
 have HRI:=mk0 hr
 have HBA:=mk0 hb
 clear h hr hb
 go_enter Tryz.func118,Tryz.ntmps118
 go_wp2_with fail
 go_loopw[5] (fun v5 wr=>∃ m:Nat,m≤d.length∧v5 = .int .i64 m∧Aside0 (∀ q (hq:q<d.length),q<m→lessS d[q] s=true)∧w=wr) (fun n _=>d.length-(intOf n).toNat)
 case atStart=>exact ⟨0,by omega,rfl,⟨fun q hq h0=>by omega⟩,rfl⟩
 case round=>
  obtain ⟨m,hm,rfl,HGM,rfl⟩:=hrel
  by_cases hlt:m<d.length
  ·have hmi:(m:Int)<d.length:=by omega
   obtain ⟨b4,o4,e4,hx4⟩:=str_open HC.out (by omega)
   cases e4
   have q0:=hx4 m hlt
   rw[Nat.zero_add] at q0
   clear hx4
   cases hv:lessS d[m] s with
   | true=>
    have HGM2:=mk0 (show ∀ q (hq:q<d.length),q<m+1→lessS d[q] s=true from fun q hq h1=>by
     by_cases hqm:q=m
     ·subst hqm;exact hv
     ·exact HGM.out q hq (by omega))
    have hv2:Op.bytesLess d[m].toList s.toList=true:=hv
    clear hv HGM
    generalize d[m]=y at *
    go_wp2
    go_roundw
    case rel=>exact ⟨m+1,by omega,by go_num,HGM2,trivial⟩
    case measure=>simp[intOf];omega
   | false=>
    have hv2:Op.bytesLess d[m].toList s.toList=false:=hv
    have H1:=mk0 hv
    by_cases e:d[m]=s
    ·have e1:(d[m].toList==s.toList)=true:=by rw[beq_iff_eq,e]
     have HS:=mk0 (show s ∈ d from e ▸ List.getElem_mem hlt)
     clear hv HGM e H1
     generalize d[m]=y at *
     go_wp2
     go_ret
     exact ⟨g,c,d,rfl,h0,HRI.out,fun x=>⟨.inl,fun h=>h.elim id (fun e=>e ▸ HS.out)⟩,by omega,HRR.out,Below.refl _ _⟩
    ·have e1:(d[m].toList==s.toList)=false:=by rw[beq_eq_false_iff_ne];exact fun h=>e (toList_inj h)
     have HNEW:=mk0 (insS_rise HRI.out m s hm HGM.out (fun _=>⟨hv,e⟩))
     obtain ⟨y,hy⟩:∃ y,y=d[m]:=⟨_,rfl⟩
     rw[← hy] at q0 hv2 e1
     clear hv e hy H1
     have HB0:=mk0 (below_alloc (Below.refl w.heap.size w) (.cells #[] 9))
     have HR0:=mk0 (show Kd.string.R 9 (w.alloc (.cells #[] 9)) w.heap.size (fun _=>True) (.slice (some ⟨w.heap.size,0,none⟩) 0 0) [] from s_flat.R_new (xs:=[]) (Nat.le_refl _) (heap_alloc_new w _) (Nat.le_refl _) (by unfold maxLen;omega) (by simp) (by simp[flatF]))
     have hmi2:(m:Int)≤d.length:=by omega
     have hmc:(m:Int)≤c:=by omega
     have HTL:=mk0 (show (d.take m).length=m by rw[List.length_take];omega)
     have HCT:=mk0 (show Kd.string.C (w.alloc (.cells #[] 9)) (some ⟨g,0,none⟩) (d.take m).length (d.take m) from Kd.C_take (Kd.C_below HC.out HB0.out) hm)
     have HLI:=mk0 (insS_len d m s hm)
     go_wp2_with (at_builtin;go_loud (refine s_flat.append_rows w.heap.size rfl (.tmp 34) (.tmp 37) 126 9 _ 16 rfl Tryz.underlying126 info_str rfl (by decide) (by decide) _ [] (d.take m) ⟨g,0,none⟩ m _ m (by simp) rfl rfl HTL.out HCT.out HR0.out HB0.out.size (by simp;omega) ?_))
     intro A3 c3 w4 hr hb hg
     (try rw[List.nil_append] at hr)
     have HR4:=mk0 hr
     have HB4:=mk0 (HB0.out.trans hb)
     have HL4:=mk0 (show (d.take m).length≤1099511627776 by rw[HTL.out];omega)
     clear hr hb hg HR0 HB0 HCT
     go_wp2_with (at_builtin;go_loud (refine str_append (W:=w4) (.tmp 38) (.tmp 40) 126 9 (.slice A3 m c3) (d.take m) s w.heap.size rfl rfl Tryz.underlying126 info_str rfl rfl HR4.out HB4.out.size HL4.out ?_))
     intro v5 w5 hr5 hb5 hg5 ha5
     obtain ⟨A5,c5,e5⟩:=Kd.R_slice hr5
     rw[List.length_append,HTL.out] at e5
     subst e5
     have HR5:=mk0 hr5
     have HB5:=mk0 (HB4.out.trans hb5)
     clear hr5 hb5 hg5 ha5 HR4 HB4 HL4
     have HCD:=mk0 (show Kd.string.C w5 (some ⟨g,m,none⟩) (d.drop m).length (d.drop m) from by
      have h:=Kd.C_drop (c:=c) (m:=m) HC.out hm hlc
      rw[if_neg (by omega)] at h
      have e:(⟨g,0,none⟩:Addr).add (m*Kd.string.sz)=⟨g,m,none⟩:=by rw[show m*Kd.string.sz=m from Nat.mul_one m,Addr.add_lit,Nat.zero_add]
      rw[Option.map_some,e] at h
      exact Kd.C_below h HB5.out)
     go_wp2_with (at_builtin;go_loud (refine s_flat.append_rows w.heap.size rfl (.tmp 42) (.tmp 45) 126 9 _ 16 rfl Tryz.underlying126 info_str rfl (by decide) (by decide) _ (d.take m++[s]) (d.drop m) ⟨g,m,none⟩ (d.length-m) _ (d.length+1) (by rw[List.length_append,HTL.out,List.length_singleton];omega) rfl rfl List.length_drop HCD.out HR5.out HB5.out.size (by rw[List.length_append,HTL.out,List.length_singleton];omega) ?_))
     intro A7 c7 w7 hr7 hb7 hg7
     have HR7:=mk0 (show Kd.string.R 9 w7 w.heap.size (fun _=>True) (.slice A7 (insS d m s).length c7) (insS d m s) by
      have e:insS d m s=d.take m++s :: d.drop m:=by unfold insS;rw[List.append_assoc];rfl
      rw[HLI.out]
      first | exact hr7 | (rw[e];exact hr7))
     have HB7:=mk0 (HB5.out.trans hb7)
     clear hr7 hb7 hg7 HR5 HB5 HCD
     have HI0:=mk0 (show 0<(insS d m s).length by rw[HLI.out];omega)
     obtain ⟨g7,cap7,cur7,hv7,_,_,_⟩:=s_flat.R_open HR7.out HI0.out
     injection hv7 with hv7a _ hv7c
     subst hv7a hv7c
     rw[← HLI.out]
     go_wp2
     go_ret
     exact ⟨g7,c7,insS d m s,rfl,HI0.out,HNEW.out,insS_mem d m s,by rw[HLI.out];omega,Kd.R_lower HR7.out HBA.out,HB7.out.mono HBA.out⟩
  ·have hmi:¬ (m:Int)<d.length:=by omega
   have HNEW:=mk0 (insS_rise HRI.out m s hm HGM.out (fun h=>absurd h hlt))
   have HB0:=mk0 (below_alloc (Below.refl w.heap.size w) (.cells #[] 9))
   have HR0:=mk0 (show Kd.string.R 9 (w.alloc (.cells #[] 9)) w.heap.size (fun _=>True) (.slice (some ⟨w.heap.size,0,none⟩) 0 0) [] from s_flat.R_new (xs:=[]) (Nat.le_refl _) (heap_alloc_new w _) (Nat.le_refl _) (by unfold maxLen;omega) (by simp) (by simp[flatF]))
   have hmi2:(m:Int)≤d.length:=by omega
   have hmc:(m:Int)≤c:=by omega
   have HTL:=mk0 (show (d.take m).length=m by rw[List.length_take];omega)
   have HCT:=mk0 (show Kd.string.C (w.alloc (.cells #[] 9)) (some ⟨g,0,none⟩) (d.take m).length (d.take m) from Kd.C_take (Kd.C_below HC.out HB0.out) hm)
   have HLI:=mk0 (insS_len d m s hm)
   go_wp2_with (at_builtin;go_loud (refine s_flat.append_rows w.heap.size rfl (.tmp 34) (.tmp 37) 126 9 _ 16 rfl Tryz.underlying126 info_str rfl (by decide) (by decide) _ [] (d.take m) ⟨g,0,none⟩ m _ m (by simp) rfl rfl HTL.out HCT.out HR0.out HB0.out.size (by simp;omega) ?_))
   intro A3 c3 w4 hr hb hg
   (try rw[List.nil_append] at hr)
   have HR4:=mk0 hr
   have HB4:=mk0 (HB0.out.trans hb)
   have HL4:=mk0 (show (d.take m).length≤1099511627776 by rw[HTL.out];omega)
   clear hr hb hg HR0 HB0 HCT
   go_wp2_with (at_builtin;go_loud (refine str_append (W:=w4) (.tmp 38) (.tmp 40) 126 9 (.slice A3 m c3) (d.take m) s w.heap.size rfl rfl Tryz.underlying126 info_str rfl rfl HR4.out HB4.out.size HL4.out ?_))
   intro v5 w5 hr5 hb5 hg5 ha5
   obtain ⟨A5,c5,e5⟩:=Kd.R_slice hr5
   rw[List.length_append,HTL.out] at e5
   subst e5
   have HR5:=mk0 hr5
   have HB5:=mk0 (HB4.out.trans hb5)
   clear hr5 hb5 hg5 ha5 HR4 HB4 HL4
   have HCD:=mk0 (show ∀ ad,Kd.string.C w5 (some ad) (d.drop m).length (d.drop m) from fun ad=>by
    rw[List.drop_eq_nil_of_le (by omega)]
    exact ⟨rfl,by simp,fun h=>absurd h (by simp)⟩)
   by_cases hcm:c=m
   ·obtain rfl:m=c:=hcm.symm
    go_wp2_with (at_builtin;go_loud (refine s_flat.append_rows w.heap.size rfl (.tmp 42) (.tmp 45) 126 9 _ 16 rfl Tryz.underlying126 info_str rfl (by decide) (by decide) _ (d.take m++[s]) (d.drop m) ⟨g,0,none⟩ 0 _ (d.length+1) (by rw[List.length_append,HTL.out,List.length_singleton];omega) rfl rfl (by rw[List.length_drop];omega) (HCD.out _) HR5.out HB5.out.size (by rw[List.length_append,HTL.out,List.length_singleton];omega) ?_))
    intro A7 c7 w7 hr7 hb7 hg7
    have HR7:=mk0 (show Kd.string.R 9 w7 w.heap.size (fun _=>True) (.slice A7 (insS d m s).length c7) (insS d m s) by
     have e:insS d m s=d.take m++s :: d.drop m:=by unfold insS;rw[List.append_assoc];rfl
     rw[HLI.out]
     first | exact hr7 | (rw[e];exact hr7))
    have HB7:=mk0 (HB5.out.trans hb7)
    clear hr7 hb7 hg7 HR5 HB5 HCD
    have HI0:=mk0 (show 0<(insS d m s).length by rw[HLI.out];omega)
    obtain ⟨g7,cap7,cur7,hv7,_,_,_⟩:=s_flat.R_open HR7.out HI0.out
    injection hv7 with hv7a _ hv7c
    subst hv7a hv7c
    rw[← HLI.out]
    go_wp2
    go_ret
    exact ⟨g7,c7,insS d m s,rfl,HI0.out,HNEW.out,insS_mem d m s,by rw[HLI.out];omega,Kd.R_lower HR7.out HBA.out,HB7.out.mono HBA.out⟩
   ·go_wp2_with (at_builtin;go_loud (refine s_flat.append_rows w.heap.size rfl (.tmp 42) (.tmp 45) 126 9 _ 16 rfl Tryz.underlying126 info_str rfl (by decide) (by decide) _ (d.take m++[s]) (d.drop m) ⟨g,m,none⟩ (d.length-m) _ (d.length+1) (by rw[List.length_append,HTL.out,List.length_singleton];omega) rfl rfl List.length_drop (HCD.out _) HR5.out HB5.out.size (by rw[List.length_append,HTL.out,List.length_singleton];omega) ?_))
    intro A7 c7 w7 hr7 hb7 hg7
    have HR7:=mk0 (show Kd.string.R 9 w7 w.heap.size (fun _=>True) (.slice A7 (insS d m s).length c7) (insS d m s) by
     have e:insS d m s=d.take m++s :: d.drop m:=by unfold insS;rw[List.append_assoc];rfl
     rw[HLI.out]
     first | exact hr7 | (rw[e];exact hr7))
    have HB7:=mk0 (HB5.out.trans hb7)
    clear hr7 hb7 hg7 HR5 HB5 HCD
    have HI0:=mk0 (show 0<(insS d m s).length by rw[HLI.out];omega)
    obtain ⟨g7,cap7,cur7,hv7,_,_,_⟩:=s_flat.R_open HR7.out HI0.out
    injection hv7 with hv7a _ hv7c
    subst hv7a hv7c
    rw[← HLI.out]
    go_wp2
    go_ret
    exact ⟨g7,c7,insS d m s,rfl,HI0.out,HNEW.out,insS_mem d m s,by rw[HLI.out];omega,Kd.R_lower HR7.out HBA.out,HB7.out.mono HBA.out⟩
section
variable {P:Program} {ops:Array Oper} {rest:List Oper} {o:Oper} {a:Act} {Q:Exit→Act→World→Prop}
theorem str_append_b {W:World} (b:Nat) (hb:b=W.heap.size) (s x:Operand) (t e:TypeId) (v:Value) (xs:List ByteArray) (p:ByteArray) (base:Nat)
  (hgd:o.guard=none) (ho:o.op = .call { callee:=.builtin .append,args:=#[s,x],argTypes:=#[t,t] })
  (ht:P.underlying t=some (.slice e)) (hinfo:(P.info? e).map (fun i=>(i.zero,i.size,i.bytes))=some (some (.string ByteArray.empty),1,16))
  (hs:a.eval s=v) (hx:a.eval x = .slice (some ⟨b,0,none⟩) 1 1)
  (HO:Kd.string.R e W base (fun _=>True) v xs) (hbase:base≤W.heap.size) (hl:xs.length≤1099511627776)
  (h:∀ v1 w1,Kd.string.R e w1 base (fun _=>True) v1 (xs++[p])→Below base W w1→wpList P ops Q rest (a.put o.dst v1) w1) :
  wpList P ops Q (o :: rest) a (W.alloc (.cells #[.string p] e)):=by
 subst hb
 exact str_append s x t e v xs p base hgd ho ht hinfo hs hx HO hbase hl fun v1 w1 h1 h2 _ _=>h v1 w1 h1 h2
end
set_option maxHeartbeats 1600000 in
set_option maxRecDepth 100000 in
theorem ref_put0 (s:ByteArray) (w:World) (base:Nat) (hb:base≤w.heap.size) :
  Calls Tryz.prog 118 #[.slice none 0 0,.string s] w (PutW [] s base w):=by
 have HBA:=mk0 hb
 clear hb
 go_enter Tryz.func118,Tryz.ntmps118
 go_wp2_with fail
 go_loopw[5] (fun v5 wr=>v5 = .int .i64 0∧w=wr) (fun n _=>0)
 case atStart=>exact ⟨rfl,rfl⟩
 case round=>
  obtain ⟨rfl,rfl⟩:=hrel
  have HB0:=mk0 (below_alloc (Below.refl w.heap.size w) (.cells #[] 9))
  have HR0:=mk0 (show Kd.string.R 9 (w.alloc (.cells #[] 9)) w.heap.size (fun _=>True) (.slice (some ⟨w.heap.size,0,none⟩) 0 0) [] from s_flat.R_new (xs:=[]) (Nat.le_refl _) (heap_alloc_new w _) (Nat.le_refl _) (by unfold maxLen;omega) (by simp) (by simp[flatF]))
  obtain ⟨i,hi,_⟩:=Option.map_eq_some_iff.1 info_str
  have HIC:=mk0 hi
  clear hi
  have HL4:=mk0 (show ([]:List ByteArray).length≤1099511627776 by simp)
  go_wp2_with (at_builtin;go_loud (first
   | refine append_none rfl (.tmp 34) (.tmp 37) 126 9 rfl Tryz.underlying126 i HIC.out _ 0 0 0 rfl (Nat.le_refl _) rfl ?_
   | refine str_append_b (W:=w.alloc (.cells #[] 9)) (w.heap.size+1) (by simp) (.tmp 38) (.tmp 40) 126 9 _ [] s w.heap.size rfl rfl Tryz.underlying126 info_str rfl rfl HR0.out HB0.out.size HL4.out ?_))
  intro v5 w5 hr5 hb5
  (try rw[List.nil_append] at hr5)
  obtain ⟨g,c5,cur5,e5,_,_,_⟩:=s_flat.R_open hr5 (by simp)
  rw[List.length_singleton] at e5
  subst e5
  have hcap:1≤c5:=(Kd.R_reads' hr5).2.1
  have HCA:=mk0 hcap
  have HR5:=mk0 hr5
  have HB5:=mk0 (HB0.out.trans hb5)
  clear hr5 hb5 HR0 HB0 HL4 hcap
  go_wp2_with (at_builtin;go_loud (refine append_none rfl (.tmp 42) (.tmp 45) 126 9 rfl Tryz.underlying126 i HIC.out _ 1 c5 0 rfl HCA.out rfl ?_))
  go_wp2
  go_ret
  exact ⟨g,c5,[s],rfl,by simp,riseS_pw.2 (List.pairwise_singleton _ _),fun x=>by simp,by simp,Kd.R_lower HR5.out HBA.out,HB5.out.mono HBA.out⟩
def SlS (v:Value) (d:List ByteArray):Prop:=(v = .slice none 0 0∧d = [])∨∃ g c,v = .slice (some ⟨g,0,none⟩) d.length c∧0<d.length
theorem ref_put (v:Value) (d:List ByteArray) (s:ByteArray) (w:World) (base:Nat) (hb:base≤w.heap.size) (h:Kd.string.R 9 w base (fun _=>True) v d) (hv:SlS v d) (hr:RiseS d) (hl:d.length≤1048576) :
  Calls Tryz.prog 118 #[v,.string s] w (PutW d s base w):=by
 rcases hv with ⟨rfl,rfl⟩ | ⟨g,c,rfl,h0⟩
 ·exact ref_put0 s w base hb
 ·exact ref_put1 g c d s w base hb h hr hl h0
def Dic7 (d:List ByteArray) (w:World) (e:Ending) (w':World):Prop:=∃ v z,e = .returned (.tuple #[v,z])∧Kd.string.R 9 w' w.heap.size (fun _=>True) v d∧Below w.heap.size w w'
set_option maxHeartbeats 1600000 in
set_option maxRecDepth 100000 in
theorem ref_Build7 (A:Option Addr) (c:Nat) (l:List ByteArray) (w:World) (h:Kd.string.C w A l.length l) (hl:l.length≤65536) :
  Calls Tryz.prog 89 #[.slice A l.length c] w (Dic7 (dictL l) w):=by
 have HC:=mk0 h
 have HR0:=mk0 (Kd.R_nil Kd.string 9 w w.heap.size (fun _=>True))
 have HB0:=mk0 (Below.refl w.heap.size w)
 clear h
 go_enter Tryz.func89,Tryz.ntmps89
 go_wp2_with fail
 go_loopw[4,5] (fun v4 v5 wr=>∃ (k:Nat) (d:List ByteArray),k≤l.length∧v5 = .int .i64 k∧Aside0 (SlS v4 d)∧Aside0 (RiseS d)∧Aside0 (∀ x,x ∈ d↔x ∈ l.take k)∧Aside0 (d.length≤k)∧Aside0 (Kd.string.R 9 wr w.heap.size (fun _=>True) v4 d)∧Aside0 (Below w.heap.size w wr)) (fun _ n _=>l.length-(intOf n).toNat)
 case atStart=>exact ⟨0,[],by omega,rfl,⟨.inl ⟨rfl,rfl⟩⟩,⟨riseS_pw.2 List.Pairwise.nil⟩,⟨by simp⟩,⟨by simp⟩,HR0,HB0⟩
 case round=>
  clear HR0 HB0
  obtain ⟨k,d,hk,rfl,HV,HRI,HM,HLN,HRR,HB⟩:=hrel
  by_cases hlt:k<l.length
  ·have hlt2:(k:Int)<l.length:=by omega
   obtain ⟨b,o,rfl,hx⟩:=str_open (Kd.C_below HC.out HB.out) (by omega)
   have x0:=hx k hlt
   clear hx
   have HNX:=mk0 (show l.take (k+1)=l.take k++[l[k]] from take_next l k hlt)
   obtain ⟨y,hy⟩:∃ y,y=l[k]:=⟨_,rfl⟩
   rw[← hy] at x0 HNX
   clear hy
   have HPU:=mk0 (ref_put u4 d y wr w.heap.size HB.out.size HRR.out HV.out HRI.out (by have:=HLN.out;omega))
   go_wp2_with fail
   (with_reducible refine HPU.out.mono ?_)
   rintro e w5 ⟨g5,c5,d5,rfl,hp5,hri5,hm5,hl5,hr5,hb5⟩
   have HV5:=mk0 (show SlS (.slice (some ⟨g5,0,none⟩) d5.length c5) d5 from .inr ⟨g5,c5,rfl,hp5⟩)
   have HRI5:=mk0 hri5
   have HM5:=mk0 (show ∀ x,x ∈ d5↔x ∈ l.take (k+1) from fun x=>by
    rw[hm5 x,HM.out x,HNX.out,List.mem_append,List.mem_singleton])
   have HLN5:=mk0 (show d5.length≤k+1 by have:=HLN.out;omega)
   have HR5:=mk0 hr5
   have HB5:=mk0 (HB.out.trans hb5)
   clear hp5 hri5 hm5 hl5 hr5 hb5 HPU HV HRI HM HLN HRR HB HNX
   go_wp2
   go_roundw
   case rel=>exact ⟨k+1,d5,by omega,by go_num,HV5,HRI5,HM5,HLN5,HR5,HB5⟩
   case measure=>simp[intOf];omega
  ·have hlt2:¬ (k:Int)<l.length:=by omega
   have hd:d=dictL l:=riseS_uniq HRI.out (dictL_spec l).1 fun x=>by
    rw[HM.out x,List.take_of_length_le (by omega),(dictL_spec l).2 x]
   have HLD:=mk0 (show d.length≤1099511627776 by have:=HLN.out;omega)
   have HD:=mk0 hd
   clear hd
   obtain ⟨A4,c4,rfl⟩:=Kd.R_slice HRR.out
   have HI0:=mk0 (Kd.R_nil (Kd.int .i64) 3 wr wr.heap.size (fun _=>True))
   have HW0:=mk0 (Below.refl wr.heap.size wr)
   clear HV HRI HM HLN
   go_wp2_with fail
   generalize wr=w1 at *
   go_loopw[6,7] (fun v6 v7 wr=>∃ (k:Nat) (is:List Int),k≤l.length∧v7 = .int .i64 k∧Aside0 (is.length=k)∧Aside0 ((Kd.int .i64).R 3 wr w1.heap.size (fun _=>True) v6 is)∧Aside0 (Below w1.heap.size w1 wr)) (fun _ n _=>l.length-(intOf n).toNat)
   case atStart=>exact ⟨0,[],by omega,rfl,⟨rfl⟩,HI0,HW0⟩
   case round=>
    clear HI0 HW0
    obtain ⟨k,is,hk,rfl,HIL,HIR,HWB⟩:=hrel
    have HBT:=mk0 (HB.out.trans (HWB.out.mono HB.out.size))
    by_cases hlt:k<l.length
    ·have hlt2:(k:Int)<l.length:=by omega
     obtain ⟨b,o,rfl,hx⟩:=str_open (Kd.C_below HC.out HBT.out) (by omega)
     have x0:=hx k hlt
     clear hx
     generalize l[k]=y at *
     have HFI:=mk0 (ref_FindS A4 c4 d y wr (Kd.C_below (Kd.R_reads' HRR.out).2.2 HWB.out) HLD.out)
     have HL6:=mk0 (show is.length≤1099511627776 by have:=HIL.out;omega)
     go_wp2_with fail
     (with_reducible refine HFI.out.mono ?_)
     rintro e w5 ⟨n,bv,rfl,hn,rfl⟩
     clear HFI
     go_wp2_with (at_builtin;go_loud (refine int_append (W:=wr) (.tmp 37) (.tmp 39) 145 3 u6 is n w1.heap.size rfl rfl Tryz.underlying145 info_int rfl rfl HIR.out HWB.out.size HL6.out ?_))
     intro v8 w8 hr8 hb8 hg8 ha8
     have HR8:=mk0 hr8
     have HB8:=mk0 (HWB.out.trans hb8)
     have HN8:=mk0 (show (is++[(n:Int)]).length=k+1 by rw[List.length_append,HIL.out,List.length_singleton])
     clear hr8 hb8 hg8 ha8 HIR HWB HBT HL6
     go_wp2
     go_roundw
     case rel=>exact ⟨k+1,_,by omega,by go_num,HN8,HR8,HB8⟩
     case measure=>simp[intOf];omega
    ·have hlt2:¬ (k:Int)<l.length:=by omega
     have HRF:=mk0 (Kd.R_below HRR.out HWB.out)
     go_wp2
     go_ret2
     rw[← HD.out]
     exact ⟨_,_,rfl,HRF.out,HBT.out⟩
end Go.Proofs.YtcmffaejcnbheaaGreat.Lib0
namespace Go.Proofs.YtcmffaejcnbheaaGreat.Lib0
open Go.RowKit Go.Proofs.YtcmffaejcnbheaaGreatW.PrintWords Go.ChangeMaps
set_option maxHeartbeats 1600000 in
set_option maxRecDepth 100000 in
theorem ref_Fnv (s:ByteArray) (hs:s.size≤1099511627776) (w:World) :
  Calls Tryz.prog 120 #[.string s] w fun e w'=>e = .returned (.int .u64 (fnv s))∧w=w':=by
 obtain ⟨r,hr⟩:∃ r,r=fnv s:=⟨_,rfl⟩
 rw[← hr]
 have HR:=mk0 hr
 clear hr
 go_enter Tryz.func120,Tryz.ntmps120
 go_wp2_with fail
 go_loopw[3,4] (fun v3 v7 wr=>∃ (k:Nat) (h:Int),k≤s.size∧v7 = .int .i64 k∧v3 = .int .u64 h∧Aside0 (r=fnvF s (s.size-k) k h)∧wr=w) (fun _ i _=>s.size-(intOf i).toNat)
 case atStart=>exact ⟨0,14695981039346656037,by omega,rfl,rfl,HR,rfl⟩
 case round=>
  clear HR
  obtain ⟨k,h,hk,rfl,rfl,HE,rfl⟩:=hrel
  by_cases hlt:k<s.size
  ·have hlt2:(k:Int)<s.size:=by omega
   have HE2:=mk0 (show r=fnvF s (s.size-(k+1)) (k+1) (IntKind.u64.wrap (Go.bits BinOp.xor IntKind.u64 h (IntKind.u64.wrap (s[k].toNat:Int))*1099511628211)) by
    rw[HE.out,show s.size-k=(s.size-(k+1))+1 by omega,fnvF,dif_pos hlt])
   clear HE
   go_wp2
   go_roundw
   case rel=>exact ⟨k+1,_,by omega,by go_num,rfl,HE2,by first | rfl | trivial⟩
   case measure=>simp[intOf];omega
  ·have hlt2:¬ (k:Int)<s.size:=by omega
   have HS:=mk0 (show r=h by rw[HE.out,show s.size-k=0 by omega];rfl)
   go_wp2
   go_ret
   exact ⟨by rw[HS.out];rfl,rfl⟩
def spotC (z n:Int) (k:Nat):List Value:=(List.range 4).map fun j=>.int .i64 (if j<k then spotV z n j else 0)
theorem spotC_set (z n:Int) (k:Nat) (h:k<4):(spotC z n k).toArray.setIfInBounds k (.int .i64 (spotV z n k))=(spotC z n (k+1)).toArray:=by
 rcases k with _ | _ | _ | _ | k
 ·rfl
 ·rfl
 ·rfl
 ·rfl
 ·omega
theorem spotC_get (z n:Int) (k j:Nat) (h:j<4):(spotC z n k)[j]?=some (.int .i64 (if j<k then spotV z n j else 0)):=by
 unfold spotC
 rw[List.getElem?_map,List.getElem?_range h]
 rfl
set_option maxHeartbeats 1600000 in
set_option maxRecDepth 100000 in
theorem ref_bits (s:ByteArray) (n:Int) (hn:0<n∧n≤1099511627776) (hs:s.size≤1099511627776) (w:World) :
  Calls Tryz.prog 90 #[.string s,.int .i64 n] w fun e w'=>e = .returned (.agg (spotC (fnv s) n 4).toArray)∧Below w.heap.size w w':=by
 have HF:=mk0 (fun W=>ref_Fnv s hs W)
 generalize fnv s=z at *
 have hnw:IntKind.u64.wrap n=n:=by rw[IntKind.wrap_u64];omega
 have hn0:¬ n=0:=by omega
 have hnb:(n==0)=false:=by rw[beq_eq_false_iff_ne];omega
 go_enter Tryz.func90,Tryz.ntmps90
 go_wp2_with fail
 refine (HF.out _).mono ?_
 rintro e w1 ⟨rfl,rfl⟩
 go_wp2_with fail
 obtain ⟨W0,hW0⟩:∃ W,W=w.alloc (.cells #[.int .i64 0,.int .i64 0,.int .i64 0,.int .i64 0] 170):=⟨_,rfl⟩
 have hn0:=heap_alloc_new w (.cells #[.int .i64 0,.int .i64 0,.int .i64 0,.int .i64 0] 170)
 have hb0:=below_alloc (Below.refl w.heap.size w) (.cells #[.int .i64 0,.int .i64 0,.int .i64 0,.int .i64 0] 170)
 have hs0:(w.alloc (.cells #[.int .i64 0,.int .i64 0,.int .i64 0,.int .i64 0] 170)).heap.size=w.heap.size+1:=by simp
 rw[← hW0] at hn0 hb0 hs0 ⊢
 clear hW0
 obtain ⟨W1,hW1⟩:∃ W,W=W0.alloc (.cells #[.int .i64 0,.int .i64 0,.int .i64 0,.int .i64 0] 170):=⟨_,rfl⟩
 have hn1:=heap_alloc_new W0 (.cells #[.int .i64 0,.int .i64 0,.int .i64 0,.int .i64 0] 170)
 have hm0:=(heap_alloc_old W0 (.cells #[.int .i64 0,.int .i64 0,.int .i64 0,.int .i64 0] 170) (by omega:w.heap.size<W0.heap.size)).trans hn0
 have hb1:=hb0.trans ((below_alloc (Below.refl W0.heap.size W0) (.cells #[.int .i64 0,.int .i64 0,.int .i64 0,.int .i64 0] 170)).mono (by omega))
 rw[← hW1] at hn1 hm0 hb1 ⊢
 rw[hs0] at hn1
 clear hW1 hn0 hb0 hs0
 have HX0:=mk0 (show W1.heap[w.heap.size+1]?=some (.cells (spotC z n 0).toArray 170 (0,0)) from hn1)
 have HM:=mk0 hm0
 have HB:=mk0 hb1
 have HU0:=mk0 (Below.refl (w.heap.size+1) W1)
 clear hn1 hm0 hb1
 go_loopw[9] (fun v9 wr=>∃ k:Nat,k≤4∧v9 = .int .u64 k∧Aside0 (wr.heap[w.heap.size+1]?=some (.cells (spotC z n k).toArray 170 (0,0)))∧Aside0 (Below (w.heap.size+1) W1 wr)) (fun i _=>4-(intOf i).toNat)
 case atStart=>exact ⟨0,by omega,rfl,HX0,HU0⟩
 case round=>
  clear HX0 HU0
  obtain ⟨k,hk,rfl,HX,HU⟩:=hrel
  by_cases hlt:k<4
  ·have hlt2:(k:Int)<4:=by omega
   have hk64:IntKind.u64.wrap ((k:Int)+1)=(k:Int)+1:=by rw[IntKind.wrap_u64];omega
   have hsr:=spotV_range z n k hn.1
   have hcv:IntKind.i64.wrap (spotV z n k)=spotV z n k:=by rw[IntWalk.i64_in _ (by omega)]
   have hcv2:wrap64 (spotV z n k)=spotV z n k:=by unfold wrap64;omega
   have x0:wr.cell? ⟨w.heap.size+1,k,none⟩=some (.int .i64 (if k<k then spotV z n k else 0)):=cell_of_heap (i:=k) HX.out (by simpa using spotC_get z n k k hlt)
   rw[if_neg (Nat.lt_irrefl k)] at x0
   have xf:wr.frozen? ⟨w.heap.size+1,k,none⟩=false:=frozen_of_heap (i:=k) HX.out
   have HX2:=mk0 (show (wr.setCell ⟨w.heap.size+1,k,none⟩ (.int .i64 (spotV z n k))).heap[w.heap.size+1]?=some (.cells (spotC z n (k+1)).toArray 170 (0,0)) from spotC_set z n k hlt ▸ heap_setCell_same _ _ k _ _ (.int .i64 (spotV z n k)) HX.out)
   have HU2:=mk0 (HU.out.setCell (p:=⟨w.heap.size+1,k,none⟩) (Nat.le_refl _) (.int .i64 (spotV z n k)))
   have HSV:=mk0 (show spotV z n k=_ from rfl)
   unfold spotV at hcv hcv2
   clear HX HU hsr
   go_wp2
   go_roundw
   case rel=>exact ⟨k+1,by omega,by go_num,HX2,HU2⟩
   case measure=>simp[intOf];omega
  ·have hlt2:¬ (k:Int)<4:=by omega
   have hk4:k=4:=by omega
   subst hk4
   have hv:=(HU.out.block w.heap.size (by omega)).trans HM.out
   have HBF:=mk0 (HB.out.trans (HU.out.mono (by omega)))
   have c0:=cell_of_heap (i:=0) HX.out (show (spotC z n 4)[0]?=some (.int .i64 (spotV z n 0)) from rfl)
   have c1:=cell_of_heap (i:=1) HX.out (show (spotC z n 4)[1]?=some (.int .i64 (spotV z n 1)) from rfl)
   have c2:=cell_of_heap (i:=2) HX.out (show (spotC z n 4)[2]?=some (.int .i64 (spotV z n 2)) from rfl)
   have c3:=cell_of_heap (i:=3) HX.out (show (spotC z n 4)[3]?=some (.int .i64 (spotV z n 3)) from rfl)
   have d0:=cell_of_heap (i:=0) hv rfl
   have d1:=cell_of_heap (i:=1) hv rfl
   have d2:=cell_of_heap (i:=2) hv rfl
   have d3:=cell_of_heap (i:=3) hv rfl
   have e0:=frozen_of_heap (i:=0) hv
   have e1:=frozen_of_heap (i:=1) hv
   have e2:=frozen_of_heap (i:=2) hv
   have e3:=frozen_of_heap (i:=3) hv
   have HSP:=mk0 (show (spotC z n 4).toArray=#[.int .i64 (spotV z n 0),.int .i64 (spotV z n 1),.int .i64 (spotV z n 2),.int .i64 (spotV z n 3)] from rfl)
   have HSF:=mk0 (((((AtZ.start (base:=w.heap.size) hv).set (Nat.le_refl _) 0 (.int .i64 (spotV z n 0))).set (Nat.le_refl _) 1 (.int .i64 (spotV z n 1))).set (Nat.le_refl _) 2 (.int .i64 (spotV z n 2))).set (Nat.le_refl _) 3 (.int .i64 (spotV z n 3)))
   have HSF:=mk0 (show AtZ w.heap.size w.heap.size 170 wr _ #[.int .i64 (spotV z n 0),.int .i64 (spotV z n 1),.int .i64 (spotV z n 2),.int .i64 (spotV z n 3)] from HSF.out)
   generalize spotV z n 0=a0 at *
   generalize spotV z n 1=a1 at *
   generalize spotV z n 2=a2 at *
   generalize spotV z n 3=a3 at *
   clear hv HX
   go_wp2
   generalize (((wr.setCell ⟨w.heap.size,0,none⟩ (.int .i64 a0)).setCell ⟨w.heap.size,1,none⟩ (.int .i64 a1)).setCell ⟨w.heap.size,2,none⟩ (.int .i64 a2)).setCell ⟨w.heap.size,3,none⟩ (.int .i64 a3)=Wf at *
   have g0:=cell_of_heap (i:=0) HSF.out.1 rfl
   have g1:=cell_of_heap (i:=1) HSF.out.1 rfl
   have g2:=cell_of_heap (i:=2) HSF.out.1 rfl
   have g3:=cell_of_heap (i:=3) HSF.out.1 rfl
   refine bodyPost_ret (v:=.agg #[.int .i64 a0,.int .i64 a1,.int .i64 a2,.int .i64 a3]) (by simp[results,Tryz.results90,go_sem,g0,g1,g2,g3]) rfl ?_
   exact ⟨by rw[HSP.out],HBF.out.trans HSF.out.2.2⟩
end Go.Proofs.YtcmffaejcnbheaaGreat.Lib0

import Derived.Test.YtplnodcbbcdcgaaGreatP34
set_option linter.unusedVariables false
set_option linter.unusedSimpArgs false
namespace Go.Proofs.YtplnodcbbcdcgaaGreatW.PrintWords
open Go.RowKit
namespace Kd
end Kd
namespace Kd
end Kd
namespace Kd
end Kd
namespace Kd
end Kd
theorem own_take {w:World} {base n m c size:Nat} {e:TypeId} {A:Option Addr} {xs:List Value} (h:w.ownsRow base e size (.slice A n c) n xs) (hm:m≤n):w.ownsRow base e size (.slice A m c) m (xs.take (m*size)):=by
 obtain ⟨h1,h2⟩:=h
 refine ⟨by rw[List.length_take,h1];exact Nat.min_eq_left (Nat.mul_le_mul_right _ hm),?_⟩
 rcases h2 with ⟨he,h0⟩ | ⟨g,cap,cur,he,hb,hh,hnc,hcm,hcs,ht⟩
 ·injection he with ha _ hc
  subst ha;subst hc
  exact .inl ⟨by rw[show m=0 by omega],by omega⟩
 ·injection he with ha _ hc
  subst ha;subst hc
  refine .inr ⟨g,c,cur,rfl,hb,hh,by omega,hcm,hcs,?_⟩
  rw[← ht,List.take_take,Nat.min_eq_left (Nat.mul_le_mul_right _ hm)]
namespace Kd
theorem reps_take {α:Type} {R:α→List Value→Prop} {size m:Nat} {ps:List α} {cs:List Value} (h:Reps R size ps cs) (hm:m≤ps.length):Reps R size (ps.take m) (cs.take (m*size)):=by
 refine ⟨by rw[List.length_take,List.length_take,h.1,Nat.min_eq_left hm,Nat.min_eq_left (Nat.mul_le_mul_right _ hm)],fun j p hj=>?_⟩
 rw[List.getElem?_take] at hj
 split at hj
 ·rename_i hjm
  have:=h.2 j p hj
  have hle:j*size+size≤m*size:=by rw[← Nat.succ_mul];exact Nat.mul_le_mul_right _ hjm
  rw[List.drop_take,List.take_take,Nat.min_eq_left (by omega)]
  exact this
 ·cases hj
theorem R_take {α:Type} {d:Kd α} {e m n c:Nat} {w:World} {base:Nat} {ok:Nat→Prop} {A:Option Addr} {xs:List α} (h:d.R e w base ok (.slice A n c) xs) (hm:m≤xs.length):d.R e w base ok (.slice A m c) (xs.take m):=by
 obtain ⟨h0,inner,ho,hr⟩:=h
 have hn:n=xs.length:=by
  obtain ⟨A',c',he⟩:=own_slice ho
  injection he
 subst hn
 have hb:∀ x y:Nat,(Value.slice A x c).ownBlock=(Value.slice A y c).ownBlock:=by
  intro x y
  cases A<;>rfl
 refine ⟨fun k hk=>h0 k (by rw[hb _ m];exact hk),inner.take (m*d.sz),?_,?_⟩
 ·rw[List.length_take,Nat.min_eq_left hm]
  exact own_take ho hm
 ·rw[hb m xs.length]
  exact reps_take hr hm
end Kd
namespace Kd
end Kd
namespace Kd
end Kd
namespace Kd
end Kd
namespace Kd
end Kd
namespace Kd
end Kd
namespace Kd
end Kd
namespace Kd
end Kd
namespace Kd
end Kd
namespace Kd
end Kd
namespace Kd
end Kd
section
variable {P:Program} {ops:Array Oper} {o:Oper} {a:Act} {Q:Exit→Act→World→Prop} {Kc:Act→World→Prop}
namespace Kd
variable {α:Type}
end Kd
end
namespace Kd
end Kd
end Go.Proofs.YtplnodcbbcdcgaaGreatW.PrintWords
namespace Go.Proofs.YtplnodcbbcdcgaaGreat.Lib0
open Go.RowKit Go.Proofs.YtplnodcbbcdcgaaGreatW.PrintWords Go.ChangeMaps
theorem tmod_within (n m:Int) (hm:0<m):-m<n.tmod m∧n.tmod m<m∧(n.tmod m<0→n.tmod m+m=n%m)∧(0≤n.tmod m→n.tmod m=n%m):=by
 have h1:=Int.emod_nonneg n (show m≠0 by omega)
 have h2:=Int.emod_lt_of_pos n hm
 rw[Int.tmod_eq_emod]
 split
 ·omega
 ·rename_i h
  have:n%m≠0:=fun h0=>h (.inr (Int.dvd_of_emod_eq_zero h0))
  omega
set_option maxHeartbeats 1600000 in
set_option maxRecDepth 100000 in
theorem book_Within (n hi:Int) (w:World) (hn:-9223372036854775808≤n∧n≤9223372036854775807) (h0:0≤hi) (h1:hi≤1099511627776) :
  Calls Tryz.prog 10 #[.int .i64 n,.int .i64 0,.int .i64 hi] w fun e w'=>e = .returned (.int .i64 (n%(hi+1)))∧w=w':=by
 obtain ⟨ha,hb,hc,hd⟩:=tmod_within n (hi+1) (by omega)
 have HC:=mk0 hc
 have HD:=mk0 hd
 clear hc hd
 go_enter Tryz.func10,Tryz.ntmps10
 go_wp2
 all_goals
  go_ret
  refine ⟨?_,rfl⟩
  have h3:=HC.out
  have h4:=HD.out
  clear HC HD
 ·rw[show n%(hi+1)=n.tmod (hi+1)+hi+1 by omega];rfl
 ·rw[show n%(hi+1)=n.tmod (hi+1) by omega];rfl
end Go.Proofs.YtplnodcbbcdcgaaGreat.Lib0
namespace Go.Proofs.YtplnodcbbcdcgaaGreat.Lib0
open Go.RowKit Go.Proofs.YtplnodcbbcdcgaaGreatW.PrintWords Go.ChangeMaps
theorem kl_sz:kl.sz=2:=rfl
attribute [local irreducible] wpQuiet
end Go.Proofs.YtplnodcbbcdcgaaGreat.Lib0
namespace Go.Proofs.YtplnodcbbcdcgaaGreat.Lib0
open Go.RowKit Go.Proofs.YtplnodcbbcdcgaaGreatW.PrintWords Go.ChangeMaps
end Go.Proofs.YtplnodcbbcdcgaaGreat.Lib0

import Derived.Test.YtpiobnfakmmpdaaGreatP26
set_option linter.unusedVariables false
set_option linter.unusedSimpArgs false
namespace Go.Proofs.YtpiobnfakmmpdaaGreat.Lib0
open Go.RowKit Go.Proofs.YtpiobnfakmmpdaaGreatW.PrintWords Go.ChangeMaps
def RowM.ok (r:RowM):Bool:=rowB r.t r.s r.cs
set_option maxHeartbeats 1600000 in
set_option maxRecDepth 100000 in
theorem check_clo (t s:Int) (A:Option Addr) (cap:Nat) (l:List CellM) (w:World) (h:kc.C w A l.length l) :
  Calls Tryz.prog 93 #[.agg #[.int .i64 t,.int .i64 s,.slice A l.length cap]] w fun e w'=>e = .returned (.bool (!rowB t s l))∧Below w.heap.size w w':=by
 have HB:=mk0 (below_alloc (Below.refl w.heap.size w) (.cells #[.int .i64 t,.int .i64 s,.slice A l.length cap] 35))
 have HR:=mk0 (row_Right t s A cap l _ (Kd.C_below h HB.out))
 clear h
 generalize rowB t s l=q at *
 go_enter Tryz.func93,Tryz.ntmps93
 go_wp2_with fail
 (with_reducible refine HR.out.mono ?_)
 rintro e w2 ⟨rfl,hb⟩
 have HB2:=mk0 (HB.out.trans (hb.mono HB.out.size))
 clear hb HR
 go_wp2
 go_ret
 exact ⟨rfl,HB2.out⟩
def badAt (k:Nat):List RowM→Int
 | []=>-1
 | r :: t=>if r.ok then badAt (k+1) t else k
theorem badAt_lt (L:List RowM):∀ k,decide (0≤badAt k L)=L.any (fun r=>!r.ok):=by
 induction L with
 | nil=>intro k;rfl
 | cons r t ih=>
  intro k
  rw[badAt,List.any_cons]
  cases h:r.ok with
  | true=>rw[if_pos rfl,ih];rfl
  | false=>rw[if_neg (by simp)];simp
set_option maxHeartbeats 3200000 in
set_option maxRecDepth 100000 in
theorem idx_row (B:Option Addr) (d:Nat) (H:List RowH) (L:List (List CellM)) (w:World) (hH:kr.C w B H.length H) (hL:RowsOn w H L) :
  Calls Tryz.prog 148 #[.slice B H.length d,.func (.func 93) #[] #[]] w fun e w'=>e = .returned (.int .i64 (badAt 0 (rowsM H L)))∧Below w.heap.size w w':=by
 obtain ⟨r,hr⟩:∃ r,r=badAt 0 (rowsM H L):=⟨_,rfl⟩
 rw[← hr]
 have HR:=mk0 (show r=badAt 0 ((rowsM H L).drop 0) from hr)
 clear hr
 have HH:=mk0 hH
 have HL:=mk0 hL
 have hH63:=hH.2.1
 have HLM:=mk0 (rowsM_len H L hL.1)
 clear hH hL
 go_enter Tryz.func148,Tryz.ntmps148
 go_wp2_with fail
 go_loopw[8] (fun v8 wr=>∃ (k:Nat),k≤H.length∧v8 = .int .i64 k∧Aside0 (r=badAt k ((rowsM H L).drop k))∧Aside0 (Below w.heap.size w wr)) (fun i _=>H.length-(intOf i).toNat)
 case atStart=>exact ⟨0,by omega,rfl,HR,⟨Below.refl _ _⟩⟩
 case round=>
  clear HR
  obtain ⟨k,hk,rfl,HE,HB⟩:=hrel
  by_cases hlt:k<H.length
  case neg=>
   have hlt2:¬ (k:Int)<H.length:=by omega
   have HS:=mk0 (show r = -1 by rw[HE.out,List.drop_eq_nil_of_le (by rw[HLM.out];omega)];rfl)
   go_wp2
   go_ret
   exact ⟨by rw[HS.out];rfl,HB.out⟩
  have hlt2:(k:Int)<H.length:=by omega
  have hkL:k<L.length:=by have:=HL.out.1;omega
  have hkM:k<(rowsM H L).length:=by rw[HLM.out];exact hlt
  have HE2:=mk0 HE.out
  rw[List.drop_eq_getElem_cons hkM,rowsM_get H L k hlt hkL hkM,badAt] at HE2
  obtain ⟨b,o,rfl,hx⟩:=kr_open (Kd.C_below HH.out HB.out) (by omega)
  obtain ⟨z0,z1,z2⟩:=hx k hlt
  obtain ⟨n1,n2,n3⟩:=HL.out.2 k hlt hkL
  obtain ⟨hd,hhd⟩:∃ hd,hd=H[k]:=⟨_,rfl⟩
  obtain ⟨cs,hcs⟩:∃ cs,cs=L[k]:=⟨_,rfl⟩
  rw[← hhd,← hcs] at n1 n2 n3 HE2
  rw[← hhd] at z0 z1 z2
  obtain ⟨ht,hs,hA,hn,hc⟩:=hd
  dsimp only at n1 n2 n3 z0 z1 z2 HE2
  subst n1
  clear hhd hcs hx hkM HE
  have HCK:=mk0 (check_clo ht hs hA hc cs wr (Kd.C_below n3 HB.out))
  have HE3:=mk0 (show r=if rowB ht hs cs then badAt (k+1) ((rowsM H L).drop (k+1)) else (k:Int) from HE2.out)
  clear n3 HE2
  generalize rowB ht hs cs=q at *
  go_wp2_with fail
  (with_reducible refine HCK.out.mono ?_)
  rintro e w2 ⟨rfl,hb⟩
  have HB2:=mk0 (HB.out.trans (hb.mono HB.out.size))
  clear hb HCK z0 z1 z2
  cases q with
  | true=>
   have HS:=mk0 (show r=badAt (k+1) ((rowsM H L).drop (k+1)) by rw[HE3.out,if_pos rfl])
   simp only[Bool.not_true]
   go_wp2
   go_roundw
   case rel=>exact ⟨k+1,by omega,by go_num,HS,HB2⟩
   case measure=>simp[intOf];omega
  | false=>
   have HS:=mk0 (show r=(k:Int) by rw[HE3.out,if_neg (by simp)])
   simp only[Bool.not_false]
   go_wp2
   go_ret
   exact ⟨by rw[HS.out];rfl,HB2.out⟩
set_option maxHeartbeats 1600000 in
set_option maxRecDepth 100000 in
theorem has_row (B:Option Addr) (d:Nat) (H:List RowH) (L:List (List CellM)) (w:World) (hH:kr.C w B H.length H) (hL:RowsOn w H L) :
  Calls Tryz.prog 92 #[.slice B H.length d,.func (.func 93) #[] #[]] w fun e w'=>e = .returned (.bool ((rowsM H L).any (fun r=>!r.ok)))∧Below w.heap.size w w':=by
 have HI:=mk0 (idx_row B d H L w hH hL)
 obtain ⟨q,hq⟩:∃ q,q=(rowsM H L).any (fun r=>!r.ok):=⟨_,rfl⟩
 have hz:=badAt_lt (rowsM H L) 0
 rw[← hq] at hz ⊢
 generalize badAt 0 (rowsM H L)=z at *
 clear hH hL hq
 go_enter Tryz.func92,Tryz.ntmps92
 go_wp2_with fail
 (with_reducible refine HI.out.mono ?_)
 rintro e w2 ⟨rfl,hb⟩
 have HB2:=mk0 hb
 clear hb HI
 go_wp2
 go_ret
 exact ⟨rfl,HB2.out⟩
def checkR (H:List RowH) (L:List (List CellM)):Int:=
 if (rowsM H L).any (fun r=>!r.ok) then 1 else if risesH H then (if (growsR [] (rowsM H L)).2.1=0 then 0 else 22) else 12
set_option maxHeartbeats 3200000 in
set_option maxRecDepth 100000 in
theorem group_Check (B:Option Addr) (d:Nat) (H:List RowH) (L:List (List CellM)) (w:World) (hH:kr.C w B H.length H) (hL:RowsOn w H L) :
  Calls Tryz.prog 48 #[.slice B H.length d] w fun e w'=>e = .returned (.int .i64 (checkR H L))∧Below w.heap.size w w':=by
 obtain ⟨r,hr⟩:∃ r,r=checkR H L:=⟨_,rfl⟩
 rw[← hr]
 have HR:=mk0 hr
 clear hr
 have HA:=mk0 (has_row B d H L w hH hL)
 have HRI:=mk0 (fun W (h:Below w.heap.size w W)=>row_Rises B d H W (Kd.C_below hH h))
 have HG:=mk0 (fun W (h:Below w.heap.size w W)=>row_Grow none 0 [] B d H L W ⟨rfl,by simp,fun h=>by simp at h⟩ (Kd.C_below hH h) (hL.below h))
 simp only[List.length_nil] at HG
 clear hH hL
 cases ha:(rowsM H L).any (fun r=>!r.ok) with
 | true=>
  rw[ha] at HA
  have HS:=mk0 (show r=1 by rw[HR.out,checkR,if_pos ha])
  clear ha
  go_enter Tryz.func48,Tryz.ntmps48
  go_wp2_with fail
  (with_reducible refine HA.out.mono ?_)
  rintro e w1 ⟨rfl,hb1⟩
  have HB1:=mk0 hb1
  clear hb1
  go_wp2
  go_ret
  exact ⟨by rw[HS.out];rfl,HB1.out⟩
 | false=>
  rw[ha] at HA
  have HS0:=mk0 (show r=if risesH H then (if (growsR [] (rowsM H L)).2.1=0 then 0 else 22) else 12 by rw[HR.out,checkR,if_neg (by rw[ha];simp)])
  clear ha
  cases hri:risesH H with
  | false=>
   rw[hri] at HRI
   have HS:=mk0 (show r=12 by rw[HS0.out,if_neg (by simp[hri])])
   clear hri HS0
   go_enter Tryz.func48,Tryz.ntmps48
   go_wp2_with fail
   (with_reducible refine HA.out.mono ?_)
   rintro e w1 ⟨rfl,hb1⟩
   have HB1:=mk0 hb1
   clear hb1
   go_wp2_with fail
   (with_reducible refine (HRI.out _ HB1.out).mono ?_)
   rintro e w2 ⟨rfl,hb2⟩
   have HB2:=mk0 (HB1.out.trans (hb2.mono HB1.out.size))
   clear hb2
   go_wp2
   go_ret
   exact ⟨by rw[HS.out];rfl,HB2.out⟩
  | true=>
   rw[hri] at HRI
   have HS1:=mk0 (show r=if (growsR [] (rowsM H L)).2.1=0 then 0 else 22 by rw[HS0.out,if_pos hri])
   clear hri HS0
   obtain ⟨gg,hgg⟩:∃ gg,gg=growsR [] (rowsM H L):=⟨_,rfl⟩
   rw[← hgg] at HG HS1
   obtain ⟨g1,g2,g3⟩:=gg
   dsimp only at HG HS1
   clear hgg
   go_enter Tryz.func48,Tryz.ntmps48
   go_wp2_with fail
   (with_reducible refine HA.out.mono ?_)
   rintro e w1 ⟨rfl,hb1⟩
   have HB1:=mk0 hb1
   clear hb1
   go_wp2_with fail
   (with_reducible refine (HRI.out _ HB1.out).mono ?_)
   rintro e w2 ⟨rfl,hb2⟩
   have HB2:=mk0 (HB1.out.trans (hb2.mono HB1.out.size))
   clear hb2
   go_wp2_with fail
   (with_reducible refine (HG.out _ HB2.out).mono ?_)
   rintro e w3 ⟨A3,c3,rfl,hc3,hb3⟩
   have HB3:=mk0 (HB2.out.trans (hb3.mono HB2.out.size))
   clear hb3 hc3
   by_cases h0:g2=0
   ·subst h0
    have HS:=mk0 (show r=0 by rw[HS1.out,if_pos rfl])
    go_wp2
    go_ret
    exact ⟨by rw[HS.out];rfl,HB3.out⟩
   ·have HS:=mk0 (show r=22 by rw[HS1.out,if_neg h0])
    have h0b:(g2 != 0)=true:=by simp[h0]
    clear h0
    go_wp2
    go_ret
    exact ⟨by rw[HS.out];rfl,HB3.out⟩
end Go.Proofs.YtpiobnfakmmpdaaGreat.Lib0
namespace Go.Proofs.YtpiobnfakmmpdaaGreat.Lib0
open Go.RowKit Go.Proofs.YtpiobnfakmmpdaaGreatW.PrintWords Go.ChangeMaps
section
variable {α:Type} {d:Kd α} {f:α→List Value} {K:Nat}
theorem Flat.flat_set (F:Flat d f K) (x':α) (j:Nat) (hj:j<K) (u:Value):∀ (xs:List α) (k:Nat) (hk:k<xs.length),f x'=(f xs[k]).set j u→flatF f (xs.set k x')=(flatF f xs).set (k*K+j) u
 | x :: t,0,hk,h=>by
  simp only[List.getElem_cons_zero] at h
  unfold flatF
  rw[List.set_cons_zero,List.map_cons,List.flatten_cons,List.map_cons,List.flatten_cons,h,Nat.zero_mul,Nat.zero_add,List.set_append_left _ _ (by rw[F.len];exact hj)]
 | x :: t,k+1,hk,h=>by
  simp only[List.getElem_cons_succ] at h
  have ih:=F.flat_set x' j hj u t k (by simpa using hk) h
  unfold flatF at *
  rw[List.set_cons_succ,List.map_cons,List.flatten_cons,List.map_cons,List.flatten_cons,ih,List.set_append_right _ _ (by rw[F.len,Nat.add_mul,Nat.one_mul];omega)]
  congr 2
  rw[F.len,Nat.add_mul,Nat.one_mul]
  omega
theorem Flat.inner (F:Flat d f K) {w:World} {base:Nat} {ok:Nat→Prop}:∀ (xs:List α) (inner:List Value),Reps (d.M w base ok) K xs inner→inner=flatF f xs
 | [],inner,h=>List.eq_nil_of_length_eq_zero (by have:=h.1;simpa using this)
 | x :: t,inner,h=>by
  have h0:=F.K (d.K_of_M (h.2 0 x rfl))
  rw[Nat.zero_mul,List.drop_zero] at h0
  have ht:Reps (d.M w base ok) K t (inner.drop K):=⟨by rw[List.length_drop,h.1,List.length_cons,Nat.add_mul,Nat.one_mul,Nat.add_sub_cancel],fun j p hj=>by
   have:=h.2 (j+1) p (by simpa using hj)
   rw[List.drop_drop]
   rwa [show K+j*K=(j+1)*K by rw[Nat.add_mul,Nat.one_mul,Nat.add_comm]]⟩
  have:=F.inner t _ ht
  rw[← List.take_append_drop K inner,h0,this]
  rfl
theorem Flat.R_open (F:Flat d f K) {w:World} {base e:Nat} {v:Value} {xs:List α} (h:d.R e w base (fun _=>True) v xs) (hp:0<xs.length) :
  ∃ g cap cur,v = .slice (some ⟨g,0,none⟩) xs.length cap∧base≤g∧w.heap[g]?=some (.cells cur e (0,0))∧xs.length≤cap∧cap≤maxLen∧cur.size=cap*K∧cur.toList.take (xs.length*K)=flatF f xs:=by
 obtain ⟨_,inner,ho,hr⟩:=h
 rcases ho.2 with ⟨_,hx0⟩ | ⟨g,cap,cur,hv,hb,hh,hnc,hcm,hcs,htake⟩
 ·omega
 ·rw[F.sz] at hcs htake hr
  exact ⟨g,cap,cur,hv,hb,hh,hnc,hcm,hcs,htake.trans (F.inner xs inner hr)⟩
theorem Flat.R_put (F:Flat d f K) {w:World} {base e g cap:Nat} {xs:List α} (h:d.R e w base (fun _=>True) (.slice (some ⟨g,0,none⟩) xs.length cap) xs) (k:Nat) (hk:k<xs.length) (j:Nat) (hj:j<K) (u:Value) (x':α) (hx:f x'=(f xs[k]).set j u) :
  d.R e (w.setCell ⟨g,k*K+j,none⟩ u) base (fun _=>True) (.slice (some ⟨g,0,none⟩) xs.length cap) (xs.set k x'):=by
 obtain ⟨g',cap',cur,hv,hb,hh,hn,hm,hs,ht⟩:=F.R_open h (by omega)
 obtain ⟨rfl,rfl⟩:g=g'∧cap=cap':=by simpa using hv
 have h2:=heap_at_setCell (i:=k*K+j) (v:=u) hh
 have hl:(xs.set k x').length=xs.length:=List.length_set
 have:=F.R_new (xs:=xs.set k x') (cap:=cap) hb h2 (by rw[hl];exact hn) hm (by simpa using hs) (by
  rw[hl,F.flat_set x' j hj u xs k hk hx,← ht,Array.toList_setIfInBounds,List.take_set])
 rwa [hl] at this
end
theorem rowsM_ext:∀ (H H':List RowH) (L:List (List CellM)),H.length=H'.length→(∀ i (h1:i<H.length) (h2:i<H'.length),H[i].t=H'[i].t∧H[i].s=H'[i].s)→rowsM H L=rowsM H' L
 | [],[],L,_,_=>rfl
 | h :: H,h' :: H',[],_,_=>rfl
 | h :: H,h' :: H',c :: L,e,hx=>by
  obtain ⟨h1,h2⟩:=hx 0 (by simp) (by simp)
  simp only[List.getElem_cons_zero] at h1 h2
  rw[rowsM,rowsM,h1,h2,rowsM_ext H H' L (by simpa using e) (fun i a b=>by have:=hx (i+1) (by simp;omega) (by simp;omega);simpa using this)]
def Apart (v:Value) (H:List RowH) (L:List (List CellM)):Prop:=∀ i (h1:i<H.length) (h2:i<L.length) ad,H[i].A=some ad→0<L[i].length→some ad.block≠v.ownBlock
def CopyR (w:World) (H:List RowH) (L:List (List CellM)) (e:Ending) (w':World):Prop:=
 ∃ v H',e = .returned v∧kr.R 35 w' w.heap.size (fun _=>True) v H'∧H'.length=H.length∧RowsOn w' H' L∧rowsM H' L=rowsM H L∧(∀ i (h1:i<H'.length) (h2:i<L.length),kc.R 37 w' w.heap.size (fun _=>True) (.slice H'[i].A H'[i].n H'[i].c) L[i])∧Below w.heap.size w w'
set_option maxHeartbeats 3200000 in
set_option maxRecDepth 100000 in
theorem row_CopyR (B:Option Addr) (d:Nat) (H:List RowH) (L:List (List CellM)) (w:World) (hH:kr.C w B H.length H) (hL:RowsOn w H L) (hl:H.length≤1099511627776) (hcl:∀ c ∈ L,c.length≤1099511627776) :
  Calls Tryz.prog 66 #[.slice B H.length d] w (CopyR w H L):=by
 have HCL:=mk0 (clone_row B d H w hH hl)
 have HL:=mk0 hL
 have HLL:=mk0 hcl
 have hH63:=hH.2.1
 have HZ:=mk0 hl
 clear hH hL hcl hl
 go_enter Tryz.func66,Tryz.ntmps66
 go_wp2_with fail
 (with_reducible refine HCL.out.mono ?_)
 rintro e w1 ⟨v,rfl,hr1,hb1⟩
 have HR1:=mk0 hr1
 have HB1:=mk0 hb1
 have HAP:=mk0 (show Apart v H L from fun i h1 h2 ad e hn hv=>by
  have h3:=C_lt (by decide) (HL.out.2 i h1 h2).2.2 ad e hn
  have h4:=Kd.R_base hr1 ad.block hv.symm
  omega)
 have HO1:=mk0 (HL.out.below hb1)
 obtain ⟨A0,c0,hv⟩:=Kd.R_slice hr1
 subst hv
 clear hr1 hb1 HCL
 go_wp2_with fail
 go_loopw[9] (fun v9 wr=>∃ (k:Nat) (H1:List RowH),k≤H.length∧v9 = .int .i64 k∧Aside0 (H1.length=H.length)∧Aside0 (∀ i (h1:i<H1.length) (h2:i<H.length),H1[i].t=H[i].t∧H1[i].s=H[i].s)∧Aside0 (kr.R 35 wr w.heap.size (fun _=>True) (.slice A0 H.length c0) H1)∧Aside0 (RowsOn wr H1 L)∧Aside0 (∀ i (h1:i<H1.length) (h2:i<L.length),i<k→kc.R 37 wr w.heap.size (fun _=>True) (.slice H1[i].A H1[i].n H1[i].c) L[i])∧Aside0 (Apart (.slice A0 H.length c0) H1 L)∧Aside0 (Below w.heap.size w wr)) (fun i _=>H.length-(intOf i).toNat)
 case atStart=>exact ⟨0,H,by omega,rfl,⟨rfl⟩,⟨fun i h1 h2=>⟨rfl,rfl⟩⟩,HR1,HO1,⟨fun i h1 h2 h3=>absurd h3 (Nat.not_lt_zero i)⟩,HAP,HB1⟩
 case round=>
  clear HR1 HB1 HAP HO1
  obtain ⟨k,H1,hk,rfl,HN,HTS,HR,HO,HC,HA,HB⟩:=hrel
  by_cases hlt:k<H.length
  case neg=>
   have hlt2:¬ (k:Int)<H.length:=by omega
   have HF:=mk0 (rowsM_ext H1 H L HN.out HTS.out)
   go_wp2
   go_ret
   exact ⟨_,H1,rfl,HR.out,HN.out,HO.out,HF.out,fun i h1 h2=>HC.out i h1 h2 (by have:=HN.out;omega),HB.out⟩
  have hlt2:(k:Int)<H.length:=by omega
  have hk1:k<H1.length:=by rw[HN.out];exact hlt
  have hkL:k<L.length:=by have:=HO.out.1;omega
  have hr:=HR.out
  rw[← HN.out] at hr
  obtain ⟨g,cap,cur,hv,hbg,hh,hnc,hcm,hcs,htk⟩:=kr_flat.R_open hr (by omega)
  obtain ⟨rfl,rfl⟩:A0=some ⟨g,0,none⟩∧c0=cap:=by simpa using hv
  obtain ⟨b,o,e0,hx⟩:=kr_open (Kd.R_reads' hr).2.2 (by omega)
  cases e0
  obtain ⟨z0,z1,z2⟩:=hx k hk1
  obtain ⟨n1,n2,n3⟩:=HO.out.2 k hk1 hkL
  have hgw:g<wr.heap.size:=(Array.getElem?_eq_some_iff.1 hh).1
  have hcl2:L[k].length≤1099511627776:=HLL.out _ (List.getElem_mem hkL)
  have HCC:=mk0 (clone_cell H1[k].A H1[k].c L[k] wr n3 hcl2)
  rw[n1] at z2
  have fz:wr.frozen? ⟨g,k*3+2,none⟩=false:=frozen_of_heap hh
  have HH:=mk0 hh
  have HGW:=mk0 (And.intro hgw hbg)
  have HK1:=mk0 (And.intro hk1 hkL)
  have z2':wr.cell? ⟨g,k*3+2,none⟩=some (.slice H1[k].A L[k].length H1[k].c):=by rw[Nat.zero_add] at z2;exact z2
  obtain ⟨q,hq⟩:∃ q,q=H1[k]:=⟨_,rfl⟩
  obtain ⟨y,hy⟩:∃ y,y=L[k]:=⟨_,rfl⟩
  rw[← hq,← hy] at z2' HCC
  have HQY:=mk0 (And.intro hq hy)
  clear hr hh hgw hbg n1 n2 n3 hx z0 z1 z2 hq hy hnc hcm hcs htk hv hcl2 fz
  go_wp2_with fail
  (with_reducible refine HCC.out.mono ?_)
  rintro e w2 ⟨vv,rfl,hrv,hbv⟩
  have hh2:=(hbv.block g HGW.out.1).trans HH.out
  obtain ⟨A2,c2,rfl⟩:=Kd.R_slice hrv
  have fz:=frozen_of_heap (i:=k*3+2) hh2
  have y2:w2.cell? ⟨g,k*3+2,none⟩=some (.slice q.A y.length q.c):=(hbv.cell (by exact HGW.out.1)).trans z2'
  have HRV:=mk0 hrv
  have HBV:=mk0 hbv
  have HK9:=mk0 (((Keep1.refl g w2).set (k*3+2) (.slice A2 y.length c2)))
  have hr2:kr.R 35 (w2.setCell ⟨g,k*3+2,none⟩ (.slice A2 y.length c2)) w.heap.size (fun _=>True) (.slice (some ⟨g,0,none⟩) H.length c0) (H1.set k ⟨q.t,q.s,A2,y.length,c2⟩):=by
   have h1:=Kd.R_below HR.out hbv
   rw[← HN.out] at h1 ⊢
   exact kr_flat.R_put h1 k HK1.out.1 2 (by decide) (.slice A2 y.length c2) ⟨q.t,q.s,A2,y.length,c2⟩ (by rw[← HQY.out.1];rfl)
  have HR3:=mk0 hr2
  have HB3:=mk0 ((HB.out.trans (hbv.mono HB.out.size)).setCell (p:=⟨g,k*3+2,none⟩) HGW.out.2 (.slice A2 y.length c2))
  have HN3:=mk0 (show (H1.set k ⟨q.t,q.s,A2,y.length,c2⟩).length=H.length by rw[List.length_set];exact HN.out)
  have HTS3:=mk0 (show ∀ i (h1:i<(H1.set k ⟨q.t,q.s,A2,y.length,c2⟩).length) (h2:i<H.length),(H1.set k ⟨q.t,q.s,A2,y.length,c2⟩)[i].t=H[i].t∧(H1.set k ⟨q.t,q.s,A2,y.length,c2⟩)[i].s=H[i].s from fun i h1 h2=>by
   rw[List.length_set] at h1
   have:=HTS.out i h1 h2
   rw[List.getElem_set]
   split
   ·rename_i hki
    subst hki
    rw[← HQY.out.1] at this
    exact this
   ·exact this)
  have HA3:=mk0 (show Apart (.slice (some ⟨g,0,none⟩) H.length c0) (H1.set k ⟨q.t,q.s,A2,y.length,c2⟩) L from fun i h1 h2 ad e hn=>by
   rw[List.getElem_set] at e
   split at e
   ·rename_i hki
    subst hki
    dsimp only at e
    subst e
    have h4:=Kd.R_base hrv ad.block rfl
    intro hv
    have h5:ad.block=g:=by simpa [Value.ownBlock] using hv
    have h6:=HGW.out.1
    omega
   ·exact HA.out i (by rw[List.length_set] at h1;exact h1) h2 ad e hn)
  have HO3:=mk0 (show RowsOn (w2.setCell ⟨g,k*3+2,none⟩ (.slice A2 y.length c2)) (H1.set k ⟨q.t,q.s,A2,y.length,c2⟩) L from ⟨by rw[List.length_set];exact HO.out.1,fun i h1 h2=>by
   have hap:=HA3.out i h1 h2
   rw[List.getElem_set] at hap ⊢
   split
   ·rename_i hki
    subst hki
    rw[if_pos rfl] at hap
    rw[HQY.out.2] at hap hrv ⊢
    refine ⟨rfl,(Kd.R_reads' hrv).2.1,C_keep1 kc_Kw (Kd.R_reads' hrv).2.2 (fun ad e hn=>⟨fun hg=>hap ad e hn (by rw[hg];rfl),C_lt (by decide) (Kd.R_reads' hrv).2.2 ad e hn⟩) ?_⟩
    rw[← HQY.out.2]
    exact HK9.out
   ·rename_i hki
    rw[if_neg hki] at hap
    rw[List.length_set] at h1
    obtain ⟨m1,m2,m3⟩:=HO.out.2 i h1 h2
    have m4:=Kd.C_below m3 hbv
    exact ⟨m1,m2,C_keep1 kc_Kw m4 (fun ad e hn=>⟨fun hg=>hap ad e hn (by rw[hg];rfl),C_lt (by decide) m4 ad e hn⟩) HK9.out⟩⟩)
  have HC3:=mk0 (show ∀ i (h1:i<(H1.set k ⟨q.t,q.s,A2,y.length,c2⟩).length) (h2:i<L.length),i<k+1→kc.R 37 (w2.setCell ⟨g,k*3+2,none⟩ (.slice A2 y.length c2)) w.heap.size (fun _=>True) (.slice (H1.set k ⟨q.t,q.s,A2,y.length,c2⟩)[i].A (H1.set k ⟨q.t,q.s,A2,y.length,c2⟩)[i].n (H1.set k ⟨q.t,q.s,A2,y.length,c2⟩)[i].c) L[i] from fun i h1 h2 h3=>by
   by_cases hki:k=i
   ·subst hki
    simp only[List.getElem_set_self]
    have h4:=R_set_ne rfl (Kd.R_lower hrv HB.out.size) hh2 (by decide) (k*3+2) (.slice A2 y.length c2)
    rw[← HQY.out.2]
    exact h4
   ·rw[List.length_set] at h1
    simp only[List.getElem_set_ne hki]
    exact R_set_ne rfl (Kd.R_below (HC.out i h1 h2 (by omega)) hbv) hh2 (by decide) _ _)
  clear hr2 hrv hbv hh2 z2' HCC
  go_wp2
  generalize w2.setCell ⟨g,k*3+2,none⟩ (.slice A2 y.length c2)=w3 at *
  go_roundw
  case rel=>exact ⟨k+1,_,by omega,by go_num,HN3,HTS3,HR3,HO3,HC3,HA3,HB3⟩
  case measure=>simp[intOf];omega
end Go.Proofs.YtpiobnfakmmpdaaGreat.Lib0

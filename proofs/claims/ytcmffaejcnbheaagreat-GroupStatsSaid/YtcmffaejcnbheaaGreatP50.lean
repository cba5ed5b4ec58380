import Derived.Test.YtcmffaejcnbheaaGreatP44
import Derived.Test.YtcmffaejcnbheaaGreatP49
import Derived.Test.YtcmffaejcnbheaaGreatP36
import Derived.Test.YtcmffaejcnbheaaGreatP38
set_option linter.unusedVariables false
set_option linter.unusedSimpArgs false
namespace Go.Proofs.YtcmffaejcnbheaaGreat.Lib0
open Go.RowKit Go.Proofs.YtcmffaejcnbheaaGreatW.PrintWords Go.ChangeMaps
theorem zones_same {M:List RowM} {qs:List PartQ} {cols:List ColM} (h:qs.map (fun q=>(q.name,kindOf q.form,q.cs))=cols.map (fun x=>(x.name,x.kind,columnB M x.name))):qs.map zoneQ=cols.map (zoneC M):=by
 have:=congrArg (List.map fun p:ByteArray × Int × List CellM=>(⟨p.1,zoneB p.2.1 p.2.2⟩:ZoneE)) h
 rw[List.map_map,List.map_map] at this
 exact this
theorem blooms_same {M:List RowM} {qs:List PartQ} {cols:List ColM} (h:qs.map (fun q=>(q.name,kindOf q.form,q.cs))=cols.map (fun x=>(x.name,x.kind,columnB M x.name))):bloomsQ qs=bloomsC M cols:=by
 have:=congrArg (fun l=>(List.map (fun p:ByteArray × Int × List CellM=>if p.2.1=2 then [(⟨p.1,bloomBits (dictL (textsK p.2.2)).length,bloomB (textsK p.2.2)⟩:BloomM)] else []) l).flatten) h
 simp only[List.map_map] at this
 exact this
theorem risesM_times:∀ {M:List RowM},risesM M=true→SortI (M.map (·.t))
 | [],_=>fun i h=>absurd h (by simp)
 | [a],_=>fun i h=>absurd h (by simp)
 | a :: b :: t,h=>by
  rw[risesM,Bool.and_eq_true] at h
  have ih:=risesM_times (M:=b :: t) h.2
  have h0:a.t≤b.t:=by
   have h1:=h.1
   unfold lessM cmpR orZ cmpZ at h1
   have h2:=of_decide_eq_true h1
   repeat' split at h2
   all_goals omega
  intro i hi
  rcases i with _ | i
  ·exact h0
  ·have:=ih i (by simpa using hi)
   simpa using this
theorem foldl_len {β:Type} (f:List UInt8→β→List UInt8) (hf:∀ o x,(f o x).length=o.length):∀ (l:List β) (o:List UInt8),(l.foldl f o).length=o.length
 | [],o=>rfl
 | x :: l,o=>by rw[List.foldl_cons,foldl_len f hf l,hf]
theorem bloomB_len (l:List ByteArray):(bloomB l).length≤8192:=by
 unfold bloomB bloomF
 rw[foldl_len _ (fun o s=>foldl_len _ (fun o k=>by simp[setBit]) _ o),List.length_replicate]
 have:=bloomBits_ok (dictL l).length
 omega
theorem column_short {M:List RowM} (hr:∀ r ∈ M,r.ok=true) (hi:∀ r ∈ M,∀ c ∈ r.cs,I64 c.n) (nm:ByteArray):∀ c ∈ columnB M nm,c.s.size≤1099511627776:=by
 intro c hc
 unfold columnB at hc
 obtain ⟨r,h1,rfl⟩:=List.mem_map.1 hc
 rcases cellOf_mem r.cs nm with h2 | ⟨h2,_⟩
 ·rw[h2];decide
 ·rcases (fine_norm ((row_cells (hr r h1)).1 _ h2) (hi r h1 _ h2)).1 with h | ⟨_,_,⟨_,h,_⟩ | ⟨_,_,h⟩⟩
  ·rw[h];decide
  ·rw[h];decide
  ·omega
structure StatF (M:List RowM) (n:Nat) (z:List UInt8) (qs:List PartQ):Prop where
 len:M.length=n
 wr:writeM M=(z,0)
 small:z.length≤1000000
 rd:readG z=some (M.map (·.t),M.map (·.s),qs)
 zs:qs.map zoneQ=(growsR [] M).1.map (zoneC M)
 bs:bloomsQ qs=bloomsC M (growsR [] M).1
 srt:SortI (M.map (·.t))
 i64:∀ r ∈ M,∀ c ∈ r.cs,I64 c.n
 kd:∀ x ∈ (growsR [] M).1,x.kind=1∨x.kind=2
 c12:(growsR [] M).1.length≤12
 ss:∀ nm,∀ c ∈ columnB M nm,c.s.size≤1099511627776
 col:∀ r ∈ M,∀ c ∈ r.cs,c.col.size≤1099511627776
theorem rising_stats (M0:List RowM) (n:Nat) (h0:0<n) (hn:n≤16):∃ z qs,StatF (risingM M0 n) n z qs:=by
 have hw:=risingM_write M0 n h0 hn
 have hck:=risingM_check M0 n hn
 have hi:∀ r ∈ risingM M0 n,∀ c ∈ r.cs,I64 c.n:=fun r hr=>(risingM_row M0 n hn r hr).2.2
 have hl:=risingM_len M0 n
 have hf:=rising_fit M0 n (by omega)
 generalize risingM M0 n=M at *
 have hw2:(writeM M).2=0:=by rw[hw]
 obtain ⟨qs,h1,h2,h3⟩:=readG_write hw2 hi
 obtain ⟨hok,hg,hri⟩:=checkM_ok hck
 have hcols:=growsR_cols hg
 refine ⟨(writeM M).1,qs,hl,by rw[hw],write_small hw2 hi,h1,zones_same h3,blooms_same h3,risesM_times hri,hi,fun x hx=>(hcols.norm hok hi hx).1,growsR_len M,column_short hok hi,hf.c⟩
theorem bloomsC_small (M:List RowM) (xs:List ColM):∀ e ∈ bloomsC M xs,e.b.length≤8192:=by
 intro e he
 unfold bloomsC at he
 obtain ⟨l,hl,he⟩:=List.mem_flatten.1 he
 obtain ⟨x,hx,rfl⟩:=List.mem_map.1 hl
 unfold bloomC at he
 split at he
 ·rw[List.mem_singleton] at he
  subst he
  exact bloomB_len _
 ·cases he
theorem bloomsM_b:∀ (E:List BloomE) (L:List (List UInt8)),E.length=L.length→L=(bloomsM E L).map (·.b)
 | [],[],_=>rfl
 | e :: E,b :: L,h=>by
  show b :: L=b :: (bloomsM E L).map (·.b)
  rw[← bloomsM_b E L (by simpa using h)]
theorem bloomsM_get:∀ (E:List BloomE) (L:List (List UInt8)) (i:Nat) (h1:i<E.length) (h2:i<L.length),(bloomsM E L)[i]?=some ⟨E[i].col,E[i].bits,L[i]⟩
 | e :: E,b :: L,0,_,_=>rfl
 | e :: E,b :: L,i+1,h1,h2=>by
  show (bloomsM E L)[i]?=_
  rw[bloomsM_get E L i (by simpa using h1) (by simpa using h2)]
  rfl
def BlC (w:World) (E:List BloomE) (es:List BloomM):Prop:=E.length=es.length∧∀ i (h1:i<E.length) (h2:i<es.length),E[i].col=es[i].col∧E[i].bits=es[i].bits∧E[i].n=es[i].b.length∧u8.C w E[i].A es[i].b.length es[i].b
theorem BlC.of {w:World} {lo:Nat} {E:List BloomE} {L:List (List UInt8)} {es:List BloomM} (h:BlR w lo E L) (he:bloomsM E L=es):BlC w E es:=by
 have hl:E.length=es.length:=by rw[← he,bloomsM_len E L h.1]
 refine ⟨hl,fun i h1 h2=>?_⟩
 have h3:i<L.length:=by rw[← h.1];exact h1
 have hg:=bloomsM_get E L i h1 h3
 rw[he,List.getElem?_eq_getElem h2] at hg
 injection hg with hg
 have hr:=h.2 i h1 h3
 rw[hg]
 refine ⟨rfl,rfl,hr.1,?_⟩
 have h4:=hr.2.2
 rw[hr.1] at h4
 exact C_of h4
theorem BlC.below {w w':World} {E:List BloomE} {es:List BloomM} (h:BlC w E es) (hb:Below w.heap.size w w'):BlC w' E es:=
 ⟨h.1,fun i h1 h2=>⟨(h.2 i h1 h2).1,(h.2 i h1 h2).2.1,(h.2 i h1 h2).2.2.1,Kd.C_below (h.2 i h1 h2).2.2.2 hb⟩⟩
theorem kz_open {w:World} {A:Option Addr} {n:Nat} {l:List ZoneE} (h:kz.C w A n l) (hn:0<l.length) :
  ∃ b o,A=some ⟨b,o,none⟩∧∀ k (hk:k<l.length),w.cell? ⟨b,o+k*8,none⟩=some (.string l[k].col)∧w.cell? ⟨b,o+k*8+1,none⟩=some (.int .i64 l[k].z.kind)∧w.cell? ⟨b,o+k*8+2,none⟩=some (.int .i64 l[k].z.rows)∧w.cell? ⟨b,o+k*8+3,none⟩=some (.int .i64 l[k].z.nulls)∧w.cell? ⟨b,o+k*8+4,none⟩=some (.int .i64 l[k].z.minN)∧w.cell? ⟨b,o+k*8+5,none⟩=some (.int .i64 l[k].z.maxN)∧w.cell? ⟨b,o+k*8+6,none⟩=some (.string l[k].z.minS)∧w.cell? ⟨b,o+k*8+7,none⟩=some (.string l[k].z.maxS):=by
 obtain ⟨ad,rfl,hc⟩:=h.2.2 (by have:=h.1;omega)
 have hx:∀ k (hk:k<l.length) i u,l[k].cells[i]?=some u→w.cell? (ad.add (k*8+i))=some u:=fun k hk i u hu=>by
  obtain ⟨c,hl,hk',hcell⟩:=hc k _ (List.getElem?_eq_getElem hk)
  have hk2:=kz_K hk'
  subst hk2
  exact hcell i u hu
 have hs:ad.spot=none:=by
  have:=hx 0 hn 0 _ rfl
  have e0:ad.add (0*8+0)=ad:=by simp[Addr.add]
  rw[e0] at this
  exact cell_plain this
 obtain ⟨b,o,sp⟩:=ad
 simp only at hs
 subst hs
 have e1:∀ k,(⟨b,o,none⟩:Addr).add k=⟨b,o+k,none⟩:=fun k=>by unfold Addr.add;split<;>simp_all
 have hy:∀ k (hk:k<l.length) i u,l[k].cells[i]?=some u→w.cell? ⟨b,o+k*8+i,none⟩=some u:=fun k hk i u hu=>by
  have:=hx k hk i u hu
  rwa [e1,← Nat.add_assoc] at this
 exact ⟨b,o,rfl,fun k hk=>⟨hy k hk 0 _ rfl,hy k hk 1 _ rfl,hy k hk 2 _ rfl,hy k hk 3 _ rfl,hy k hk 4 _ rfl,hy k hk 5 _ rfl,hy k hk 6 _ rfl,hy k hk 7 _ rfl⟩⟩
end Go.Proofs.YtcmffaejcnbheaaGreat.Lib0
namespace Go.Proofs.YtcmffaejcnbheaaGreat.Lib0
open Go.RowKit Go.Proofs.YtcmffaejcnbheaaGreatW.PrintWords Go.ChangeMaps
structure Twice (w:World) (n lo hi la:Int) (zs:List ZoneE) (es:List BloomM) (tk:List Int) (E1 E2:List BloomE) (s1 s2 t1 t2:Nat) (A1 A2 B1 B2 C1 C2:Option Addr) (a1 a2 b1 b2 c1 c2:Nat):Prop where
 h1:w.heap[s1]?=some (.cells #[.int .i64 n,.int .i64 lo,.int .i64 hi,.slice A1 zs.length a1,.slice B1 es.length b1] 45 (0,0))
 h2:w.heap[s2]?=some (.cells #[.int .i64 n,.int .i64 lo,.int .i64 hi,.slice A2 zs.length a2,.slice B2 es.length b2] 50 (0,0))
 h3:w.heap[t1]?=some (.cells #[.int .i64 n,.int .i64 la,.slice C1 tk.length c1] 54 (0,0))
 h4:w.heap[t2]?=some (.cells #[.int .i64 n,.int .i64 la,.slice C2 tk.length c2] 56 (0,0))
 z1:kz.C w A1 zs.length zs
 z2:kz.C w A2 zs.length zs
 e1:kb.C w B1 es.length E1
 e2:kb.C w B2 es.length E2
 y1:BlC w E1 es
 y2:BlC w E2 es
 k1:(Kd.int .i64).C w C1 tk.length tk
 k2:(Kd.int .i64).C w C2 tk.length tk
theorem Twice.below {w w':World} {n lo hi la:Int} {zs:List ZoneE} {es:List BloomM} {tk:List Int} {E1 E2:List BloomE} {s1 s2 t1 t2:Nat} {A1 A2 B1 B2 C1 C2:Option Addr} {a1 a2 b1 b2 c1 c2:Nat} (h:Twice w n lo hi la zs es tk E1 E2 s1 s2 t1 t2 A1 A2 B1 B2 C1 C2 a1 a2 b1 b2 c1 c2) (hb:Below w.heap.size w w'):Twice w' n lo hi la zs es tk E1 E2 s1 s2 t1 t2 A1 A2 B1 B2 C1 C2 a1 a2 b1 b2 c1 c2:=
 ⟨(hb.block _ (Array.getElem?_eq_some_iff.1 h.h1).1).trans h.h1,(hb.block _ (Array.getElem?_eq_some_iff.1 h.h2).1).trans h.h2,(hb.block _ (Array.getElem?_eq_some_iff.1 h.h3).1).trans h.h3,(hb.block _ (Array.getElem?_eq_some_iff.1 h.h4).1).trans h.h4,
  Kd.C_below h.z1 hb,Kd.C_below h.z2 hb,Kd.C_below h.e1 hb,Kd.C_below h.e2 hb,h.y1.below hb,h.y2.below hb,Kd.C_below h.k1 hb,Kd.C_below h.k2 hb⟩
def ToldZ (w:World) (n lo hi:Int) (zs:List ZoneE) (es:List BloomM) (e:Ending) (w':World):Prop:=
 ∃ (Az:Option Addr) (cz:Nat) (Ab:Option Addr) (cb:Nat) (E:List BloomE),e = .returned (.agg #[.int .i64 n,.int .i64 lo,.int .i64 hi,.slice Az zs.length cz,.slice Ab es.length cb])∧kz.C w' Az zs.length zs∧kb.C w' Ab es.length E∧BlC w' E es∧Below w.heap.size w w'
def ToldX (w:World) (n la:Int) (tk:List Int) (e:Ending) (w':World):Prop:=
 ∃ (A:Option Addr) (c:Nat),e = .returned (.agg #[.int .i64 n,.int .i64 la,.slice A tk.length c])∧(Kd.int .i64).C w' A tk.length tk∧Below w.heap.size w w'
theorem StatG.told {w:World} {n lo hi:Int} {zs:List ZoneE} {es:List BloomM} {e:Ending} {w':World} (h:StatG n lo hi zs es w e w'):ToldZ w n lo hi zs es e w':=by
 obtain ⟨Az,cz,Ab,cb,E,L,rfl,h1,h2,h3,h4,h5⟩:=h
 have h6:=BlC.of h3 h4
 have h7:=h6.1
 rw[h7] at h2 ⊢
 exact ⟨Az,cz,Ab,cb,E,rfl,h1,h2,h6,h5⟩
theorem StatP.told {M:List RowM} {cols:List ColM} {n:Nat} {lo hi:Int} {w:World} {zs:List ZoneE} {es:List BloomM} {e:Ending} {w':World} (h:StatP M cols n lo hi w e w') (hz:zs=cols.map (zoneC M)) (he:es=bloomsC M cols):ToldZ w n lo hi zs es e w':=by
 obtain ⟨Az,cz,Ab,cb,E,L,rfl,h1,h2,h3,h4,_,_,h5⟩:=h
 have h6:=BlC.of h3 (h4.trans he.symm)
 have h7:=h6.1
 have h8:cols.length=zs.length:=by rw[hz,List.length_map]
 rw[← hz,h8] at h1
 rw[h7] at h2
 rw[h7,h8]
 exact ⟨Az,cz,Ab,cb,E,rfl,C_of h1,(by have:=C_of h2;rw[h7] at this;exact this),h6,h5⟩
theorem IdxS.told {w:World} {l:List Int} {T:TypeId→Prop} {n:Nat} {e:Ending} {w':World} (h:IdxS w l T e w') (hn:l.length=n):ToldX w n (lastI l l.length) (tickA l l.length) e w':=by
 obtain ⟨A,c,rfl,h1,h2⟩:=h
 exact ⟨A,c,by rw[hn],C_of h1,h2⟩
set_option maxHeartbeats 6400000 in
set_option maxRecDepth 100000 in
theorem walk_GroupStats (A:Option Addr) (ca:Nat) (H:List RowH) (L:List (List CellM)) (w:World) (hH:kr.C w A H.length H) (hL:RowsOn w H L) (hl:H.length≤9223372036854775807) (hc:∀ c ∈ L,c.length≤9223372036854775807) :
  Calls Tryz.prog 5 #[.slice A H.length ca] w (TrueEnd w):=by
 have mixed:Tryz.prog.follows .mixedOrders=true:=by kernel_rfl
 have late:Tryz.prog.follows .lateStores=true:=by kernel_rfl
 have HRI:=mk0 (show Calls Tryz.prog 7 #[.slice A H.length ca,.int .i64 16] w (RisS w (risingM (rowsM H L) (min H.length 16))) from keep_Rising A ca H L 16 w hH hL hl (by decide) hc)
 obtain ⟨n,hn⟩:∃ n,n=min H.length 16:=⟨_,rfl⟩
 rw[← hn] at HRI
 have hn16:n≤16:=by omega
 generalize rowsM H L=M0 at *
 clear hH hL hc hn
 go_enter Tryz.func5,Tryz.ntmps5
 go_wp2_with fail
 (with_reducible refine HRI.out.mono ?_)
 rintro e w1 ⟨H1,L1,A1,c1,rfl,hr1,hrr1,hm1,hb1⟩
 have hH1:H1.length=n:=by
  have:=congrArg List.length hm1
  rw[rowsM_len H1 L1 hrr1.1,risingM_len] at this
  exact this
 have B1:=mk0 hb1
 by_cases hn0:0<n
 case neg=>
  obtain rfl:H1 = []:=List.eq_nil_of_length_eq_zero (by omega)
  have HKN:=mk0 (law16_known w1)
  clear hr1 hrr1 hm1 hb1 HRI hH1
  go_wp2_with fail
  (with_reducible refine HKN.out.mono ?_)
  rintro e w2 ⟨rfl,hb2⟩
  have B2:=mk0 (B1.out.trans (hb2.mono B1.out.size))
  clear hb2 HKN
  go_wp2
  go_ret
  exact ⟨rfl,B2.out⟩
 obtain ⟨z,qs,hF⟩:=rising_stats M0 n hn0 hn16
 have HF:=mk0 hF
 generalize risingM M0 n=M at *
 subst hH1
 have HWR:=mk0 (group_Write A1 c1 H1 L1 w1 (C_of hr1) hrr1.on (by rw[hm1];exact hF.i64))
 rw[writeR_M hrr1.1,hm1,hF.wr] at HWR
 have HC1:=mk0 (C_of hr1)
 have HO1:=mk0 hrr1.on
 have HM1:=mk0 hm1
 have HLL:=mk0 hrr1.1
 have HMT:=mk0 (show M.map (·.t)=H1.map (·.t) by rw[← hm1];exact rowsM_t H1 L1 hrr1.1)
 have HTL:=mk0 (show (H1.map (·.t)).length=H1.length from List.length_map _)
 have HCS:=mk0 (show ∀ c ∈ L1,∀ x ∈ c,x.col.size≤1099511627776 from fun c h=>by
  rw[← rowsM_cs H1 L1 hrr1.1,hm1] at h
  obtain ⟨r,hr,rfl⟩:=List.mem_map.1 h
  exact hF.col r hr)
 have hz1:((H1.length:Int)==0)=false:=by rw[beq_eq_false_iff_ne];omega
 have hz2:(H1.length==0)=false:=by rw[beq_eq_false_iff_ne];omega
 have hz3:¬ H1 = []:=by rintro rfl;simp at hn0
 clear hr1 hrr1 hm1 hb1 hF HRI
 go_wp2_with fail
 (with_reducible refine HWR.out.mono ?_)
 rintro e w2 ⟨v2,rfl,hr2,hb2⟩
 obtain ⟨A2,c2,rfl,hc2,hC2⟩:=u8_R_len hr2
 have HRD:=mk0 (group_Read A2 c2 z w2 hC2 hc2 (by have:=HF.out.small;omega))
 have B2:=mk0 (B1.out.trans (hb2.mono B1.out.size))
 have HB2:=mk0 hb2
 clear hr2 hb2 hC2 hc2 HWR hz1 hz2 hz3
 go_wp2_with fail
 (with_reducible refine HRD.out.mono ?_)
 intro e w3 hrd
 rcases hrd with ⟨hnone,_⟩ | ⟨ts,ss,ps,lo,hi,hs,rfl,hg,hlo,hhi,hb3⟩
 ·rw[HF.out.rd] at hnone;cases hnone
 rw[HF.out.rd,HMT.out] at hs
 obtain ⟨hts,hqs⟩:H1.map (·.t)=ts∧qs=ps.map PartM.q:=by
  injection hs with hs
  injection hs with e1 hs
  injection hs with e2 e3
  exact ⟨e1,e3⟩
 have htl:ts.length=H1.length:=by rw[← hts];exact HTL.out
 obtain ⟨At,ct,As,cs,Ap,cp,Az,cz,Ab,cb,E,Lb,hh,hga,hz,hb,hBl,hbm,hzc,hec⟩:=hg.g.ex
 obtain ⟨zs,hzs⟩:∃ zs,zs=(ps.map PartM.q).map zoneQ:=⟨_,rfl⟩
 obtain ⟨es,hes⟩:∃ es,es=bloomsQ (ps.map PartM.q):=⟨_,rfl⟩
 have hzl:zs.length=ps.length:=by rw[hzs];simp
 have hzC:zs=(growsR [] M).1.map (zoneC M):=by rw[hzs,← hqs];exact HF.out.zs
 have heC:es=bloomsC M (growsR [] M).1:=by rw[hes,← hqs];exact HF.out.bs
 have hz12:zs.length≤12:=by rw[hzC,List.length_map];exact HF.out.c12
 have he12:es.length≤12:=by rw[heC];exact Nat.le_trans (bloomsC_len M _) HF.out.c12
 have hesl:E.length=es.length:=by rw[hes,← hbm,bloomsM_len E Lb hBl.1]
 have hst:SortI (H1.map (·.t)):=by rw[← HMT.out];exact HF.out.srt
 have hLb:∀ b ∈ Lb,b.length≤1099511627776:=fun b hb'=>by
  rw[bloomsM_b E Lb hBl.1,hbm,← hes,heC] at hb'
  obtain ⟨x,hx,rfl⟩:=List.mem_map.1 hb'
  have:=bloomsC_small M _ x hx
  omega
 rw[← hzs,← hzl] at hz
 rw[← hzl] at hh
 have HST:=mk0 (group_Stats hh (C_of hz) (C_of hb) hBl.1 (fun i h1 h2=>⟨(hBl.2 i h1 h2).1,by
  have h4:=(hBl.2 i h1 h2).2.2
  rw[(hBl.2 i h1 h2).1] at h4
  exact C_of h4⟩) (by omega) (by omega) hLb)
 rw[hbm,← hes,htl] at HST
 have HST:=mk0 (HST.out.mono (fun _ _ h=>StatG.told h))
 have hg0:=hga.c0
 have hgC:=C_of hga.R0
 rw[htl] at hg0 hgC
 have h0lo:(H1[0]'hn0).t=lo:=by
  rw[← hts,List.getElem?_map,List.getElem?_eq_getElem hn0] at hlo
  injection hlo
 have h1hi:(H1[H1.length-1]'(by omega)).t=hi:=by
  rw[← hts,List.length_map,List.getElem?_map,List.getElem?_eq_getElem (by omega)] at hhi
  injection hhi
 have BW3:=Below.refl w3.heap.size w3
 have B13:Below w1.heap.size w1 w3:=HB2.out.trans (hb3.mono HB2.out.size)
 have HRS:=mk0 (show ∀ w',Below w3.heap.size w3 w'→Calls Tryz.prog 19 #[.slice A1 H1.length c1] w' (ToldZ w' H1.length lo hi zs es) from fun w' hb=>by
  have hbb:=B13.trans (hb.mono B13.size)
  have h:=ref_Stats A1 c1 H1 L1 w' (Kd.C_below HC1.out hbb) (HO1.out.below hbb) hn0 (by omega) HCS.out lo hi h0lo h1hi (by rw[HM1.out];exact HF.out.kd) (by rw[HM1.out];exact HF.out.c12) (by rw[HM1.out];exact HF.out.ss)
  rw[HM1.out] at h
  exact h.mono (fun _ _ h=>StatP.told h hzC heC))
 have HGT:=mk0 (show ∀ w',Below w3.heap.size w3 w'→Calls Tryz.prog 20 #[.pointer (some ⟨w2.heap.size,0,none⟩)] w' (ToldX w' H1.length (lastI (H1.map (·.t)) (H1.map (·.t)).length) (tickA (H1.map (·.t)) (H1.map (·.t)).length)) from fun w' hb=>by
  have hx:=World.block_lt_of_cell? w3 _ hg0
  have h:=group_Times (w:=w') (g:=w2.heap.size) (At:=At) (ct:=ct) (ts:=H1.map (·.t)) (by rw[HTL.out];exact (hb.cell hx).trans hg0) (by have:=Kd.C_below hgC hb;rw[← hts] at this;rw[HTL.out];exact this) (by rw[HTL.out];exact hn0) (by rw[HTL.out];omega) hst
  exact h.mono (fun _ _ h=>IdxS.told h HTL.out))
 have HRT:=mk0 (show ∀ w',Below w3.heap.size w3 w'→Calls Tryz.prog 21 #[.slice A1 H1.length c1] w' (ToldX w' H1.length (lastI (H1.map (·.t)) (H1.map (·.t)).length) (tickA (H1.map (·.t)) (H1.map (·.t)).length)) from fun w' hb=>by
  have hbb:=B13.trans (hb.mono B13.size)
  exact (ref_Times A1 c1 H1 w' (Kd.C_below HC1.out hbb) (by rw[HTL.out];exact hn0) (by rw[HTL.out];omega) hst).mono (fun _ _ h=>IdxS.told h HTL.out))
 have B3:=mk0 (B2.out.trans (hb3.mono B2.out.size))
 generalize lastI (H1.map (·.t)) (H1.map (·.t)).length=la at *
 generalize tickA (H1.map (·.t)) (H1.map (·.t)).length=tk at *
 have HZ12:=mk0 hz12
 have HE12:=mk0 he12
 clear hs hqs htl hh hga hz hb hBl hbm hzc hec hzs hes hzl hzC heC hz12 he12 hesl hst hLb hg0 hgC h0lo h1hi BW3 B13 hlo hhi hg hb3 HF HRD HCS HM1 HO1 HC1 HMT HTL HLL HB2 hts hn0 hn16
 go_wp2_with fail
 (with_reducible refine HST.out.mono ?_)
 rintro e w4 ⟨P1,p1,Q1,q1,E1,rfl,hz4,hk4,hy4,hb4⟩
 obtain ⟨W4,hW4⟩:∃ W4,W4=w4.alloc (.cells #[.int .i64 H1.length,.int .i64 lo,.int .i64 hi,.slice P1 zs.length p1,.slice Q1 es.length q1] 45):=⟨_,rfl⟩
 have hn4:=heap_alloc_new w4 (.cells #[.int .i64 H1.length,.int .i64 lo,.int .i64 hi,.slice P1 zs.length p1,.slice Q1 es.length q1] 45)
 have ba4:=below_alloc (Below.refl w4.heap.size w4) (.cells #[.int .i64 H1.length,.int .i64 lo,.int .i64 hi,.slice P1 zs.length p1,.slice Q1 es.length q1] 45)
 rw[← hW4] at hn4 ba4
 have HN4:=mk0 hn4
 have HZ4:=mk0 (Kd.C_below hz4 ba4)
 have HK4:=mk0 (Kd.C_below hk4 ba4)
 have HY4:=mk0 (hy4.below ba4)
 have D4:=mk0 (hb4.trans (ba4.mono hb4.size))
 have HRS4:=mk0 (HRS.out W4 D4.out)
 clear hn4 ba4 hz4 hk4 hy4 hb4 HST HRS
 go_wp2_with fail
 rw[← hW4]
 clear hW4
 (with_reducible refine HRS4.out.mono ?_)
 rintro e w5 ⟨P2,p2,Q2,q2,E2,rfl,hz5,hk5,hy5,hb5⟩
 obtain ⟨W5,hW5⟩:∃ W5,W5=w5.alloc (.cells #[.int .i64 H1.length,.int .i64 lo,.int .i64 hi,.slice P2 zs.length p2,.slice Q2 es.length q2] 50):=⟨_,rfl⟩
 have hn5:=heap_alloc_new w5 (.cells #[.int .i64 H1.length,.int .i64 lo,.int .i64 hi,.slice P2 zs.length p2,.slice Q2 es.length q2] 50)
 have ba5:=below_alloc (Below.refl w5.heap.size w5) (.cells #[.int .i64 H1.length,.int .i64 lo,.int .i64 hi,.slice P2 zs.length p2,.slice Q2 es.length q2] 50)
 rw[← hW5] at hn5 ba5
 have HN5:=mk0 hn5
 have HZ5:=mk0 (Kd.C_below hz5 ba5)
 have HK5:=mk0 (Kd.C_below hk5 ba5)
 have HY5:=mk0 (hy5.below ba5)
 have F5:=mk0 (hb5.trans (ba5.mono hb5.size))
 have D5:=mk0 (D4.out.trans (F5.out.mono D4.out.size))
 have HGT5:=mk0 (HGT.out W5 D5.out)
 clear hn5 ba5 hz5 hk5 hy5 hb5 HRS4 HGT
 go_wp2_with fail
 rw[← hW5]
 clear hW5
 (with_reducible refine HGT5.out.mono ?_)
 rintro e w6 ⟨C1,d1,rfl,ht6,hb6⟩
 obtain ⟨W6,hW6⟩:∃ W6,W6=w6.alloc (.cells #[.int .i64 H1.length,.int .i64 la,.slice C1 tk.length d1] 54):=⟨_,rfl⟩
 have hn6:=heap_alloc_new w6 (.cells #[.int .i64 H1.length,.int .i64 la,.slice C1 tk.length d1] 54)
 have ba6:=below_alloc (Below.refl w6.heap.size w6) (.cells #[.int .i64 H1.length,.int .i64 la,.slice C1 tk.length d1] 54)
 rw[← hW6] at hn6 ba6
 have HN6:=mk0 hn6
 have HT6:=mk0 (Kd.C_below ht6 ba6)
 have F6:=mk0 (hb6.trans (ba6.mono hb6.size))
 have D6:=mk0 (D5.out.trans (F6.out.mono D5.out.size))
 have HRT6:=mk0 (HRT.out W6 D6.out)
 clear hn6 ba6 ht6 hb6 HGT5 HRT
 go_wp2_with fail
 rw[← hW6]
 clear hW6
 (with_reducible refine HRT6.out.mono ?_)
 rintro e w7 ⟨C2,d2,rfl,ht7,hb7⟩
 obtain ⟨W7,hW7⟩:∃ W7,W7=w7.alloc (.cells #[.int .i64 H1.length,.int .i64 la,.slice C2 tk.length d2] 56):=⟨_,rfl⟩
 have hn7:=heap_alloc_new w7 (.cells #[.int .i64 H1.length,.int .i64 la,.slice C2 tk.length d2] 56)
 have ba7:=below_alloc (Below.refl w7.heap.size w7) (.cells #[.int .i64 H1.length,.int .i64 la,.slice C2 tk.length d2] 56)
 have ba7':=ba7
 rw[← hW7] at hn7 ba7
 have F7:=mk0 (hb7.trans (ba7.mono hb7.size))
 have D7:=mk0 (D6.out.trans (F7.out.mono D6.out.size))
 have F67:=mk0 (F6.out.trans (F7.out.mono F6.out.size))
 have F57:=mk0 (F5.out.trans (F67.out.mono F5.out.size))
 have HTW:=mk0 (show Twice W7 H1.length lo hi la zs es tk E1 E2 w4.heap.size w5.heap.size w6.heap.size w7.heap.size P1 P2 Q1 Q2 C1 C2 p1 p2 q1 q2 d1 d2 from
  ⟨(F57.out.block _ (Array.getElem?_eq_some_iff.1 HN4.out).1).trans HN4.out,(F67.out.block _ (Array.getElem?_eq_some_iff.1 HN5.out).1).trans HN5.out,(F7.out.block _ (Array.getElem?_eq_some_iff.1 HN6.out).1).trans HN6.out,hn7,
   Kd.C_below HZ4.out F57.out,Kd.C_below HZ5.out F67.out,Kd.C_below HK4.out F57.out,Kd.C_below HK5.out F67.out,HY4.out.below F57.out,HY5.out.below F67.out,Kd.C_below HT6.out F7.out,Kd.C_below ht7 ba7⟩)
 have HSM:=mk0 (show Calls Tryz.prog 22 #[.slice C1 tk.length d1,.slice C2 tk.length d2] W7 (fun e w'=>e = .returned (.bool true)∧Below W7.heap.size W7 w') from by
  have h:=same_int C1 C2 d1 d2 tk tk W7 HTW.out.k1 HTW.out.k2
  rw[decide_eq_true (show tk=tk from rfl)] at h
  exact h)
 have m4:=(hb7.block _ (Nat.lt_of_lt_of_le (Array.getElem?_eq_some_iff.1 HN4.out).1 (F5.out.trans (F6.out.mono F5.out.size)).size)).trans (((F5.out.trans (F6.out.mono F5.out.size)).block _ (Array.getElem?_eq_some_iff.1 HN4.out).1).trans HN4.out)
 have m5:=(hb7.block _ (Nat.lt_of_lt_of_le (Array.getElem?_eq_some_iff.1 HN5.out).1 F6.out.size)).trans ((F6.out.block _ (Array.getElem?_eq_some_iff.1 HN5.out).1).trans HN5.out)
 have m6:=(hb7.block _ (Array.getElem?_eq_some_iff.1 HN6.out).1).trans HN6.out
 have l4:=(Array.getElem?_eq_some_iff.1 m4).1
 have l5:=(Array.getElem?_eq_some_iff.1 m5).1
 have l6:=(Array.getElem?_eq_some_iff.1 m6).1
 have a0:∀ o,(w7.alloc o).cell? ⟨w4.heap.size,0,none⟩=_:=fun o=>(World.cell?_alloc_lt w7 o ⟨w4.heap.size,0,none⟩ l4).trans (cell_of_heap (i:=0) m4 rfl)
 have a1:∀ o,(w7.alloc o).cell? ⟨w4.heap.size,1,none⟩=_:=fun o=>(World.cell?_alloc_lt w7 o ⟨w4.heap.size,1,none⟩ l4).trans (cell_of_heap (i:=1) m4 rfl)
 have a2:∀ o,(w7.alloc o).cell? ⟨w4.heap.size,2,none⟩=_:=fun o=>(World.cell?_alloc_lt w7 o ⟨w4.heap.size,2,none⟩ l4).trans (cell_of_heap (i:=2) m4 rfl)
 have a3:∀ o,(w7.alloc o).cell? ⟨w4.heap.size,3,none⟩=_:=fun o=>(World.cell?_alloc_lt w7 o ⟨w4.heap.size,3,none⟩ l4).trans (cell_of_heap (i:=3) m4 rfl)
 have a4:∀ o,(w7.alloc o).cell? ⟨w4.heap.size,4,none⟩=_:=fun o=>(World.cell?_alloc_lt w7 o ⟨w4.heap.size,4,none⟩ l4).trans (cell_of_heap (i:=4) m4 rfl)
 have b0:∀ o,(w7.alloc o).cell? ⟨w5.heap.size,0,none⟩=_:=fun o=>(World.cell?_alloc_lt w7 o ⟨w5.heap.size,0,none⟩ l5).trans (cell_of_heap (i:=0) m5 rfl)
 have b1:∀ o,(w7.alloc o).cell? ⟨w5.heap.size,1,none⟩=_:=fun o=>(World.cell?_alloc_lt w7 o ⟨w5.heap.size,1,none⟩ l5).trans (cell_of_heap (i:=1) m5 rfl)
 have b2:∀ o,(w7.alloc o).cell? ⟨w5.heap.size,2,none⟩=_:=fun o=>(World.cell?_alloc_lt w7 o ⟨w5.heap.size,2,none⟩ l5).trans (cell_of_heap (i:=2) m5 rfl)
 have b3:∀ o,(w7.alloc o).cell? ⟨w5.heap.size,3,none⟩=_:=fun o=>(World.cell?_alloc_lt w7 o ⟨w5.heap.size,3,none⟩ l5).trans (cell_of_heap (i:=3) m5 rfl)
 have b4:∀ o,(w7.alloc o).cell? ⟨w5.heap.size,4,none⟩=_:=fun o=>(World.cell?_alloc_lt w7 o ⟨w5.heap.size,4,none⟩ l5).trans (cell_of_heap (i:=4) m5 rfl)
 have i0:∀ o,(w7.alloc o).cell? ⟨w6.heap.size,0,none⟩=_:=fun o=>(World.cell?_alloc_lt w7 o ⟨w6.heap.size,0,none⟩ l6).trans (cell_of_heap (i:=0) m6 rfl)
 have i1:∀ o,(w7.alloc o).cell? ⟨w6.heap.size,1,none⟩=_:=fun o=>(World.cell?_alloc_lt w7 o ⟨w6.heap.size,1,none⟩ l6).trans (cell_of_heap (i:=1) m6 rfl)
 have i2:∀ o,(w7.alloc o).cell? ⟨w6.heap.size,2,none⟩=_:=fun o=>(World.cell?_alloc_lt w7 o ⟨w6.heap.size,2,none⟩ l6).trans (cell_of_heap (i:=2) m6 rfl)
 have BZ:=mk0 (B3.out.trans (D7.out.mono B3.out.size))
 clear ht7 hb7 hn7 ba7 ba7' m4 m5 m6 l4 l5 l6 HRT6 HN4 HN5 HN6 HZ4 HZ5 HK4 HK5 HY4 HY5 HT6 D4 D5 D6 D7 F5 F6 F7 F57 F67 B3
 go_wp2_with fail
 rw[← hW7]
 clear hW7 a0 a1 a2 a3 a4 b0 b1 b2 b3 b4 i0 i1 i2
 (with_reducible refine HSM.out.mono ?_)
 rintro e w8 ⟨rfl,hb8⟩
 generalize w4.heap.size=s1 at *
 generalize w5.heap.size=s2 at *
 generalize w6.heap.size=s3 at *
 generalize w7.heap.size=s4 at *
 have HTW:=mk0 (HTW.out.below hb8)
 have BZ:=mk0 (BZ.out.trans (hb8.mono BZ.out.size))
 clear hb8 HSM
 go_wp2_with fail
 go_loopw[12] (fun v12 wr=>∃ i:Nat,i≤zs.length∧v12 = .int .i64 i∧Aside0 (Twice wr H1.length lo hi la zs es tk E1 E2 s1 s2 s3 s4 P1 P2 Q1 Q2 C1 C2 p1 p2 q1 q2 d1 d2)∧Aside0 (Below w.heap.size w wr)) (fun i _=>zs.length-(intOf i).toNat)
 case atStart=>exact ⟨0,by omega,rfl,HTW,BZ⟩
 case round=>
  clear HTW BZ
  obtain ⟨i,hle,rfl,HTW,BZ⟩:=hrel
  have hzi:=HZ12.out
  by_cases hil:i<zs.length
  ·have hil2:(i:Int)<zs.length:=by omega
   have hzi2:(zs.length:Int)≤12:=by omega
   obtain ⟨g1,o1,e1,hx⟩:=kz_open HTW.out.z1 (by omega)
   obtain ⟨g2,o2,e2,hy⟩:=kz_open HTW.out.z2 (by omega)
   subst e1 e2
   obtain ⟨y,hyy⟩:∃ y,y=zs[i]:=⟨_,rfl⟩
   replace hx:=hx i hil
   replace hy:=hy i hil
   rw[← hyy] at hx hy
   obtain ⟨x0,x1,x2,x3,x4,x5,x6,x7⟩:=hx
   obtain ⟨y0,y1,y2,y3,y4,y5,y6,y7⟩:=hy
   have u3:=cell_of_heap (i:=3) HTW.out.h1 rfl
   have v3:=cell_of_heap (i:=3) HTW.out.h2 rfl
   have l1:=(Array.getElem?_eq_some_iff.1 HTW.out.h1).1
   have l2:=(Array.getElem?_eq_some_iff.1 HTW.out.h2).1
   have lg1:=World.block_lt_of_cell? wr _ x0
   have lg2:=World.block_lt_of_cell? wr _ y0
   obtain ⟨W1,hW1⟩:∃ W1,W1=wr.alloc (.cells #[.int .i64 y.z.kind,.int .i64 y.z.rows,.int .i64 y.z.nulls,.int .i64 y.z.minN,.int .i64 y.z.maxN,.string y.z.minS,.string y.z.maxS] 60):=⟨_,rfl⟩
   have hn1:=heap_alloc_new wr (.cells #[.int .i64 y.z.kind,.int .i64 y.z.rows,.int .i64 y.z.nulls,.int .i64 y.z.minN,.int .i64 y.z.maxN,.string y.z.minS,.string y.z.maxS] 60)
   have ba1:=below_alloc (Below.refl wr.heap.size wr) (.cells #[.int .i64 y.z.kind,.int .i64 y.z.rows,.int .i64 y.z.nulls,.int .i64 y.z.minN,.int .i64 y.z.maxN,.string y.z.minS,.string y.z.maxS] 60)
   have hs1:W1.heap.size=wr.heap.size+1:=by rw[hW1];simp
   rw[← hW1] at hn1 ba1
   obtain ⟨W2,hW2⟩:∃ W2,W2=W1.alloc (.cells #[.int .i64 y.z.kind,.int .i64 y.z.rows,.int .i64 y.z.nulls,.int .i64 y.z.minN,.int .i64 y.z.maxN,.string y.z.minS,.string y.z.maxS] 63):=⟨_,rfl⟩
   have hn2:=heap_alloc_new W1 (.cells #[.int .i64 y.z.kind,.int .i64 y.z.rows,.int .i64 y.z.nulls,.int .i64 y.z.minN,.int .i64 y.z.maxN,.string y.z.minS,.string y.z.maxS] 63)
   have ba2:=below_alloc (Below.refl W1.heap.size W1) (.cells #[.int .i64 y.z.kind,.int .i64 y.z.rows,.int .i64 y.z.nulls,.int .i64 y.z.minN,.int .i64 y.z.maxN,.string y.z.minS,.string y.z.maxS] 63)
   rw[← hW2] at hn2 ba2
   have ba12:=ba1.trans (ba2.mono ba1.size)
   have m1:=(ba2.block _ (Array.getElem?_eq_some_iff.1 hn1).1).trans hn1
   rw[hs1] at hn2
   have v3a:∀ o,(wr.alloc o).cell? ⟨s2,3,none⟩=_:=fun o=>(World.cell?_alloc_lt wr o ⟨s2,3,none⟩ l2).trans v3
   have y1a:∀ o,(wr.alloc o).cell? ⟨g2,o2+i*8+1,none⟩=_:=fun o=>(World.cell?_alloc_lt wr o ⟨g2,o2+i*8+1,none⟩ lg2).trans y1
   have y2a:∀ o,(wr.alloc o).cell? ⟨g2,o2+i*8+2,none⟩=_:=fun o=>(World.cell?_alloc_lt wr o ⟨g2,o2+i*8+2,none⟩ lg2).trans y2
   have y3a:∀ o,(wr.alloc o).cell? ⟨g2,o2+i*8+3,none⟩=_:=fun o=>(World.cell?_alloc_lt wr o ⟨g2,o2+i*8+3,none⟩ lg2).trans y3
   have y4a:∀ o,(wr.alloc o).cell? ⟨g2,o2+i*8+4,none⟩=_:=fun o=>(World.cell?_alloc_lt wr o ⟨g2,o2+i*8+4,none⟩ lg2).trans y4
   have y5a:∀ o,(wr.alloc o).cell? ⟨g2,o2+i*8+5,none⟩=_:=fun o=>(World.cell?_alloc_lt wr o ⟨g2,o2+i*8+5,none⟩ lg2).trans y5
   have y6a:∀ o,(wr.alloc o).cell? ⟨g2,o2+i*8+6,none⟩=_:=fun o=>(World.cell?_alloc_lt wr o ⟨g2,o2+i*8+6,none⟩ lg2).trans y6
   have y7a:∀ o,(wr.alloc o).cell? ⟨g2,o2+i*8+7,none⟩=_:=fun o=>(World.cell?_alloc_lt wr o ⟨g2,o2+i*8+7,none⟩ lg2).trans y7
   have HTX:=mk0 (HTW.out.below ba12)
   have BX:=mk0 (BZ.out.trans (ba12.mono BZ.out.size))
   have X0:=mk0 ((ba12.cell lg1).trans x0)
   have Y0:=mk0 ((ba12.cell lg2).trans y0)
   have M1:=mk0 m1
   have M2:=mk0 hn2
   clear hn1 ba1 hs1 ba2 ba12 hn2 m1 l1 l2 lg1 lg2 hyy y0
   go_wp2_with fail
   rw[← hW1,← hW2]
   clear hW1 hW2 x1 x2 x3 x4 x5 x6 x7 y1 y2 y3 y4 y5 y6 y7 y1a y2a y3a y4a y5a y6a y7a u3 v3 v3a x0
   have x0:=X0.out
   have y0:=Y0.out
   have u3:=cell_of_heap (i:=3) HTX.out.h1 rfl
   have v3:=cell_of_heap (i:=3) HTX.out.h2 rfl
   have p0:=cell_of_heap (i:=0) M1.out rfl
   have p1':=cell_of_heap (i:=1) M1.out rfl
   have p2':=cell_of_heap (i:=2) M1.out rfl
   have p3:=cell_of_heap (i:=3) M1.out rfl
   have p4:=cell_of_heap (i:=4) M1.out rfl
   have p5:=cell_of_heap (i:=5) M1.out rfl
   have p6:=cell_of_heap (i:=6) M1.out rfl
   have q0:=cell_of_heap (i:=0) M2.out rfl
   have q1':=cell_of_heap (i:=1) M2.out rfl
   have q2':=cell_of_heap (i:=2) M2.out rfl
   have q3:=cell_of_heap (i:=3) M2.out rfl
   have q4:=cell_of_heap (i:=4) M2.out rfl
   have q5:=cell_of_heap (i:=5) M2.out rfl
   have q6:=cell_of_heap (i:=6) M2.out rfl
   have hb0:(!y.col.toList==y.col.toList)=false:=by simp
   have hb1:(!y.z.minS.toList==y.z.minS.toList)=false:=by simp
   have hb2:(!y.z.maxS.toList==y.z.maxS.toList)=false:=by simp
   clear HTW BZ X0 Y0
   go_quiet (fail)
   have BQ:=Drawn0.below (Drawn0.step (Drawn0.refl W2) nq)
   have HT3:=mk0 (HTX.out.below BQ)
   have BZ3:=mk0 (BX.out.trans (BQ.mono BX.out.size))
   clear BQ x0 y0 u3 v3 p0 p1' p2' p3 p4 p5 p6 q0 q1' q2' q3 q4 q5 q6 HTX BX M1 M2
   generalize W2.drewN nq=W3 at *
   go_wp2
   go_roundw
   case rel=>exact ⟨i+1,by omega,by go_num,HT3,BZ3⟩
   case measure=>simp[intOf];omega
  ·have hil2:¬ (i:Int)<zs.length:=by omega
   have hei:=HE12.out
   have u3:=cell_of_heap (i:=3) HTW.out.h1 rfl
   go_wp2_with fail
   clear u3
   go_loopw[15] (fun v15 wq=>∃ j:Nat,j≤es.length∧v15 = .int .i64 j∧Aside0 (Twice wq H1.length lo hi la zs es tk E1 E2 s1 s2 s3 s4 P1 P2 Q1 Q2 C1 C2 p1 p2 q1 q2 d1 d2)∧Aside0 (Below w.heap.size w wq)) (fun i _=>es.length-(intOf i).toNat)
   case atStart=>exact ⟨0,by omega,rfl,HTW,BZ⟩
   case round=>
    clear HTW BZ
    generalize wr=WQ at *
    obtain ⟨j,hje,rfl,HTW,BZ⟩:=hrel
    have u4:=cell_of_heap (i:=4) HTW.out.h1 rfl
    have v4:=cell_of_heap (i:=4) HTW.out.h2 rfl
    by_cases hjl:j<es.length
    ·have hjl2:(j:Int)<es.length:=by omega
     have hE1:=HTW.out.y1.1
     have hE2:=HTW.out.y2.1
     obtain ⟨g1,o1,e1,hx⟩:=kb_open HTW.out.e1 (by omega)
     obtain ⟨g2,o2,e2,hy⟩:=kb_open HTW.out.e2 (by omega)
     subst e1 e2
     obtain ⟨x0,x1,x2⟩:=hx j (by omega)
     obtain ⟨y0,y1,y2⟩:=hy j (by omega)
     obtain ⟨f0,f1,f2,f3⟩:=HTW.out.y1.2 j (by omega) hjl
     obtain ⟨k0,k1,k2,k3⟩:=HTW.out.y2.2 j (by omega) hjl
     rw[f0] at x0
     rw[f1] at x1
     rw[f2] at x2
     rw[k0] at y0
     rw[k1] at y1
     rw[k2] at y2
     clear f0 f1 f2 k0 k1 k2 hx hy
     obtain ⟨y,hyy⟩:∃ y,y=es[j]:=⟨_,rfl⟩
     rw[← hyy] at x0 x1 x2 y0 y1 y2 f3 k3
     generalize E1[j].A=X1 at *
     generalize E1[j].c=z1 at *
     generalize E2[j].A=X2 at *
     generalize E2[j].c=z2 at *
     have cv1:∀ k,(convert 24 9 (.slice X1 y.b.length z1)).run Tryz.prog (WQ.drewN k) = .ok (.string (str y.b)) (WQ.drewN k):=fun k=>u8_string (P:=Tryz.prog) (c:=z1) Tryz.underlying24 Tryz.underlying5 Tryz.underlying9 (Kd.C_below f3 (Drawn0.below (Drawn0.step (Drawn0.refl WQ) k)))
     have cv2:∀ k,(convert 24 9 (.slice X2 y.b.length z2)).run Tryz.prog (WQ.drewN k) = .ok (.string (str y.b)) (WQ.drewN k):=fun k=>u8_string (P:=Tryz.prog) (c:=z2) Tryz.underlying24 Tryz.underlying5 Tryz.underlying9 (Kd.C_below k3 (Drawn0.below (Drawn0.step (Drawn0.refl WQ) k)))
     have hb0:(!y.col.toList==y.col.toList)=false:=by simp
     have hb1:(!(str y.b).toList==(str y.b).toList)=false:=by simp
     clear hyy f3 k3
     go_wp2_with fail
     go_quiet (fail)
     have BQ:=Drawn0.below (Drawn0.step (Drawn0.refl WQ) nq)
     have HT3:=mk0 (HTW.out.below BQ)
     have BZ3:=mk0 (BZ.out.trans (BQ.mono BZ.out.size))
     clear BQ x0 x1 x2 y0 y1 y2 u4 v4 cv1 cv2 HTW BZ
     generalize WQ.drewN nq=W3 at *
     go_wp2
     go_roundw
     case rel=>exact ⟨j+1,by omega,by go_num,HT3,BZ3⟩
     case measure=>simp[intOf];omega
    ·have hjl2:¬ (j:Int)<es.length:=by omega
     have HKN:=mk0 (law16_known WQ)
     go_wp2_with fail
     (with_reducible refine HKN.out.mono ?_)
     rintro e w9 ⟨rfl,hb9⟩
     have BY:=mk0 (BZ.out.trans (hb9.mono BZ.out.size))
     clear hb9
     go_wp2
     go_ret
     exact ⟨rfl,BY.out⟩
end Go.Proofs.YtcmffaejcnbheaaGreat.Lib0

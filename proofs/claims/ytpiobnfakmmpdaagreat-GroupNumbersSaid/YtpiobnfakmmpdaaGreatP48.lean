import Derived.Lib.SlBytesConst
import Derived.ProofKit
import Derived.OpenShut
import Derived.Deep.DeepHandedRow
import Derived.Deep.Grids
import Derived.Lib.SmallJoins
import Derived.SizedLaws
import Derived.Test.YtpiobnfakmmpdaaGreatP44
import Derived.Test.YtpiobnfakmmpdaaGreatP47
set_option linter.unusedVariables false
set_option linter.unusedSimpArgs false
namespace Go.Proofs.YtpiobnfakmmpdaaGreat.Lib0
open Go.RowKit Go.Proofs.YtpiobnfakmmpdaaGreatW.PrintWords Go.ChangeMaps
def numM:List RowM:=(List.range 17).map fun i:Nat=>(⟨1,(i:Int),[]⟩:RowM)
theorem numM_next (j:Nat) (h:j<17):numM.take (j+1)=numM.take j++[⟨1,(j:Int),[]⟩]:=by
 rw[take_next numM j (by simpa [numM] using h)]
 simp[numM]
theorem I64_none (M:List RowM) (h:∀ r ∈ M,r.cs = []):∀ r ∈ M,∀ c ∈ r.cs,I64 c.n:=fun r hr c hc=>by rw[h r hr] at hc;cases hc
theorem numM_cs:∀ r ∈ numM,r.cs = []:=by
 intro r hr
 unfold numM at hr
 obtain ⟨i,_,rfl⟩:=List.mem_map.1 hr
 rfl
set_option maxRecDepth 100000 in
theorem num_w17:writeM numM=([],4):=by kernel_rfl
set_option maxRecDepth 100000 in
theorem num_w16:(writeM (numM.take 16)).2=0:=by kernel_rfl
set_option maxRecDepth 100000 in
theorem num_neg:writeM [⟨0,-1,[]⟩]=([],1):=by kernel_rfl
set_option maxRecDepth 100000 in
theorem num_back:writeM [⟨1,1,[]⟩,⟨1,0,[]⟩]=([],12):=by kernel_rfl
set_option maxRecDepth 100000 in
theorem num_same:writeM [⟨1,1,[]⟩,⟨1,1,[]⟩]=([],12):=by kernel_rfl
set_option maxRecDepth 100000 in
theorem num_kind:writeM [⟨1,0,[⟨⟨#[97]⟩,1,5,⟨#[]⟩⟩]⟩,⟨1,1,[⟨⟨#[97]⟩,2,0,⟨#[120]⟩⟩]⟩]=([],22):=by kernel_rfl
set_option maxRecDepth 100000 in
theorem num_r0:(readG []).isNone=true:=by kernel_rfl
set_option maxRecDepth 100000 in
theorem num_r8:(readG [110,111,32,103,114,111,117,112]).isNone=true:=by kernel_rfl
theorem RowsOn.takeN {w:World} {H:List RowH} {L:List (List CellM)} (h:RowsOn w H L) (n:Nat):RowsOn w (H.take n) (L.take n):=⟨by simp[h.1],fun i h1 h2=>by
 rw[List.getElem_take,List.getElem_take]
 exact h.2 i (by rw[List.length_take] at h1;omega) (by rw[List.length_take] at h2;omega)⟩
theorem write_one (W:World) (g:Nat) (a:RowH) (la:List CellM) (hn:W.heap[g]?=some (.cells #[.int .i64 a.t,.int .i64 a.s,.slice a.A a.n a.c] 35 (0,0))) (ha:a.n=la.length∧la.length≤a.c∧kc.C W a.A la.length la) (hi:∀ c ∈ la,I64 c.n) :
  Calls Tryz.prog 19 #[.slice (some ⟨g,0,none⟩) 1 1] W (ToldB 5 W (writeM [⟨a.t,a.s,la⟩]).1 (writeM [⟨a.t,a.s,la⟩]).2):=by
 have hr:=C_of (kr_flat.R_new (base:=0) (xs:=[a]) (cap:=1) (Nat.zero_le _) hn (Nat.le_refl 1) (by decide) rfl rfl)
 have ho:RowsOn W [a] [la]:=⟨rfl,fun i h1 h2=>by
  rcases i with _ | i
  ·exact ha
  ·simp at h1⟩
 have h:=group_Write (some ⟨g,0,none⟩) 1 [a] [la] _ hr ho (fun r hr c hc=>by
  have hr:r ∈ [(⟨a.t,a.s,la⟩:RowM)]:=hr
  rw[List.mem_singleton.1 hr] at hc
  exact hi c hc)
 rw[writeR_M ho.1] at h
 exact h
theorem write_two (W:World) (g:Nat) (a b:RowH) (la lb:List CellM) (hn:W.heap[g]?=some (.cells #[.int .i64 a.t,.int .i64 a.s,.slice a.A a.n a.c,.int .i64 b.t,.int .i64 b.s,.slice b.A b.n b.c] 35 (0,0))) (ha:a.n=la.length∧la.length≤a.c∧kc.C W a.A la.length la) (hb:b.n=lb.length∧lb.length≤b.c∧kc.C W b.A lb.length lb) (hia:∀ c ∈ la,I64 c.n) (hib:∀ c ∈ lb,I64 c.n) :
  Calls Tryz.prog 19 #[.slice (some ⟨g,0,none⟩) 2 2] W (ToldB 5 W (writeM [⟨a.t,a.s,la⟩,⟨b.t,b.s,lb⟩]).1 (writeM [⟨a.t,a.s,la⟩,⟨b.t,b.s,lb⟩]).2):=by
 have hr:=C_of (kr_flat.R_new (base:=0) (xs:=[a,b]) (cap:=2) (Nat.zero_le _) hn (Nat.le_refl 2) (by decide) rfl rfl)
 have ho:RowsOn W [a,b] [la,lb]:=⟨rfl,fun i h1 h2=>by
  rcases i with _ | _ | i
  ·exact ha
  ·exact hb
  ·simp at h1;omega⟩
 have h:=group_Write (some ⟨g,0,none⟩) 2 [a,b] [la,lb] _ hr ho (fun r hr c hc=>by
  have hr:r ∈ [(⟨a.t,a.s,la⟩:RowM),⟨b.t,b.s,lb⟩]:=hr
  rcases List.mem_cons.1 hr with rfl | hr
  ·exact hia c hc
  ·rw[List.mem_singleton.1 hr] at hc
   exact hib c hc)
 rw[writeR_M ho.1] at h
 exact h
theorem u8_C_mark (w:World) (l:List UInt8) (e:TypeId) (fr:Nat × Nat) (hn:l.length≤9223372036854775807):u8.C (w.alloc (.cells (l.map encB).toArray e fr)) (some ⟨w.heap.size,0,none⟩) l.length l:=by
 refine ⟨rfl,hn,fun _=>⟨_,rfl,fun j p hp=>⟨[encB p],rfl,rfl,fun i u hu=>?_⟩⟩⟩
 have hi:i=0:=by
  rcases i with _ | i
  ·rfl
  ·simp at hu
 subst hi
 simp only[List.getElem?_cons_zero,Option.some.injEq] at hu
 subst hu
 have e1:(⟨w.heap.size,0,none⟩:Addr).add (j*u8.sz+0)=⟨w.heap.size,j,none⟩:=by
  rw[add_plain];show (⟨w.heap.size,j*1+0,none⟩:Addr)=_;simp
 rw[e1,World.cell?_alloc_mark]
 simp[hp]
theorem cutW3 {Good:World→Option Addr→Nat→Prop} {Pp:World→Option Addr→Nat→Prop} {G:Prop} (h:Aside0 (∀ a b c,Good a b c→Pp a b c)→G) (k:∀ a b c,Good a b c→Pp a b c):G:=h ⟨k⟩
set_option maxHeartbeats 12800000 in
set_option maxRecDepth 100000 in
theorem walk_GroupNumbers (w:World):Calls Tryz.prog 4 #[] w (TrueEnd w):=by
 have mixed:Tryz.prog.follows .mixedOrders=true:=by kernel_rfl
 have late:Tryz.prog.follows .lateStores=true:=by kernel_rfl
 have HR0:=mk0 (Kd.R_nil kr 35 w w.heap.size (fun _=>True))
 have HB0:=mk0 (Below.refl w.heap.size w)
 go_enter Tryz.func4,Tryz.ntmps4
 go_wp2_with fail
 go_loopw[1,2] (fun v1 v2 wr=>∃ (j:Nat) (H:List RowH) (L:List (List CellM)),j≤17∧v2 = .int .i64 j∧Aside0 (rowsM H L=numM.take j)∧Aside0 (H.length=j)∧Aside0 (RowsR wr w.heap.size H L)∧Aside0 (kr.R 35 wr w.heap.size (fun _=>True) v1 H)∧Aside0 (Below w.heap.size w wr)) (fun _ i _=>17-(intOf i).toNat)
 case atStart=>exact ⟨0,[],[],by omega,rfl,⟨rfl⟩,⟨rfl⟩,⟨⟨rfl,fun i h1=>by simp at h1⟩⟩,HR0,HB0⟩
 case round=>
  clear HR0 HB0
  obtain ⟨j,H,L,hj,rfl,HM,HN,HO,HR,HB⟩:=hrel
  obtain ⟨A1,c1,rfl,hc1,_⟩:=Kd.R_reads HR.out
  by_cases hlt:j<17
  ·have hlt2:(j:Int)<17:=by omega
   have HA1:=mk0 (keep_At0 1 (j:Int) wr)
   go_wp2_with fail
   (with_reducible refine HA1.out.mono ?_)
   rintro e w4 ⟨A4,c4,rfl,hc4,hr4,hb4⟩
   have HBA:=mk0 (HB.out.trans (hb4.mono HB.out.size))
   have HRA:=mk0 (Kd.R_below HR.out hb4)
   have HOA:=mk0 (HO.out.below hb4)
   have HCA:=mk0 (Kd.R_lower (base':=w.heap.size) hr4 HB.out.size)
   have HC4:=mk0 hc4
   have HLW:=mk0 (show H.length≤1099511627776 by have:=HN.out;omega)
   have HNX:=mk0 (numM_next j hlt)
   clear hc4 hr4 hb4 HA1 HR HO HB
   go_wp2_with (at_builtin;go_loud (refine kr_append (W:=w4) (.tmp 27) (.tmp 30) 23 35 (.slice A1 H.length c1) H ⟨1,(j:Int),A4,0,c4⟩ w.heap.size rfl rfl Tryz.underlying23 info_row rfl rfl HRA.out HBA.out.size HLW.out ?_))
   intro v7 w7 hr7 hb7 hg7 hat7
   have HO7:=mk0 ((HOA.out.grown HRA.out (by decide) hg7).snoc ⟨1,(j:Int),A4,0,c4⟩ [] rfl HC4.out (R_grown_ne rfl HCA.out HRA.out (by decide) hg7))
   have HB7:=mk0 (HBA.out.trans hb7)
   have HM7:=mk0 (show rowsM (H++[(⟨1,(j:Int),A4,0,c4⟩:RowH)]) (L++[[]])=numM.take (j+1) by
    rw[rowsM_snoc _ _ _ _ HOA.out.1,HM.out,HNX.out])
   have HH7:=mk0 (show (H++[(⟨1,(j:Int),A4,0,c4⟩:RowH)]).length=j+1 by rw[List.length_append,HN.out];rfl)
   have HR7:=mk0 hr7
   generalize H++[(⟨1,(j:Int),A4,0,c4⟩:RowH)]=H2 at *
   clear hr7 hb7 hg7 hat7 HRA HOA HCA HBA HC4 HLW HNX HM HN
   go_wp2
   go_roundw
   case rel=>exact ⟨j+1,H2,_,by omega,by go_num,HM7,HH7,HO7,HR7,HB7⟩
   case measure=>simp[intOf];omega
  ·have hj17:j=17:=by omega
   subst hj17
   have hMK:rowsM H L=numM:=by rw[HM.out];exact List.take_of_length_le (by decide)
   have hlH:=HN.out
   have hlL:L.length=17:=by rw[← HO.out.1];exact hlH
   have hon:=HO.out.on
   have hCR:=C_of HR.out
   have hH0:0<H.length:=by omega
   have hH1:1<H.length:=by omega
   have hL0:0<L.length:=by omega
   have hL1:1<L.length:=by omega
   have e0:(⟨H[0].t,H[0].s,L[0]⟩:RowM)=⟨1,0,[]⟩:=by
    rw[← rowsM_get H L 0 hH0 hL0 (by rw[hMK];decide)]
    simp only[hMK]
    rfl
   have e1:(⟨H[1].t,H[1].s,L[1]⟩:RowM)=⟨1,1,[]⟩:=by
    rw[← rowsM_get H L 1 hH1 hL1 (by rw[hMK];decide)]
    simp only[hMK]
    rfl
   have ho0:=hon.2 0 hH0 hL0
   have ho1:=hon.2 1 hH1 hL1
   obtain ⟨bq,oq,eA,hxq⟩:=kr_open hCR hH0
   have x0:=hxq 0 hH0
   have x1:=hxq 1 hH1
   simp only[Nat.zero_mul,Nat.add_zero,Nat.one_mul] at x0 x1
   subst eA
   obtain ⟨h0,hh0⟩:∃ h,h=H[0]:=⟨_,rfl⟩
   obtain ⟨h1,hh1⟩:∃ h,h=H[1]:=⟨_,rfl⟩
   rw[← hh0] at e0 x0 ho0
   rw[← hh1] at e1 x1 ho1
   obtain ⟨l0,hl0⟩:∃ h,h=L[0]:=⟨_,rfl⟩
   obtain ⟨l1,hl1⟩:∃ h,h=L[1]:=⟨_,rfl⟩
   rw[← hl0] at e0 ho0
   rw[← hl1] at e1 ho1
   clear hh0 hh1 hl0 hl1 hxq
   obtain ⟨t0,s0,A0,n0,q0⟩:=h0
   obtain ⟨t1,s1,B1,n1,q1⟩:=h1
   dsimp only at e0 e1 ho0 ho1 x0 x1
   injection e0 with e00 e01 e02
   injection e1 with e10 e11 e12
   subst e00 e01 e02 e10 e11 e12
   obtain ⟨p0,p1,p2⟩:=ho0
   obtain ⟨r0,r1,r2⟩:=ho1
   rw[List.length_nil] at p0 r0
   subst p0 r0
   have hb63:bq<wr.heap.size:=World.block_lt_of_cell? wr _ x0.1
   have HX:=mk0 (fun W (hb:Below wr.heap.size wr W)=>(show (W.cell? ⟨bq,oq,none⟩=some (.int .i64 1)∧W.cell? ⟨bq,oq+1,none⟩=some (.int .i64 0)∧W.cell? ⟨bq,oq+2,none⟩=some (.slice A0 0 q0))∧(W.cell? ⟨bq,oq+3,none⟩=some (.int .i64 1)∧W.cell? ⟨bq,oq+3+1,none⟩=some (.int .i64 1)∧W.cell? ⟨bq,oq+3+2,none⟩=some (.slice B1 0 q1)) from
    ⟨⟨(hb.cell hb63).trans x0.1,(hb.cell hb63).trans x0.2.1,(hb.cell hb63).trans x0.2.2⟩,⟨(hb.cell hb63).trans x1.1,(hb.cell hb63).trans x1.2.1,(hb.cell hb63).trans x1.2.2⟩⟩))
   have HC0:=mk0 (fun W (hb:Below wr.heap.size wr W)=>Kd.C_below p2 hb)
   have HC1:=mk0 (fun W (hb:Below wr.heap.size wr W)=>Kd.C_below r2 hb)
   have HW1:=mk0 (group_Write (some ⟨bq,oq,none⟩) c1 _ _ wr hCR hon (by rw[hMK];exact I64_none _ numM_cs))
   rw[writeR_M hon.1,hMK,num_w17] at HW1
   have hst:=sl_take (P:=Tryz.prog) kr 23 35 .i64 Tryz.underlying23 info_row rfl (some ⟨bq,oq,none⟩) _ c1 16 (by omega) (by rw[hlH];decide) hc1
   rw[show Int.toNat 16=16 from rfl] at hst
   have HW2:=mk0 (fun W (hb:Below wr.heap.size wr W)=>group_Write (some ⟨bq,oq,none⟩) c1 _ _ W (hst.2.2 W (Kd.C_below hCR hb)) ((RowsOn.below hon hb).takeN 16) (by rw[rowsM_take,hMK];exact I64_none _ (fun r hr=>numM_cs r (List.mem_of_mem_take hr))))
   have HW2:Aside0 (∀ W,Below wr.heap.size wr W→Calls Tryz.prog 19 #[.slice (some ⟨bq,oq,none⟩) (H.take 16).length c1] W (ToldB 5 W (writeM (numM.take 16)).1 0)):=⟨fun W hb=>by
    have h:=HW2.out W hb
    rw[writeR_M (hon.takeN 16).1,rowsM_take,hMK,num_w16] at h
    exact h⟩
   obtain ⟨qs,hq1,_,_⟩:=readG_write (M:=numM.take 16) num_w16 (I64_none _ (fun r hr=>numM_cs r (List.mem_of_mem_take hr)))
   have HQ:=mk0 hq1
   have HZL:=mk0 (write_small (M:=numM.take 16) num_w16 (I64_none _ (fun r hr=>numM_cs r (List.mem_of_mem_take hr))))
   have hsl:=hst.1
   have hH1i:(1:Int)<H.length:=by omega
   have hH0i:(0:Int)<H.length:=by omega
   obtain ⟨T16,hT16⟩:∃ n,n=(H.take 16).length:=⟨_,rfl⟩
   rw[← hT16] at HW2 hsl
   generalize (writeM (numM.take 16)).1=z at *
   generalize (numM.take 16).map (·.t)=zt at *
   generalize (numM.take 16).map (·.s)=zs at *
   clear hMK hlH hlL hon hCR HM HN HO HR x0 x1 p2 r2 hst hT16 hc1 hq1 hb63 hL0 hL1 hj hlt
   go_wp2_with fail
   (with_reducible refine HW1.out.mono ?_)
   rintro e w2 ⟨v2,rfl,_,hb2⟩
   obtain ⟨A2,c2,rfl⟩:=Kd.R_slice (by assumption:u8.R _ _ _ _ v2 _)
   have B2:=mk0 hb2
   have HW22:=mk0 (HW2.out w2 hb2)
   clear hb2 HW1 HW2
   go_wp2_with fail
   (with_reducible refine HW22.out.mono ?_)
   rintro e w3 ⟨v3,rfl,hr3,hb3⟩
   obtain ⟨A3,c3,rfl,hc3,hC3⟩:=u8_R_len hr3
   have BW3:=mk0 (B2.out.trans (hb3.mono B2.out.size))
   have B3:=mk0 (Below.refl w3.heap.size w3)
   have HZ3:=mk0 (And.intro hc3 hC3)
   have hkc:∀ V:World,kc.C V none ([]:List CellM).length []:=fun V=>⟨rfl,by simp,fun h=>absurd h (by simp)⟩
   have HW3:=mk0 (write_one (w3.alloc (.cells #[.int .i64 0,.int .i64 (-1),.slice none 0 0] 35)) w3.heap.size ⟨0,-1,none,0,0⟩ [] (heap_alloc_new w3 _) ⟨rfl,Nat.le_refl _,hkc _⟩ (fun c hc=>by cases hc))
   rw[num_neg] at HW3
   have B3a:=mk0 (B3.out.trans ((below_alloc (Below.refl w3.heap.size w3) (.cells #[.int .i64 0,.int .i64 (-1),.slice none 0 0] 35)).mono B3.out.size))
   clear hr3 hb3 hc3 hC3 HW22 hkc
   go_wp2_with fail
   (with_reducible refine HW3.out.mono ?_)
   rintro e w4 ⟨v4,rfl,hr4,hb4⟩
   obtain ⟨A4,c4,rfl⟩:=Kd.R_slice hr4
   have B4:=mk0 (B3a.out.trans (hb4.mono B3a.out.size))
   have hx4:=HX.out w4.drew (BW3.out.trans ((B4.out.trans ((below_drew w4.heap.size w4).mono B4.out.size)).mono BW3.out.size))
   obtain ⟨⟨x0,x1,x2⟩,y0,y1,y2⟩:=hx4
   have HW4:=mk0 (show Calls Tryz.prog 19 #[.slice (some ⟨w4.heap.size,0,none⟩) 2 2] ((w4.alloc (.cells #[.int .i64 1,.int .i64 1,.slice B1 0 q1,.int .i64 1,.int .i64 0,.slice A0 0 q0] 35)).drew) (ToldB 5 ((w4.alloc (.cells #[.int .i64 1,.int .i64 1,.slice B1 0 q1,.int .i64 1,.int .i64 0,.slice A0 0 q0] 35)).drew) [] 12) from by
    have hb:=(below_alloc (Below.refl w4.heap.size w4) (.cells #[.int .i64 1,.int .i64 1,.slice B1 0 q1,.int .i64 1,.int .i64 0,.slice A0 0 q0] 35)).trans ((below_drew (w4.alloc (.cells #[.int .i64 1,.int .i64 1,.slice B1 0 q1,.int .i64 1,.int .i64 0,.slice A0 0 q0] 35)).heap.size (w4.alloc (.cells #[.int .i64 1,.int .i64 1,.slice B1 0 q1,.int .i64 1,.int .i64 0,.slice A0 0 q0] 35))).mono (by simp))
    have hb:=BW3.out.trans ((B4.out.trans (hb.mono B4.out.size)).mono BW3.out.size)
    have h:=write_two ((w4.alloc (.cells #[.int .i64 1,.int .i64 1,.slice B1 0 q1,.int .i64 1,.int .i64 0,.slice A0 0 q0] 35)).drew) w4.heap.size ⟨1,1,B1,0,q1⟩ ⟨1,0,A0,0,q0⟩ [] [] (heap_alloc_new w4 _) ⟨rfl,r1,HC1.out _ hb⟩ ⟨rfl,p1,HC0.out _ hb⟩ (fun c hc=>by cases hc) (fun c hc=>by cases hc)
    rw[num_back] at h
    exact h)
   have B4a:=mk0 (B4.out.trans (((below_alloc (Below.refl w4.heap.size w4) (.cells #[.int .i64 1,.int .i64 1,.slice B1 0 q1,.int .i64 1,.int .i64 0,.slice A0 0 q0] 35)).trans ((below_drew (w4.alloc (.cells #[.int .i64 1,.int .i64 1,.slice B1 0 q1,.int .i64 1,.int .i64 0,.slice A0 0 q0] 35)).heap.size (w4.alloc (.cells #[.int .i64 1,.int .i64 1,.slice B1 0 q1,.int .i64 1,.int .i64 0,.slice A0 0 q0] 35))).mono (by simp))).mono B4.out.size))
   clear hr4 hb4 HW3
   go_wp2_with fail
   apply cutW3 (Good:=fun w5 A5 c5=>Below w3.heap.size w3 w5)
   ·intro key
    go_region_with ((go_at_call 19;(with_reducible refine HW4.out.mono ?_);rintro e w5 ⟨v5,rfl,hr5,hb5⟩;obtain ⟨A5,c5,rfl⟩:=Kd.R_slice hr5;have B5:=mk0 (B4a.out.trans (hb5.mono B4a.out.size));clear hr5 hb5))
    all_goals exact key.out w5 A5 c5 B5.out
   intro w5 A5 c5 hb5
   have B5:=mk0 hb5
   have hx5:=HX.out w5.drew (BW3.out.trans ((B5.out.trans ((below_drew w5.heap.size w5).mono B5.out.size)).mono BW3.out.size))
   clear x0 x1 x2 y0 y1 y2 hb5 HW4
   obtain ⟨⟨x0,x1,x2⟩,y0,y1,y2⟩:=hx5
   have HW5:=mk0 (show Calls Tryz.prog 19 #[.slice (some ⟨w5.heap.size,0,none⟩) 2 2] ((w5.alloc (.cells #[.int .i64 1,.int .i64 1,.slice B1 0 q1,.int .i64 1,.int .i64 1,.slice B1 0 q1] 35)).drew) (ToldB 5 ((w5.alloc (.cells #[.int .i64 1,.int .i64 1,.slice B1 0 q1,.int .i64 1,.int .i64 1,.slice B1 0 q1] 35)).drew) [] 12) from by
    have hb:=(below_alloc (Below.refl w5.heap.size w5) (.cells #[.int .i64 1,.int .i64 1,.slice B1 0 q1,.int .i64 1,.int .i64 1,.slice B1 0 q1] 35)).trans ((below_drew (w5.alloc (.cells #[.int .i64 1,.int .i64 1,.slice B1 0 q1,.int .i64 1,.int .i64 1,.slice B1 0 q1] 35)).heap.size (w5.alloc (.cells #[.int .i64 1,.int .i64 1,.slice B1 0 q1,.int .i64 1,.int .i64 1,.slice B1 0 q1] 35))).mono (by simp))
    have hb:=BW3.out.trans ((B5.out.trans (hb.mono B5.out.size)).mono BW3.out.size)
    have h:=write_two ((w5.alloc (.cells #[.int .i64 1,.int .i64 1,.slice B1 0 q1,.int .i64 1,.int .i64 1,.slice B1 0 q1] 35)).drew) w5.heap.size ⟨1,1,B1,0,q1⟩ ⟨1,1,B1,0,q1⟩ [] [] (heap_alloc_new w5 _) ⟨rfl,r1,HC1.out _ hb⟩ ⟨rfl,r1,HC1.out _ hb⟩ (fun c hc=>by cases hc) (fun c hc=>by cases hc)
    rw[num_same] at h
    exact h)
   have B5a:=mk0 (B5.out.trans (((below_alloc (Below.refl w5.heap.size w5) (.cells #[.int .i64 1,.int .i64 1,.slice B1 0 q1,.int .i64 1,.int .i64 1,.slice B1 0 q1] 35)).trans ((below_drew (w5.alloc (.cells #[.int .i64 1,.int .i64 1,.slice B1 0 q1,.int .i64 1,.int .i64 1,.slice B1 0 q1] 35)).heap.size (w5.alloc (.cells #[.int .i64 1,.int .i64 1,.slice B1 0 q1,.int .i64 1,.int .i64 1,.slice B1 0 q1] 35))).mono (by simp))).mono B5.out.size))
   go_wp2_with fail
   apply cutW3 (Good:=fun w6 A6 c6=>Below w3.heap.size w3 w6)
   ·intro key
    go_region_with ((go_at_call 19;(with_reducible refine HW5.out.mono ?_);rintro e w6 ⟨v6,rfl,hr6,hb6⟩;obtain ⟨A6,c6,rfl⟩:=Kd.R_slice hr6;have B6:=mk0 (B5a.out.trans (hb6.mono B5a.out.size));clear hr6 hb6))
    all_goals exact key.out w6 A6 c6 B6.out
   intro w6 A6 c6 hb6
   have B6:=mk0 hb6
   clear x0 x1 x2 y0 y1 y2 hb6 HW5
   have HNM:=mk0 (keep_Num ⟨#[97]⟩ 5 w6)
   go_wp2_with fail
   (with_reducible refine HNM.out.mono ?_)
   rintro e w7 ⟨rfl,hb7⟩
   have b7:=B6.out.trans (hb7.mono B6.out.size)
   have hn7:=heap_alloc_new w7 (.cells #[.string ⟨#[97]⟩,.int .i64 1,.int .i64 5,.string ⟨#[]⟩] 37)
   have hb7a:=below_alloc (Below.refl w7.heap.size w7) (.cells #[.string ⟨#[97]⟩,.int .i64 1,.int .i64 5,.string ⟨#[]⟩] 37)
   have hc7:=C_of (kc_flat.R_new (base:=0) (xs:=[⟨⟨#[97]⟩,1,5,⟨#[]⟩⟩]) (cap:=1) (Nat.zero_le _) hn7 (by decide) (by decide) rfl rfl)
   have HA7:=mk0 (show Calls Tryz.prog 18 #[.int .i64 1,.int .i64 0,.slice (some ⟨w7.heap.size,0,none⟩) 1 1] (w7.alloc (.cells #[.string ⟨#[97]⟩,.int .i64 1,.int .i64 5,.string ⟨#[]⟩] 37)) (AtS (w7.alloc (.cells #[.string ⟨#[97]⟩,.int .i64 1,.int .i64 5,.string ⟨#[]⟩] 37)) 1 0 [⟨⟨#[97]⟩,1,5,⟨#[]⟩⟩]) from keep_At1 1 0 ⟨w7.heap.size,0,none⟩ 1 [⟨⟨#[97]⟩,1,5,⟨#[]⟩⟩] _ hc7 (by decide))
   have B7:=mk0 (b7.trans (hb7a.mono b7.size))
   clear hb7 b7 hn7 hb7a hc7 HNM
   go_wp2_with fail
   (with_reducible refine HA7.out.mono ?_)
   rintro e w8 ⟨A8,c8,rfl,hc8,hr8,hb8⟩
   have B8:=mk0 (B7.out.trans (hb8.mono B7.out.size))
   have HR8:=mk0 (And.intro hc8 (C_of hr8))
   have HNS:=mk0 (keep_Str ⟨#[97]⟩ ⟨#[120]⟩ w8)
   clear hc8 hr8 hb8 HA7
   go_wp2_with fail
   (with_reducible refine HNS.out.mono ?_)
   rintro e w9 ⟨rfl,hb9⟩
   have b9:=B8.out.trans (hb9.mono B8.out.size)
   have hn9:=heap_alloc_new w9 (.cells #[.string ⟨#[97]⟩,.int .i64 2,.int .i64 0,.string ⟨#[120]⟩] 37)
   have hb9a:=below_alloc (Below.refl w9.heap.size w9) (.cells #[.string ⟨#[97]⟩,.int .i64 2,.int .i64 0,.string ⟨#[120]⟩] 37)
   have hc9:=C_of (kc_flat.R_new (base:=0) (xs:=[⟨⟨#[97]⟩,2,0,⟨#[120]⟩⟩]) (cap:=1) (Nat.zero_le _) hn9 (by decide) (by decide) rfl rfl)
   have HA9:=mk0 (show Calls Tryz.prog 18 #[.int .i64 1,.int .i64 1,.slice (some ⟨w9.heap.size,0,none⟩) 1 1] (w9.alloc (.cells #[.string ⟨#[97]⟩,.int .i64 2,.int .i64 0,.string ⟨#[120]⟩] 37)) (AtS (w9.alloc (.cells #[.string ⟨#[97]⟩,.int .i64 2,.int .i64 0,.string ⟨#[120]⟩] 37)) 1 1 [⟨⟨#[97]⟩,2,0,⟨#[120]⟩⟩]) from keep_At1 1 1 ⟨w9.heap.size,0,none⟩ 1 [⟨⟨#[97]⟩,2,0,⟨#[120]⟩⟩] _ hc9 (by decide))
   have b89:=hb9.trans (hb9a.mono hb9.size)
   have B9:=mk0 (b9.trans (hb9a.mono b9.size))
   have HR9:=mk0 (And.intro HR8.out.1 (Kd.C_below HR8.out.2 b89))
   clear hb9 b9 hn9 hb9a hc9 b89 HNS HR8
   go_wp2_with fail
   (with_reducible refine HA9.out.mono ?_)
   rintro e w10 ⟨A10,c10,rfl,hc10,hr10,hb10⟩
   have b10:=B9.out.trans (hb10.mono B9.out.size)
   have hba:=below_alloc (Below.refl w10.heap.size w10) (.cells #[.int .i64 1,.int .i64 0,.slice A8 1 c8,.int .i64 1,.int .i64 1,.slice A10 1 c10] 35)
   have B10:=mk0 (b10.trans (hba.mono b10.size))
   have HW10:=mk0 (write_two (w10.alloc (.cells #[.int .i64 1,.int .i64 0,.slice A8 1 c8,.int .i64 1,.int .i64 1,.slice A10 1 c10] 35)) w10.heap.size ⟨1,0,A8,1,c8⟩ ⟨1,1,A10,1,c10⟩ [⟨⟨#[97]⟩,1,5,⟨#[]⟩⟩] [⟨⟨#[97]⟩,2,0,⟨#[120]⟩⟩] (heap_alloc_new w10 _)
    ⟨rfl,HR9.out.1,Kd.C_below HR9.out.2 (hb10.trans (hba.mono hb10.size))⟩ ⟨rfl,hc10,Kd.C_below (C_of hr10) hba⟩ (fun c hc=>by rw[List.mem_singleton.1 hc];exact ⟨by decide,by decide⟩) (fun c hc=>by rw[List.mem_singleton.1 hc];exact ⟨by decide,by decide⟩))
   rw[num_kind] at HW10
   clear hc10 hr10 hb10 b10 hba HR9 HA9
   go_wp2_with fail
   (with_reducible refine HW10.out.mono ?_)
   rintro e w11 ⟨v11,rfl,hr11,hb11⟩
   obtain ⟨A11,c11,rfl⟩:=Kd.R_slice hr11
   have B11:=mk0 (B10.out.trans (hb11.mono B10.out.size))
   have HG0:=mk0 (group_Read none 0 [] w11 (u8_nil w11) (by decide) (by decide))
   simp only[List.length_nil] at HG0
   clear hr11 hb11 HW10
   go_wp2_with fail
   (with_reducible refine HG0.out.mono ?_)
   intro e w12 hrd
   rcases hrd with ⟨_,rfl,hb12⟩ | ⟨ts,ss,ps,lo,hi,hs,_⟩
   case inr=>have h0:=num_r0;rw[hs] at h0;cases h0
   have b12:=B11.out.trans (hb12.mono B11.out.size)
   have hcv:=fun (w:World) (C:Array Value) (n c:Nat)=>Lib.run_convert_bytes_const (P:=Tryz.prog) w 22 5 C n c Tryz.underlying22 Tryz.underlying5
   have hC13:=u8_C_mark w12 [110,111,32,103,114,111,117,112] 5 (8,9) (by decide)
   have hb13:=below_alloc (Below.refl w12.heap.size w12) (.cells (([110,111,32,103,114,111,117,112]:List UInt8).map encB).toArray 5 (8,9))
   have B13:=mk0 (b12.trans (hb13.mono b12.size))
   have HG8:=mk0 (show Calls Tryz.prog 22 #[.slice (some ⟨w12.heap.size,0,none⟩) 8 8] (w12.alloc (.cells #[.int .u8 110,.int .u8 111,.int .u8 32,.int .u8 103,.int .u8 114,.int .u8 111,.int .u8 117,.int .u8 112] 5 (8,9))) _ from group_Read (some ⟨w12.heap.size,0,none⟩) 8 [110,111,32,103,114,111,117,112] _ hC13 (by decide) (by decide))
   clear hb12 b12 hC13 hb13 HG0
   go_wp2_with fail
   (with_reducible refine HG8.out.mono ?_)
   intro e w14 hrd
   rcases hrd with ⟨_,rfl,hb14⟩ | ⟨ts,ss,ps,lo,hi,hs,_⟩
   case inr=>have h0:=num_r8;rw[hs] at h0;cases h0
   have B14:=mk0 (B13.out.trans (hb14.mono B13.out.size))
   have HGR:=mk0 (fun W (hb:Below w3.heap.size w3 W)=>group_Read A3 c3 z W (Kd.C_below HZ3.out.2 hb) HZ3.out.1 (by have:=HZL.out;omega))
   clear hb14 HG8
   go_wp2_with fail
   (with_reducible refine (HGR.out w14 B14.out).mono ?_)
   intro e w15 hrd
   rcases hrd with ⟨hnone,_⟩ | ⟨ts,ss,ps,lo,hi,hs,rfl,hg,hlo,hhi,hb15⟩
   ·rw[HQ.out] at hnone;cases hnone
   have B15:=mk0 (B14.out.trans (hb15.mono B14.out.size))
   have HSC:=mk0 (show Calls Tryz.prog 23 #[.pointer (some ⟨w14.heap.size,0,none⟩),.agg #[.int .i64 77,.string ⟨#[]⟩,.int .i64 0,.int .i64 0,.string ⟨#[]⟩,.slice none 0 0,.slice none 0 0],.pointer none,.int .i64 0,.int .i64 0] w15 _ from scan_bad (.mk 77 ⟨#[]⟩ 0 0 ⟨#[]⟩ [] []) ⟨77,⟨#[]⟩,0,0,⟨#[]⟩,none,0,0,none,0,0⟩ w15 (PredS.lit _ _ _ _ _ _ _) (.mk _ (by decide) (fun k hk=>by cases hk)) (by decide) (by kernel_rfl) ⟨w14.heap.size,0,none⟩ none 0 0)
   clear hs hg hlo hhi hb15 HGR
   go_wp2_with fail
   (with_reducible refine HSC.out.mono ?_)
   rintro e w16 ⟨rfl,hb16⟩
   have B16:=mk0 (B15.out.trans (hb16.mono B15.out.size))
   have HKN:=mk0 (law16_known w16)
   clear hb16 HSC
   go_wp2_with fail
   (with_reducible refine HKN.out.mono ?_)
   rintro e w17 ⟨rfl,hb17⟩
   have B17:=mk0 (HB.out.trans ((BW3.out.trans ((B16.out.trans (hb17.mono B16.out.size)).mono BW3.out.size)).mono HB.out.size))
   clear hb17
   go_wp2
   go_ret
   exact ⟨rfl,B17.out⟩
end Go.Proofs.YtpiobnfakmmpdaaGreat.Lib0
namespace Go.Proofs.YtpiobnfakmmpdaaGreat.Lib0
open Go.ChangeShapes Go.WideShapes Go.ChangeAt Go.RowKit
open Go.Proofs.YtpiobnfakmmpdaaGreatW.PrintWords
section
variable {H:Type} {enc:TypeId × Value→H}
theorem laidOut:laidOutB Tryz.prog=true:=by kernel_rfl
theorem trodAll_stays {W W':World} {sp:Nat→Bool}:∀ {ts:List TypeId} {vs:List Value} {ds:List (DataW H)} {ps:List MemPlace},(∀ t ∈ ts,Tryz.prog.readableRec t=true∧t<Tryz.prog.types.size)→DataW.TrodAll enc Tryz.prog W 0 (fun _=>true) true ts vs ds ps→(∀ x ∈ ps,W.sameAt W' x)→(∀ x ∈ ps,sp x.block=true)→DataW.TrodAll enc Tryz.prog W' 0 sp true ts vs ds ps
 | [],vs,ds,ps,_,h,_,_=>by
  obtain ⟨rfl,rfl,rfl⟩:=trodAll_nil h
  exact trodAll_mk0
 | t :: ts,vs,ds,ps,hr,h,h1,h2=>by
  obtain ⟨v,vs',d,ds',p,q,rfl,rfl,rfl,g1,g2⟩:=trodAll_cons h
  exact trodAll_cons_mk (WideElems.Trod_stays laidOut (hr t (by simp)).1 (hr t (by simp)).2 g1 (fun x hx=>h1 x (by simp[hx])) (fun x hx=>h2 x (by simp[hx])))
   (trodAll_stays (fun u hu=>hr u (by simp[hu])) g2 (fun x hx=>h1 x (by simp[hx])) (fun x hx=>h2 x (by simp[hx])))
set_option maxRecDepth 100000 in
theorem post_true {f:Func} {s:ChangeSpec} {apart fresh handsOn again:Bool} {W W':World} {args:Array Value} {ds gs:List (DataW H)} {before:List MemPlace}
  (hW:DataW.Whole enc Tryz.prog f.params.toList s.vars apart W args.toList ds gs before) (hb:Below W.heap.size W W')
  (hr:∀ t ∈ f.params.toList,Tryz.prog.readableRec t=true∧t<Tryz.prog.types.size) (hvs:s.vars = []) (hres:f.resultTypes=#[4])
  (h1:(s.fn H (ds++gs)).results = [.lit (.bool true)]) (h2:(s.fn H (ds++gs)).args=ds) (h3:(s.fn H (ds++gs)).vars = []) :
  s.post enc Tryz.prog f apart fresh handsOn again W args (.bool true) W':=by
 have hlt:∀ p ∈ before,p.block<W.heap.size:=fun p hp=>by simpa using hW.lt p hp
 have hold:∀ p ∈ before,(fun b=>decide (b<W.heap.size)) p.block=true:=fun p hp=>by simpa using hlt p hp
 have hW2:=hW
 obtain ⟨pa,pv,hA,hV,rfl,hz,hn⟩:=hW2
 rw[hvs] at hV
 obtain ⟨rfl,rfl⟩:=trodVars_none hV
 simp only[List.append_nil] at hlt hold hz hn hA
 have hargs:∀ sp:Nat→Bool,(∀ p ∈ pa,sp p.block=true)→DataW.TrodAll enc Tryz.prog W' 0 sp true f.params.toList args.toList ds pa:=fun sp hsp=>trodAll_stays hr hA (fun x hx=>hb.same (hlt x hx)) hsp
 have hrs:∀ (b:Nat) (sp:Nat→Bool) (hd:Bool),DataW.TrodAll enc Tryz.prog W' b sp hd f.resultTypes.toList ((Value.bool true).resultList f.resultTypes.size) [.lit (.bool true)] []:=by
  intro b sp hd
  rw[hres]
  exact trodAll_cons_mk (shut_bool Tryz.underlying4 _) trodAll_mk0
 have hvars:DataW.TrodVars enc Tryz.prog W' (fun _=>true) s.vars ([]:List (DataW H)) []:=by rw[hvs];rfl
 refine ⟨ds,[],_,[],pa,[],hW,by rw[h1];exact hrs _ _ _,by rw[h2];exact hargs _ hold,by rw[h3,hvs];rfl,hb.frame _,fun _=>?_⟩
 refine ⟨?_,_,_,([]++pa)++[],⟨[]++pa,[],trodAll_append (hargs _ (fun _ _=>rfl)) (hrs _ _ _),hvars,rfl,?_,?_⟩,?_⟩
 ·exact ok_one hres rfl (okWide_bool_mk Tryz.underlying4 _)
 ·intro b off hp
  have hp':MemPlace.cell b off ∈ pa:=by simpa using hp
  rw[hb.frozen (hlt _ hp')]
  exact hz b off hp'
 ·intro ha
  simpa using hn ha
 ·intro p hp _
  simpa using hp
instance:Inhabited CellM:=⟨noCell⟩
end
end Go.Proofs.YtpiobnfakmmpdaaGreat.Lib0
namespace Go.Proofs.YtpiobnfakmmpdaaGreat.Lib0
open Go.ChangeShapes Go.WideShapes Go.ChangeAt Go.RowKit
open Go.Proofs.YtpiobnfakmmpdaaGreatW.PrintWords
end Go.Proofs.YtpiobnfakmmpdaaGreat.Lib0

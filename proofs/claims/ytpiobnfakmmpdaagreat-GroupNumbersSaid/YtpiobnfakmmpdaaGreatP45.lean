import Derived.Test.YtpiobnfakmmpdaaGreatP28
import Derived.Test.YtpiobnfakmmpdaaGreatP34
set_option linter.unusedVariables false
set_option linter.unusedSimpArgs false
namespace Go.Proofs.YtpiobnfakmmpdaaGreat.Lib0
open Go.RowKit Go.Proofs.YtpiobnfakmmpdaaGreatW.PrintWords Go.ChangeMaps
theorem chunk_Encode_at {n:Nat} (A:Option Addr) (c:Nat) (kind:Int) (l:List CellM) (w:World) (hn:l.length=n) (h:kc.C w A n l) (hl:l.length≤1099511627776) (hi:∀ c ∈ l,I64 c.n) :
  Calls Tryz.prog 55 #[.int .i64 kind,.slice A n c] w (ToldB 5 w (chunkB kind l).1 (chunkB kind l).2):=by
 subst hn
 exact chunk_Encode A c kind l w h hl hi
theorem delta_Encode_at {n:Nat} (A:Option Addr) (c:Nat) (l:List Int) (w:World) (hn:l.length=n) (h:(Kd.int .i64).C w A n l) (hl:l.length≤1073741824) (hi:∀ n ∈ l,I64 n) :
  Calls Tryz.prog 54 #[.slice A n c] w (Row 5 w (deltaB l)):=by
 subst hn
 exact delta_Encode A c l w h hl hi
set_option maxHeartbeats 1600000 in
set_option maxRecDepth 100000 in
theorem write_go (B:Option Addr) (d:Nat) (H:List RowH) (L:List (List CellM)) (w:World) (hH:kr.C w B H.length H) (hL:RowsOn w H L) (h0:0<H.length) (h16:H.length≤16) (hck:checkR H L=0) (hi:∀ r ∈ rowsM H L,∀ c ∈ r.cs,I64 c.n) :
  Calls Tryz.prog 19 #[.slice B H.length d] w (ToldB 5 w (bytesG H L) 0):=by
 have HH:=mk0 hH
 have HL:=mk0 hL
 have HI:=mk0 hi
 have HCI:=mk0 (check_I64 hL.1 hck)
 have HCK:=mk0 (group_Check B d H L w hH hL)
 rw[hck] at HCK
 have e1:((H.length:Int)==0)=false:=by rw[beq_eq_false_iff_ne];omega
 have e1':(H.length==0)=false:=by rw[beq_eq_false_iff_ne];omega
 have e1'':¬ H = []:=by rintro rfl;simp at h0
 have e2:decide ((16:Int)<H.length)=false:=decide_eq_false (by omega)
 have e2':decide (16<H.length)=false:=decide_eq_false (by omega)
 clear hH hL hck hi
 go_enter Tryz.func19,Tryz.ntmps19
 go_wp2_with fail
 (with_reducible refine HCK.out.mono ?_)
 rintro e w1 ⟨rfl,hb1⟩
 have HB1:=mk0 hb1
 clear hb1
 go_wp2_with fail
 go_loopw[5,6,32] (fun v5 v6 v32 wr=>∃ (k:Nat) (l1 l2:List Int),k≤H.length∧v32 = .int .i64 k∧Aside0 (l1=(H.take k).map (·.t))∧Aside0 (l2=(H.take k).map (·.s))∧Aside0 (Two w wr v5 l1 v6 l2)) (fun _ _ i _=>H.length-(intOf i).toNat)
 case atStart=>exact ⟨0,[],[],by omega,rfl,⟨rfl⟩,⟨rfl⟩,⟨Kd.R_nil _ _ _ _ _,Kd.R_nil _ _ _ _ _,HB1.out⟩⟩
 case round=>
  clear HB1
  obtain ⟨k,l1,l2,hk,rfl,HT,HS,HTW⟩:=hrel
  obtain ⟨A1,c1,hv1⟩:=Kd.R_slice HTW.out.R1
  obtain ⟨A2,c2,hv2⟩:=Kd.R_slice HTW.out.R2
  subst hv1 hv2
  have hk1:=mk0 (show l1.length=k by rw[HT.out];simp;omega)
  have hk2:=mk0 (show l2.length=k by rw[HS.out];simp;omega)
  by_cases hlt:k<H.length
  ·have hlt2:(k:Int)<H.length:=by omega
   have hb1:l1.length≤1099511627776:=by have:=hk1.out;omega
   have hb2:l2.length≤1099511627776:=by have:=hk2.out;omega
   obtain ⟨b,o,rfl,hx⟩:=kr_open (Kd.C_below HH.out HTW.out.B) (by omega)
   obtain ⟨z0,z1,z2⟩:=hx k hlt
   clear hx
   obtain ⟨q,hq⟩:∃ q,q=H[k]:=⟨_,rfl⟩
   rw[← hq] at z0 z1 z2
   have HQ:=mk0 hq
   clear hq
   go_wp2_with fail
   obtain ⟨W,hW⟩:∃ W,W=wr.alloc (.cells #[.int .i64 q.t,.int .i64 q.s,.slice q.A q.n q.c] 35):=⟨_,rfl⟩
   rw[← hW]
   have hn:=heap_alloc_new wr (.cells #[.int .i64 q.t,.int .i64 q.s,.slice q.A q.n q.c] 35)
   rw[← hW] at hn
   have y0:W.cell? ⟨wr.heap.size,0,none⟩=some (.int .i64 q.t):=cell_of_heap (i:=0) hn rfl
   have y1:W.cell? ⟨wr.heap.size,1,none⟩=some (.int .i64 q.s):=cell_of_heap (i:=1) hn rfl
   have HT0:=mk0 (show Two w W (.slice A1 l1.length c1) l1 (.slice A2 l2.length c2) l2 by rw[hW];exact HTW.out.alloc _)
   have hl1:=HTW.out.lt1
   have hl2:=HTW.out.lt2
   have HY0:=mk0 (show Cel W (.slice A1 l1.length c1) (.slice A2 l2.length c2) ⟨wr.heap.size,0,none⟩ (.int .i64 q.t) from ⟨y0,fun e=>absurd (hl1 _ e.symm) (Nat.lt_irrefl _),fun e=>absurd (hl2 _ e.symm) (Nat.lt_irrefl _)⟩)
   have HY1:=mk0 (show Cel W (.slice A1 l1.length c1) (.slice A2 l2.length c2) ⟨wr.heap.size,1,none⟩ (.int .i64 q.s) from ⟨y1,fun e=>absurd (hl1 _ e.symm) (Nat.lt_irrefl _),fun e=>absurd (hl2 _ e.symm) (Nat.lt_irrefl _)⟩)
   have k0:∀ o,(W.alloc o).cell? ⟨wr.heap.size,0,none⟩=some (.int .i64 q.t):=fun o=>(HY0.out.alloc o).1
   have k1:∀ o,(W.alloc o).cell? ⟨wr.heap.size,1,none⟩=some (.int .i64 q.s):=fun o=>(HY1.out.alloc o).1
   have HE1:=mk0 (show l1++[q.t]=(H.take (k+1)).map (·.t) by rw[HT.out,HQ.out,take_next H k hlt,List.map_append];rfl)
   have HE2:=mk0 (show l2++[q.s]=(H.take (k+1)).map (·.s) by rw[HS.out,HQ.out,take_next H k hlt,List.map_append];rfl)
   clear hn hW HTW z0 z1 z2 hl1 hl2
   go_region_law (first
    | (refine push1 (w:=w) rfl (.tmp 36) (.tmp 39) 120 rfl Tryz.underlying120 info_i64 (Value.slice A1 l1.length c1) l1 (Value.slice A2 l2.length c2) l2 q.t ?_ ?_ ?_ hb1 ?_;exact rfl;(first | exact (Pend.new HT0.out rfl).drew | exact ((Pend.new HT0.out rfl).alloc _).drew | exact (Pend.new (HT0.out.alloc _) (by simp)).drew);(first | exact HT0.out.drew | exact (HT0.out.alloc _).drew | exact ((HT0.out.alloc _).alloc _).drew);(intro A3 c3 w4 hT hP hC;have HT1:=mk0 hT;have HP1:=mk0 hP;have y1a:w4.cell? ⟨wr.heap.size,1,none⟩=some (.int .i64 q.s):=(by first | exact (hC _ _ (HY1.out.alloc _).drew).1 | exact (hC _ _ ((HY1.out.alloc _).alloc _).drew).1);clear hT hP hC))
    | (refine push2 (w:=w) rfl (.tmp 41) (.tmp 44) 120 rfl Tryz.underlying120 info_i64 (Value.slice A3 (l1.length+1) c3) (l1++[q.t]) (Value.slice A2 l2.length c2) l2 q.s ?_ ?_ ?_ hb2 ?_;exact rfl;(first | exact Pend.new HT1.out rfl | exact HP1.out _ _ ((Pend.new HT0.out rfl).alloc _).drew | exact HP1.out _ _ (Pend.new (HT0.out.alloc _) (by simp)).drew);(first | exact HT1.out | exact HT1.out.alloc _);(intro A4 c4 w5 hT hP hC;have HTF:=mk0 hT;clear hT hP hC)))
   all_goals
    generalize l1++[q.t]=l3 at *
    generalize l2++[q.s]=l4 at *
    go_wp2
    go_roundw
    case rel=>exact ⟨k+1,l3,l4,by omega,by go_num,HE1,HE2,HTF⟩
    case measure=>simp[intOf];omega
  ·have hk2:k=H.length:=by omega
   subst hk2
   rw[List.take_length] at HT HS
   have HRG:=mk0 (row_Grow none 0 [] B d H L wr ⟨rfl,by simp,fun h=>absurd h (by simp)⟩ (Kd.C_below HH.out HTW.out.B) (HL.out.below HTW.out.B))
   rw[List.length_nil] at HRG
   have HN1:=mk0 (growsR_names (rowsM H L))
   have HN2:=mk0 (growsR_len (rowsM H L))
   have HQ:=mk0 (show bytesG H L=deltaB l1++deltaB l2++putV (growsR [] (rowsM H L)).1.length++partsB (rowsM H L) (growsR [] (rowsM H L)).1 by rw[HT.out,HS.out];rfl)
   obtain ⟨G,hG⟩:∃ G,G=(growsR [] (rowsM H L)).1:=⟨_,rfl⟩
   obtain ⟨gc,hgc⟩:∃ gc,gc=(growsR [] (rowsM H L)).2.1:=⟨_,rfl⟩
   obtain ⟨gi,hgi⟩:∃ gi,gi=(growsR [] (rowsM H L)).2.2:=⟨_,rfl⟩
   rw[← hG,← hgc,← hgi] at HRG
   rw[← hG] at HN1 HN2 HQ
   clear hG hgc hgi
   have HI1:=mk0 (show (∀ x ∈ l1,I64 x)∧(∀ x ∈ l2,I64 x) by rw[HT.out,HS.out];exact HCI.out)
   clear HT HS HCI HCK hk hlt
   have HH16:=mk0 h16
   go_wp2_with fail
   (with_reducible refine HRG.out.mono ?_)
   rintro e w2 ⟨A3,c3,rfl,hC2,hb2⟩
   have HG:=mk0 hC2
   have HT2:=mk0 (show (Kd.int .i64).C w2 A1 l1.length l1∧(Kd.int .i64).C w2 A2 l2.length l2 from ⟨Kd.C_below (C_of HTW.out.R1) hb2,Kd.C_below (C_of HTW.out.R2) hb2⟩)
   have HB2:=mk0 (HTW.out.B.trans (hb2.mono HTW.out.B.size))
   have HD1:=mk0 (delta_Encode_at A1 c1 l1 w2 rfl HT2.out.1 (by have:=hk1.out;omega) HI1.out.1)
   clear hC2 hb2 HRG HTW
   go_wp2_with fail
   (with_reducible refine HD1.out.mono ?_)
   rintro e w3 ⟨v3,rfl,hr3,hb3⟩
   have HR3:=mk0 hr3
   have HB3:=mk0 hb3
   have HD2:=mk0 (delta_Encode_at A2 c2 l2 w3 rfl (Kd.C_below HT2.out.2 hb3) (by have:=hk2.out;omega) HI1.out.2)
   clear hr3 hb3 HD1 HT2
   go_wp2_with fail
   (with_reducible refine HD2.out.mono ?_)
   rintro e w4 ⟨v4,rfl,hr4,hb4⟩
   obtain ⟨A4,c4,rfl⟩:=Kd.R_slice hr4
   have HC4:=mk0 (C_of hr4)
   have HR4:=mk0 (Kd.R_below HR3.out hb4)
   have HB4:=mk0 (HB3.out.trans (hb4.mono HB3.out.size))
   have HD3:=mk0 (show (deltaB l1).length≤1000∧(deltaB l2).length≤1000 from ⟨by have:=deltaB_len l1 HI1.out.1 (by have:=hk1.out;omega);have:=hk1.out;have:=HH16.out;omega,by have:=deltaB_len l2 HI1.out.2 (by have:=hk2.out;omega);have:=hk2.out;have:=HH16.out;omega⟩)
   clear hr4 hb4 HD2 HR3 HB3
   go_wp2_with (at_builtin;go_loud (refine u8_append (.tmp 54) (.tmp 56) 22 5 v3 (deltaB l1) (deltaB l2) _ _ _ w2.heap.size rfl rfl Tryz.underlying22 info_u8 rfl rfl HR4.out HC4.out HB4.out.size ?c1 ?_))
   case c1=>have:=HD3.out;omega
   intro v5 w5 hr5 hb5 _ _
   obtain ⟨A5,c5,rfl⟩:=Kd.R_slice hr5
   have HL5:=mk0 (show (deltaB l1++deltaB l2).length≤2000 by have:=HD3.out;rw[List.length_append];omega)
   have HN3:=mk0 (show IntKind.u64.wrap (G.length:Int)=(G.length:Int) by rw[IntKind.wrap_u64];have:=HN2.out;omega)
   have HPU:=mk0 (v_Put A5 c5 (deltaB l1++deltaB l2) G.length w5 (C_of hr5) (by have:=HL5.out;omega) (by have:=HN2.out;omega))
   have HB5:=mk0 (HB4.out.trans hb5)
   clear hr5 hb5 HD3 HR4 HC4 HB4
   have hn3:=HN3.out
   generalize deltaB l1++deltaB l2=o1 at *
   go_wp2_with fail
   (with_reducible refine HPU.out.mono ?_)
   rintro e w6 ⟨v6,rfl,hr6,hb6⟩
   have HR6:=mk0 (Kd.R_lower hr6 HB5.out.size)
   have HB6:=mk0 (HB5.out.trans (hb6.mono HB5.out.size))
   have HL6:=mk0 (show (o1++putV G.length).length≤3000 by have:=HL5.out;have:=putV_len10 (n:=G.length) (by have:=HN2.out;omega);rw[List.length_append];omega)
   clear hr6 hb6 HPU HB5 HL5 hn3
   generalize o1++putV G.length=o0 at *
   clear hk1 hk2 HI1 HN3
   have HP:=mk0 (partsB_len (rowsM H L) (by rw[rowsM_len H L HL.out.1];have:=HH16.out;omega) HI.out)
   have HGT:=mk0 HG.out.2.1
   go_wp2_with fail
   go_loopw[12,64] (fun v12 v64 wr=>∃ (k:Nat) (out:List UInt8),k≤G.length∧v64 = .int .i64 k∧Aside0 (out=o0++partsB (rowsM H L) (G.take k))∧Aside0 (Lib0.u8.R 5 wr w2.heap.size (fun _=>True) v12 out)∧Aside0 (Below w2.heap.size w2 wr)) (fun _ i _=>G.length-(intOf i).toNat)
   case atStart=>exact ⟨0,o0,by omega,rfl,⟨by simp[partsB]⟩,HR6,HB6⟩
   case round=>
    clear HR6 HB6
    obtain ⟨k,out,hk,rfl,HO,HR7,HB7⟩:=hrel
    obtain ⟨A7,c7,hv7⟩:=Kd.R_slice HR7.out
    subst hv7
    have HLO:=mk0 (show out.length≤20000000000 by
     rw[HO.out,List.length_append]
     have h1:=HP.out (G.take k) (fun x hx=>HN1.out x (List.mem_of_mem_take hx))
     have h2:=HL6.out
     have h3:=HN2.out
     rw[List.length_take] at h1
     have h4:min k G.length≤12:=by omega
     omega)
    by_cases hlt:k<G.length
    ·have hlt2:(k:Int)<G.length:=by omega
     have HHB:=mk0 (HB2.out.trans (HB7.out.mono HB2.out.size))
     obtain ⟨b,o,rfl,hx⟩:=kl_open (Kd.C_below HG.out HB7.out) (by omega)
     obtain ⟨z0,z1⟩:=hx k hlt
     clear hx
     obtain ⟨q,hq⟩:∃ q,q=G[k]:=⟨_,rfl⟩
     rw[← hq] at z0 z1
     have HQ1:=mk0 (show q.name.size≤12 by rw[hq];exact HN1.out _ (List.getElem_mem _))
     have HE1:=mk0 (show o0++partsB (rowsM H L) (G.take (k+1))=out++partB (rowsM H L) q by rw[take_next G k hlt,partsB_app,HO.out,hq,partsB,partsB,List.append_nil,List.append_assoc])
     clear hq
     go_wp2_with fail
     obtain ⟨W,hW⟩:∃ W,W=wr.alloc (.cells #[.string q.name,.int .i64 q.kind] 123):=⟨_,rfl⟩
     rw[← hW]
     have hn:=heap_alloc_new wr (.cells #[.string q.name,.int .i64 q.kind] 123)
     rw[← hW] at hn
     have y0:W.cell? ⟨wr.heap.size,0,none⟩=some (.string q.name):=cell_of_heap (i:=0) hn rfl
     have y1:W.cell? ⟨wr.heap.size,1,none⟩=some (.int .i64 q.kind):=cell_of_heap (i:=1) hn rfl
     have hlw:wr.heap.size<W.heap.size:=(Array.getElem?_eq_some_iff.1 hn).1
     have HBW:=mk0 (show Below wr.heap.size wr W by rw[hW];exact below_alloc (Below.refl _ _) _)
     have HRW:=mk0 (Kd.R_below HR7.out HBW.out)
     have HLW:=mk0 hlw
     have HCO:=mk0 (group_column B d H L q.name W.drew (Kd.C_below HH.out ((HHB.out.trans (HBW.out.mono HHB.out.size)).trans (below_drew _ _))) (HL.out.below ((HHB.out.trans (HBW.out.mono HHB.out.size)).trans (below_drew _ _))) (by have:=HH16.out;omega))
     have HB8:=mk0 (HB7.out.trans (HBW.out.mono HB7.out.size))
     have HCL:=mk0 (show (columnB (rowsM H L) q.name).length=H.length by rw[columnB_len,rowsM_len H L HL.out.1])
     have HCI:=mk0 (columnB_I64 (rowsM H L) q.name HI.out)
     have HYY:=mk0 (And.intro y0 y1)
     clear hn hlw hW z0 z1 HBW HR7 HB7 HHB
     go_region_held3 (fun w'=>w'.cell? ⟨wr.heap.size,0,none⟩=some (.string q.name)∧w'.cell? ⟨wr.heap.size,1,none⟩=some (.int .i64 q.kind)) (go_keep) (first
      | (go_at_call 56;refine HCO.out.mono ?_;rintro e w8 ⟨A8,c8,rfl,h8,b8⟩;have HEN:=mk0 (chunk_Encode_at A8 c8 q.kind (columnB (rowsM H L) q.name) w8 HCL.out h8 (by rw[HCL.out];have:=HH16.out;omega) HCI.out);have y0a:w8.cell? ⟨wr.heap.size,0,none⟩=some (.string q.name):=(b8.cell HLW.out).trans HYY.out.1;have y1a:w8.cell? ⟨wr.heap.size,1,none⟩=some (.int .i64 q.kind):=(b8.cell HLW.out).trans HYY.out.2;have HB9:=mk0 b8;clear h8 b8)
      | (go_at_call 55;refine HEN.out.mono ?_;rintro e w9 ⟨v9,rfl,hr9,hb9⟩;have HRC:=mk0 hr9;have HBC:=mk0 hb9;have y0b:w9.cell? ⟨wr.heap.size,0,none⟩=some (.string q.name):=(hb9.cell (Nat.lt_of_lt_of_le HLW.out HB9.out.size)).trans y0a;have y1b:w9.cell? ⟨wr.heap.size,1,none⟩=some (.int .i64 q.kind):=(hb9.cell (Nat.lt_of_lt_of_le HLW.out HB9.out.size)).trans y1a;clear hr9 hb9))
     have hbq:Below W.heap.size W w9:=((below_drew W.heap.size W).trans HB9.out).trans (HBC.out.mono HB9.out.size)
     have HC9:=mk0 (Kd.C_below (C_of HRW.out) hbq)
     have HB10:=mk0 (show Below w2.heap.size w2 w9 from HB8.out.trans (hbq.mono HB8.out.size))
     have HLW9:=mk0 (Nat.lt_of_lt_of_le HLW.out hbq.size)
     clear hbq
     have HLC:=mk0 (chunkB_len q.kind (columnB (rowsM H L) q.name) (by rw[HCL.out];have:=HH16.out;omega) HCI.out)
     clear HRW HB8 HB9 HBC y0a y1a y1b y0 y1 HYY HCO HEN HCL HCI
     obtain ⟨A9,c9,rfl⟩:=Kd.R_slice HRC.out
     have HP1:=mk0 (v_PutText A7 c7 out q.name w9.drew (Kd.C_drew HC9.out) (by have:=HLO.out;omega) (by have:=HQ1.out;omega))
     obtain ⟨p1,hp1⟩:∃ p,p=out++putV q.name.size++byt q.name:=⟨_,rfl⟩
     obtain ⟨cb,hcb⟩:∃ cb,cb=(chunkB q.kind (columnB (rowsM H L) q.name)).1:=⟨_,rfl⟩
     obtain ⟨cc,hcc⟩:∃ cc,cc=(chunkB q.kind (columnB (rowsM H L) q.name)).2:=⟨_,rfl⟩
     have HE2:=mk0 (show o0++partsB (rowsM H L) (G.take (k+1))=p1++putV (str cb).size++byt (str cb) by rw[HE1.out,partB,hp1,← hcb];unfold textB;simp only[List.append_assoc])
     rw[← hp1] at HP1
     rw[← hcb] at HRC HLC
     rw[← hcb,← hcc]
     have HLP:=mk0 (show p1.length≤30000000000 by rw[hp1,List.length_append,List.length_append,byt_length];have:=HLO.out;have:=HQ1.out;have:=putV_len10 (n:=q.name.size) (by omega);omega)
     have HRD:=mk0 (show Lib0.u8.C w9.drew A9 cb.length cb from Kd.C_drew (C_of HRC.out))
     have hcv0:=u8_string (P:=Tryz.prog) (c:=c9) Tryz.underlying22 Tryz.underlying5 Tryz.underlying9 (Kd.C_drew (C_of HRC.out))
     clear hp1 hcb hcc HE1
     go_wp2_with fail
     go_region_held3 (fun w'=>w'.cell? ⟨wr.heap.size,0,none⟩=some (.string q.name)∧(convert 22 9 (.slice A9 cb.length c9)).run Tryz.prog w' = .ok (.string (str cb)) w') (go_keep) (first
      | (go_at_call 57;(with_reducible refine HP2.out.mono ?_);rintro e w11 ⟨v11,rfl,h11,b11⟩;have HR11:=mk0 h11;have HB12:=mk0 b11;have y0d:w11.cell? ⟨wr.heap.size,0,none⟩=some (.string q.name):=(b11.cell (Nat.lt_of_lt_of_le HLW9.out HB11.out.size)).trans y0c;have hcv2:=u8_string (P:=Tryz.prog) (c:=c9) Tryz.underlying22 Tryz.underlying5 Tryz.underlying9 (Kd.C_below HRD10.out b11);clear h11 b11)
      | (go_at_call 57;(with_reducible refine HP1.out.mono ?_);rintro e w10 ⟨v10,rfl,h10,b10⟩;obtain ⟨A10,c10,rfl⟩:=Kd.R_slice h10;have HP2:=mk0 (v_PutText A10 c10 p1 (str cb) w10 (C_of h10) (by have:=HLP.out;omega) (by rw[str_size];have:=HLC.out;omega));have y0c:w10.cell? ⟨wr.heap.size,0,none⟩=some (.string q.name):=(b10.cell HLW9.out).trans y0b;have hcv1:=u8_string (P:=Tryz.prog) (c:=c9) Tryz.underlying22 Tryz.underlying5 Tryz.underlying9 (Kd.C_below HRD.out b10);have HRD10:=mk0 (Kd.C_below HRD.out b10);have HB11:=mk0 b10;clear h10 b10))
     all_goals
      have hb13:Below w9.heap.size w9 w11:=((below_drew w9.heap.size w9).trans HB11.out).trans (HB12.out.mono HB11.out.size)
      have HB13:=mk0 (HB10.out.trans (hb13.mono HB10.out.size))
      have HR13:=mk0 (Kd.R_lower HR11.out (Nat.le_trans HB10.out.size (Nat.le_trans (Below.size ((below_drew w9.heap.size w9).trans HB11.out)) (Nat.le_refl _))))
      rw[← HE2.out] at HR13
      have hg12:=HN2.out
      clear hb13 HR11 HB11 HB12 HP1 HP2 hcv0 hcv1 hcv2 HRD10 y0b y0c y0d
      obtain ⟨o3,ho3⟩:∃ o3,o3=o0++partsB (rowsM H L) (G.take (k+1)):=⟨_,rfl⟩
      rw[← ho3] at HR13
      have HE3:=mk0 ho3
      clear ho3
      go_wp2
      go_roundw
      case rel=>exact ⟨k+1,o3,by omega,by go_num,HE3,HR13,HB13⟩
      case measure=>simp[intOf];omega
    ·have hk2:k=G.length:=by omega
     subst hk2
     rw[List.take_length] at HO
     have HR13:=mk0 (Kd.R_lower HR7.out HB2.out.size)
     have HB13:=mk0 (HB2.out.trans (HB7.out.mono HB2.out.size))
     have HR14:=mk0 (show Lib0.u8.R 5 wr w.heap.size (fun _=>True) (.slice A7 out.length c7) (bytesG H L) by
      rw[HQ.out,← HO.out]
      exact HR13.out)
     clear HR7 HB7 HR13
     go_wp2
     go_ret2
     exact ⟨_,rfl,HR14.out,HB13.out⟩
end Go.Proofs.YtpiobnfakmmpdaaGreat.Lib0
namespace Go.Proofs.YtpiobnfakmmpdaaGreat.Lib0
open Go.RowKit Go.Proofs.YtpiobnfakmmpdaaGreatW.PrintWords Go.ChangeMaps
set_option maxHeartbeats 1600000 in
set_option maxRecDepth 100000 in
theorem write_many (B:Option Addr) (d:Nat) (H:List RowH) (w:World) (h:H.length=0∨16<H.length) (h63:H.length≤9223372036854775807) :
  Calls Tryz.prog 19 #[.slice B H.length d] w (ToldB 5 w [] 4):=by
 have HB:=mk0 (Below.refl w.heap.size w)
 rcases h with h | h
 ·rw[h]
  go_enter Tryz.func19,Tryz.ntmps19
  go_wp2
  go_ret2
  exact ⟨_,rfl,Kd.R_nil _ _ _ _ _,HB.out⟩
 ·have e1:((H.length:Int)==0)=false:=by rw[beq_eq_false_iff_ne];omega
  have e1':(H.length==0)=false:=by rw[beq_eq_false_iff_ne];omega
  have e1'':¬ H = []:=by rintro rfl;simp at h
  have e2:decide ((16:Int)<H.length)=true:=decide_eq_true (by omega)
  have e2':decide (16<H.length)=true:=decide_eq_true h
  clear h
  go_enter Tryz.func19,Tryz.ntmps19
  go_wp2
  go_ret2
  exact ⟨_,rfl,Kd.R_nil _ _ _ _ _,HB.out⟩
set_option maxHeartbeats 1600000 in
set_option maxRecDepth 100000 in
theorem write_bad (B:Option Addr) (d:Nat) (H:List RowH) (L:List (List CellM)) (w:World) (hH:kr.C w B H.length H) (hL:RowsOn w H L) (h0:0<H.length) (h16:H.length≤16) (hck:checkR H L≠0) :
  Calls Tryz.prog 19 #[.slice B H.length d] w (ToldB 5 w [] (checkR H L)):=by
 have HCK:=mk0 (group_Check B d H L w hH hL)
 generalize checkR H L=c at *
 have e1:((H.length:Int)==0)=false:=by rw[beq_eq_false_iff_ne];omega
 have e1':(H.length==0)=false:=by rw[beq_eq_false_iff_ne];omega
 have e1'':¬ H = []:=by rintro rfl;simp at h0
 have e2:decide ((16:Int)<H.length)=false:=decide_eq_false (by omega)
 have e2':decide (16<H.length)=false:=decide_eq_false (by omega)
 have e3:(c==0)=false:=by rw[beq_eq_false_iff_ne];exact hck
 clear hH hL
 go_enter Tryz.func19,Tryz.ntmps19
 go_wp2_with fail
 (with_reducible refine HCK.out.mono ?_)
 rintro e w1 ⟨rfl,hb1⟩
 have HB1:=mk0 hb1
 clear hb1 HCK
 go_wp2
 go_ret2
 exact ⟨_,rfl,Kd.R_nil _ _ _ _ _,HB1.out⟩
theorem group_Write (B:Option Addr) (d:Nat) (H:List RowH) (L:List (List CellM)) (w:World) (hH:kr.C w B H.length H) (hL:RowsOn w H L) (hi:∀ r ∈ rowsM H L,∀ c ∈ r.cs,I64 c.n) :
  Calls Tryz.prog 19 #[.slice B H.length d] w (ToldB 5 w (writeR H L).1 (writeR H L).2):=by
 unfold writeR
 by_cases h:H.length=0∨16<H.length
 ·rw[if_pos h]
  exact write_many B d H w h hH.2.1
 ·rw[if_neg h]
  by_cases hc:checkR H L=0
  ·rw[if_pos hc]
   exact write_go B d H L w hH hL (by omega) (by omega) hc hi
  ·rw[if_neg hc]
   exact write_bad B d H L w hH hL (by omega) (by omega) hc
end Go.Proofs.YtpiobnfakmmpdaaGreat.Lib0

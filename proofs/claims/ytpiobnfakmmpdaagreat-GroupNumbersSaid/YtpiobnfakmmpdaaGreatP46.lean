import Derived.Test.YtpiobnfakmmpdaaGreatP38
import Derived.Test.YtpiobnfakmmpdaaGreatP40
import Derived.Test.YtpiobnfakmmpdaaGreatP25
import Derived.Test.YtpiobnfakmmpdaaGreatP45
set_option linter.unusedVariables false
set_option linter.unusedSimpArgs false
namespace Go.Proofs.YtpiobnfakmmpdaaGreat.Lib0
open Go.RowKit Go.Proofs.YtpiobnfakmmpdaaGreatW.PrintWords Go.ChangeMaps
theorem delta_Decode16 (A:Option Addr) (c:Nat) (l:List UInt8) (a:Int) (w:World) (h:u8.C w A l.length l) (hc:l.length≤c) (hl:l.length≤1073741824) :
  Calls Tryz.prog 58 #[.slice A l.length c,.int .i64 a,.int .i64 16] w (ToldInts 2 w (deltaR l a 16)):=delta_Decode A c l a 16 w h hc hl (by omega)
theorem ChksAt.lower {w:World} {base base':Nat} {ps:List PartM} (h:ChksAt w base ps) (hb:base'≤base):ChksAt w base' ps:=⟨h.at_,h.nodup,fun p hp=>Nat.le_trans hb (h.old p hp),h.fit⟩
theorem R_atz {α:Type} {d:Kd α} {e g T b b':Nat} {ok:Nat→Prop} {V V':World} {cs c0:Array Value} {v:Value} {l:List α} (hE:d.E = []) (h:d.R e V b ok v l) (hz:AtZ b' g T V V' cs) (h0:V.heap[g]?=some (.cells c0 T (0,0))) (hne:T≠e):d.R e V' b ok v l:=
 R_moved hE h (fun q hq=>hz.2.1 q (fun e=>by subst e;exact R_not_at h h0 hne hq))
def ReadS16 (w:World) (l:List UInt8) (e:Ending) (w':World):Prop:=
 (readG l=none∧e = .returned (.tuple #[.pointer none,.int .i64 12])∧Below w.heap.size w w')∨
 (∃ ts ss ps lo hi,readG l=some (ts,ss,ps.map PartM.q)∧e = .returned (.tuple #[.pointer (some ⟨w.heap.size,0,none⟩),.int .i64 0])∧GrpS w' w.heap.size w.heap.size ts ss ps 0 (.slice none 0 0) lo hi∧ts[0]?=some lo∧ts[ts.length-1]?=some hi∧Below w.heap.size w w')
set_option maxHeartbeats 3200000 in
set_option maxRecDepth 100000 in
theorem group_Read (A:Option Addr) (c:Nat) (l:List UInt8) (w:World) (h:u8.C w A l.length l) (hc:l.length≤c) (hl:l.length≤1073741824) :
  Calls Tryz.prog 22 #[.slice A l.length c] w (ReadS16 w l):=by
 have HC:=mk0 h
 have HCC:=mk0 hc
 have HL:=mk0 hl
 have HRG:Aside0 (readG l=if (deltaR l 0 16).2.2≠0 then none else
  if (deltaR l (deltaR l 0 16).2.1 16).2.2≠0∨(deltaR l 0 16).1.length≠(deltaR l (deltaR l 0 16).2.1 16).1.length then none else
  match partsR l (deltaR l (deltaR l 0 16).2.1 16).2.1 with
  | none=>none
  | some (qs,q)=>
   if q≠(l.length:Int) then none else
   if qs.any (fun x=>decide (x.cs.length≠(deltaR l 0 16).1.length)) then none else
   if (writeM (builtM (deltaR l 0 16).1 (deltaR l (deltaR l 0 16).2.1 16).1 qs)).2≠0∨(writeM (builtM (deltaR l 0 16).1 (deltaR l (deltaR l 0 16).2.1 16).1 qs)).1≠l then none
   else some ((deltaR l 0 16).1,(deltaR l (deltaR l 0 16).2.1 16).1,qs)):=⟨rfl⟩
 have HTL:=mk0 (deltaR_len l 0 16)
 obtain ⟨w0,hw0⟩:∃ w0,w0=w.alloc (.cells #[.slice none 0 0,.slice none 0 0,.slice none 0 0,.int .u32 0,.int .i32 0,.int .u32 0,.slice none 0 0,.int .i64 0,.int .i64 0,.int .i64 0,.slice none 0 0,.slice none 0 0] 129):=⟨_,rfl⟩
 have hn0:=heap_alloc_new w (.cells #[.slice none 0 0,.slice none 0 0,.slice none 0 0,.int .u32 0,.int .i32 0,.int .u32 0,.slice none 0 0,.int .i64 0,.int .i64 0,.int .i64 0,.slice none 0 0,.slice none 0 0] 129)
 have hb0:=below_alloc (Below.refl w.heap.size w) (.cells #[.slice none 0 0,.slice none 0 0,.slice none 0 0,.int .u32 0,.int .i32 0,.int .u32 0,.slice none 0 0,.int .i64 0,.int .i64 0,.int .i64 0,.slice none 0 0,.slice none 0 0] 129)
 rw[← hw0] at hn0 hb0
 have hl0:=(Array.getElem?_eq_some_iff.1 hn0).1
 have HD1:=mk0 (delta_Decode16 A c l 0 w0 (Kd.C_below h hb0) hc hl)
 have HD2:=mk0 (fun a W hb=>delta_Decode16 A c l a W (Kd.C_below h hb) hc hl)
 have HN0:=mk0 hn0
 have HB0:=mk0 hb0
 generalize deltaR l 0 16=d1 at *
 obtain ⟨ts,a1,e1⟩:=d1
 dsimp only at HRG HTL
 have HTL2:=mk0 (deltaR_len l a1 16)
 have HD2:=mk0 (HD2.out a1)
 generalize deltaR l a1 16=d2 at *
 obtain ⟨ss,a2,e2⟩:=d2
 dsimp only at HRG HTL2
 unfold ToldInts at HD1 HD2
 dsimp only at HD1 HD2
 obtain ⟨G,hG⟩:∃ G,G=w.heap.size:=⟨_,rfl⟩
 rw[← hG] at HN0 hl0
 clear h hc hl hn0 hb0
 go_enter Tryz.func22,Tryz.ntmps22
 go_wp2_with fail
 rw[← hw0,← hG]
 have HG:=mk0 hG
 clear hw0 hG
 (with_reducible refine HD1.out.mono ?_)
 rintro e w1 ⟨v1,rfl,hr1,hb1⟩
 obtain ⟨A1,c1,rfl⟩:=Kd.R_slice hr1
 have hn1:=(hb1.block G hl0).trans HN0.out
 have f0:=cell_of_heap (i:=0) hn1 rfl
 have q0:=frozen_of_heap (i:=0) hn1
 have HN1:=mk0 (show (w1.setCell ⟨G,0,none⟩ (.slice A1 ts.length c1)).heap[G]?=some (.cells #[.slice A1 ts.length c1,.slice none 0 0,.slice none 0 0,.int .u32 0,.int .i32 0,.int .u32 0,.slice none 0 0,.int .i64 0,.int .i64 0,.int .i64 0,.slice none 0 0,.slice none 0 0] 129) from heap_setCell_same _ _ 0 _ _ _ hn1)
 have HR1:=mk0 (R_set_ne rfl hr1 hn1 (by decide) 0 (.slice A1 ts.length c1))
 have HB1:=mk0 ((HB0.out.trans (hb1.mono HB0.out.size)).setCell (p:=⟨G,0,none⟩) (by rw[HG.out];exact Nat.le_refl _) (.slice A1 ts.length c1))
 have HS1:=mk0 (show w0.heap.size≤(w1.setCell ⟨G,0,none⟩ (.slice A1 ts.length c1)).heap.size by simp[World.setCell];exact hb1.size)
 clear hr1 hb1 hn1 HD1
 by_cases he1:e1=0
 ·subst he1
  have HRG:=mk0 (HRG.out.trans (if_neg (by simp)))
  go_wp2_with fail
  generalize w1.setCell ⟨G,0,none⟩ (.slice A1 ts.length c1)=W1 at *
  clear f0 q0
  (with_reducible refine (HD2.out _ HB1.out).mono ?_)
  rintro e w2 ⟨v2,rfl,hr2,hb2⟩
  obtain ⟨A2,c2,rfl⟩:=Kd.R_slice hr2
  have hl1:=(Array.getElem?_eq_some_iff.1 HN1.out).1
  have hn2:=(hb2.block G hl1).trans HN1.out
  have f0:=cell_of_heap (i:=0) hn2 rfl
  have f1:=cell_of_heap (i:=1) hn2 rfl
  have q1:=frozen_of_heap (i:=1) hn2
  have HN2:=mk0 (show (w2.setCell ⟨G,1,none⟩ (.slice A2 ss.length c2)).heap[G]?=some (.cells #[.slice A1 ts.length c1,.slice A2 ss.length c2,.slice none 0 0,.int .u32 0,.int .i32 0,.int .u32 0,.slice none 0 0,.int .i64 0,.int .i64 0,.int .i64 0,.slice none 0 0,.slice none 0 0] 129) from heap_setCell_same _ _ 1 _ _ _ hn2)
  have HR2:=mk0 (And.intro (Kd.R_lower (base':=w.heap.size) (R_set_ne rfl (Kd.R_below HR1.out hb2) hn2 (by decide) 1 (.slice A2 ss.length c2)) HB0.out.size) (Kd.R_lower (base':=w.heap.size) (R_set_ne rfl hr2 hn2 (by decide) 1 (.slice A2 ss.length c2)) HB1.out.size))
  have HB2:=mk0 ((HB1.out.trans (hb2.mono HB1.out.size)).setCell (p:=⟨G,1,none⟩) (by rw[HG.out];exact Nat.le_refl _) (.slice A2 ss.length c2))
  clear hr2 hb2 hn2 HR1 HN1 HB1 HD2
  by_cases he2:e2=0
  ·subst he2
   by_cases hls:ts.length=ss.length
   ·have hlb:((ts.length:Int)==ss.length)=true:=by rw[beq_iff_eq];omega
    have HRG:=mk0 (HRG.out.trans (if_neg (by rintro (h | h);exact h rfl;exact h hls)))
    have HLS:=mk0 hls
    clear hls
    go_wp2_with fail
    generalize w2.setCell ⟨G,1,none⟩ (.slice A2 ss.length c2)=W2 at *
    clear f0 f1 q1
    have f0:=cell_of_heap (i:=0) HN2.out rfl
    have f1:=cell_of_heap (i:=1) HN2.out rfl
    go_region_held3 (fun w'=>w'.cell? ⟨G,0,none⟩=some (.slice A1 ts.length c1)∧w'.cell? ⟨G,1,none⟩=some (.slice A2 ss.length c2)) (go_keep) (first | (fail))
    have HPA:=mk0 (group_parts A c l a2 W2.drew (Kd.C_drew (Kd.C_below HC.out HB2.out)) HCC.out HL.out)
    clear f0 f1
    go_wp2_with fail
    (with_reducible refine HPA.out.mono ?_)
    rintro e w3 hpa
    have hl2:=(Array.getElem?_eq_some_iff.1 HN2.out).1
    have hb3:Below W2.heap.size W2 w3:=by
     rcases hpa with ⟨_,_,hb⟩ | ⟨_,_,_,_,_,_,_,hb⟩
     ·exact (below_drew W2.heap.size W2).trans hb
     ·exact (below_drew W2.heap.size W2).trans hb
    have hn3:=(hb3.block G hl2).trans HN2.out
    have f2:=cell_of_heap (i:=2) hn3 rfl
    have q2:=frozen_of_heap (i:=2) hn3
    have HGN:=mk0 (show w.heap.size≤G from Nat.le_of_eq HG.out.symm)
    have HB3:=mk0 (HB2.out.trans (hb3.mono HB2.out.size))
    rcases hpa with ⟨hpn,rfl,_⟩ | ⟨ps,q,v3,hpn,rfl,hr3,hk3,_⟩
    ·have HRG:=mk0 (show readG l=none by rw[HRG.out,hpn])
     have HB4:=mk0 (HB3.out.setCell (p:=⟨G,2,none⟩) HGN.out (.slice none 0 0))
     clear hpn hb3 hn3
     go_wp2
     go_ret2
     exact .inl ⟨HRG.out,rfl,HB4.out⟩
    ·obtain ⟨A3,c3,rfl⟩:=Kd.R_slice hr3
     have HN3:=mk0 (show (w3.setCell ⟨G,2,none⟩ (.slice A3 ps.length c3)).heap[G]?=some (.cells #[.slice A1 ts.length c1,.slice A2 ss.length c2,.slice A3 ps.length c3,.int .u32 0,.int .i32 0,.int .u32 0,.slice none 0 0,.int .i64 0,.int .i64 0,.int .i64 0,.slice none 0 0,.slice none 0 0] 129) from heap_setCell_same _ _ 2 _ _ _ hn3)
     have HB4:=mk0 (HB3.out.setCell (p:=⟨G,2,none⟩) HGN.out (.slice A3 ps.length c3))
     have hcg:∀ p ∈ ps,p.cp≠G:=fun p hp e=>by have h1:=hk3.old p hp;have h2:W2.drew.heap.size=W2.heap.size:=rfl;omega
     have HGA:Aside0 (GrpAt (w3.setCell ⟨G,2,none⟩ (.slice A3 ps.length c3)) G w.heap.size (.slice A1 ts.length c1) (.slice A2 ss.length c2) (.slice A3 ps.length c3) ts ss ps):=
      ⟨⟨cell_of_heap (i:=0) HN3.out rfl,cell_of_heap (i:=1) HN3.out rfl,cell_of_heap (i:=2) HN3.out rfl,R_set_ne rfl (Kd.R_below HR2.out.1 hb3) hn3 (by decide) 2 _,R_set_ne rfl (Kd.R_below HR2.out.2 hb3) hn3 (by decide) 2 _,R_set_ne rfl (Kd.R_lower hr3 HB2.out.size) hn3 (by decide) 2 _,
       (hk3.lower HB2.out.size).off ((Keep1.refl G w3).set 2 _) hcg (fun o x=>by
        unfold World.cell?
        simp only[hn3]
        rcases o with _ | _ | _ | _ | _ | _ | _ | _ | _ | _ | _ | _ | o<;>simp) (fun o s k=>by
        unfold World.cell?
        simp only[hn3]
        rcases o with _ | _ | _ | _ | _ | _ | _ | _ | _ | _ | _ | _ | o<;>simp),fun p hp e=>hcg p hp e.symm⟩⟩
     have HOP:=mk0 (partsR_open hpn)
     have HPN:=mk0 (partsR_len hpn)
     have HRG:=mk0 (show readG l=(if q≠(l.length:Int) then none else
      if (ps.map PartM.q).any (fun x=>decide (x.cs.length≠ts.length)) then none else
      if (writeM (builtM ts ss (ps.map PartM.q))).2≠0∨(writeM (builtM ts ss (ps.map PartM.q))).1≠l then none else some (ts,ss,ps.map PartM.q)) by rw[HRG.out,hpn])
     clear hpn hb3 hn3 hr3 hk3 hcg HR2 HN2 HB2 HB3 HPA
     by_cases hq:q=(l.length:Int)
     ·have hqb:(q==(l.length:Int))=true:=by rw[beq_iff_eq];exact hq
      have HRG:=mk0 (HRG.out.trans (if_neg (by rintro h;exact h hq)))
      have HQQ:=mk0 hq
      have hpl:=HPN.out
      rw[List.length_map] at hpl
      have hpi:(ps.length:Int)≤12:=by omega
      clear hq
      go_wp2_with fail
      generalize w3.setCell ⟨G,2,none⟩ (.slice A3 ps.length c3)=W3 at *
      have HB5:=mk0 (Below.refl W3.heap.size W3)
      clear f2 q2
      go_loopw[66] (fun v66 wr=>∃ (k:Nat),k≤ps.length∧v66 = .int .i64 k∧Aside0 (∀ j (hj:j<ps.length),j<k→ps[j].cs.length=ts.length)∧Aside0 (Below W3.heap.size W3 wr)) (fun i _=>ps.length-(intOf i).toNat)
      case atStart=>exact ⟨0,by omega,rfl,⟨fun j _ h=>absurd h (by omega)⟩,HB5⟩
      case round=>
       clear HB5
       obtain ⟨k,hk,rfl,HQ,HB5⟩:=hrel
       have HGB:=mk0 (HGA.out.fr (Fr.of_below HGA.out.K HB5.out) (HGA.out.K.below HB5.out))
       by_cases hkl:k<ps.length
       ·have hkl2:(k:Int)<ps.length:=by omega
        obtain ⟨bp,op,rfl,hxp⟩:=kp_open (C_of HGB.out.R2) (by omega)
        obtain ⟨p0,p1⟩:=hxp k hkl
        obtain ⟨p,hp⟩:∃ p,p=ps[k]:=⟨_,rfl⟩
        have hpm:p ∈ ps:=by rw[hp];exact List.getElem_mem hkl
        rw[← hp] at p0 p1
        have HPK:=mk0 hp
        clear hp hxp
        have hb:=below_alloc (Below.refl wr.heap.size wr) (.cells #[.string p.name,.pointer (some ⟨p.cp,0,none⟩)] 136)
        have hx:=heap_alloc_new wr (.cells #[.string p.name,.pointer (some ⟨p.cp,0,none⟩)] 136)
        have hgl:=HGB.out.lt
        have g0:(wr.alloc (.cells #[.string p.name,.pointer (some ⟨p.cp,0,none⟩)] 136)).cell? ⟨G,0,none⟩=some (.slice A1 ts.length c1):=(World.cell?_alloc_lt _ _ _ hgl).trans HGB.out.c0
        have x1:(wr.alloc (.cells #[.string p.name,.pointer (some ⟨p.cp,0,none⟩)] 136)).cell? ⟨wr.heap.size,1,none⟩=some (.pointer (some ⟨p.cp,0,none⟩)):=cell_of_heap (i:=1) hx rfl
        have HCR:=mk0 (ck_Rows (((HGB.out.K.below hb).below (below_drew _ _)).at_ p hpm))
        have HB6:=mk0 ((HB5.out.trans (hb.mono HB5.out.size)).trans (below_drew _ _))
        go_wp2_with fail
        generalize wr.alloc (.cells #[.string p.name,.pointer (some ⟨p.cp,0,none⟩)] 136)=W4 at *
        clear hb hx p0 p1
        go_region_held3 (fun w'=>w'.cell? ⟨G,0,none⟩=some (.slice A1 ts.length c1)∧w'.cell? ⟨wr.heap.size,1,none⟩=some (.pointer (some ⟨p.cp,0,none⟩))) (go_keep) (first
         | (go_at_call 60;(with_reducible refine HCR.out.mono ?_);rintro e w' ⟨rfl,rfl⟩))
        all_goals clear g0 x1
        by_cases hcl:p.cs.length=ts.length
        ·have hcb:((p.cs.length:Int)==ts.length)=true:=by rw[beq_iff_eq];omega
         have HQ2:=mk0 (show ∀ j (hj:j<ps.length),j<k+1→ps[j].cs.length=ts.length from fun j hj h=>by
          rcases Nat.lt_or_ge j k with h1 | h1
          ·exact HQ.out j hj h1
          ·have:j=k:=by omega
           subst this
           rw[← HPK.out];exact hcl)
         clear hcl
         go_wp2
         go_roundw
         case rel=>exact ⟨k+1,by omega,by go_num,HQ2,HB6⟩
         case measure=>simp[intOf];omega
        ·have hcb:((p.cs.length:Int)==ts.length)=false:=by rw[beq_eq_false_iff_ne];omega
         have HRG:=mk0 (HRG.out.trans (if_pos (by
          rw[List.any_eq_true]
          exact ⟨p.q,List.mem_map_of_mem hpm,decide_eq_true hcl⟩)))
         have HB7:=mk0 (HB4.out.trans (HB6.out.mono HB4.out.size))
         go_wp2
         go_ret2
         exact .inl ⟨HRG.out,rfl,HB7.out⟩
       ·have hk2:k=ps.length:=by omega
        subst hk2
        have hcs:∀ p ∈ ps,p.cs.length=ts.length:=fun p hp=>by
         obtain ⟨j,hj,rfl⟩:=List.mem_iff_getElem.1 hp
         exact HQ.out j hj hj
        have HRG:=mk0 (HRG.out.trans (if_neg (by
         rw[List.any_eq_true]
         rintro ⟨x,hx,h⟩
         obtain ⟨p,hp,rfl⟩:=List.mem_map.1 hx
         exact of_decide_eq_true h (hcs p hp))))
        have HBU:=mk0 (group_built HGB.out (by have:=HLS.out;omega) (by have:=HTL.out;omega) (by omega) hcs)
        have HCS:=mk0 hcs
        have HB6:=mk0 (HB4.out.trans (HB5.out.mono HB4.out.size))
        have HG6:=mk0 ((HB5.out.block G (Array.getElem?_eq_some_iff.1 HN3.out).1).trans HN3.out)
        clear HQ hcs HGA HB5 HB4 HN3
        go_wp2_with fail
        (with_reducible refine HBU.out.mono ?_)
        rintro e w5 ⟨H,L,A5,c5,rfl,hc5,hr5,hrr5,hm5,hg5,hf5⟩
        have hI64:∀ r ∈ rowsM H L,∀ c ∈ r.cs,I64 c.n:=by
         rw[hm5]
         exact builtM_I64 ts ss _ (fun q hq=>(openR_cells (HOP.out q hq)).2.1)
        have HWR:=mk0 (group_Write A5 c5 H L w5 (C_of hr5) hrr5.on hI64)
        rw[writeR_M hrr5.1,hm5] at HWR
        obtain ⟨wm,hwm⟩:∃ wm,wm=writeM (builtM ts ss (ps.map PartM.q)):=⟨_,rfl⟩
        have HWM:=mk0 hwm
        rw[← hwm] at HWR HRG
        obtain ⟨wb,wc⟩:=wm
        dsimp only at HWR HRG
        have HG7:=mk0 ((hf5.block G (Array.getElem?_eq_some_iff.1 HG6.out).1 hg5.ne).trans HG6.out)
        have HB7:=mk0 (HB6.out.trans (Fr.below HGB.out.K hf5 HB6.out.size))
        have HGC:=mk0 hg5
        clear hr5 hrr5 hm5 hg5 hf5 hI64 hwm HBU HGB HG6 HB6
        go_wp2_with fail
        (with_reducible refine HWR.out.mono ?_)
        rintro e w6 ⟨v6,rfl,hr6,hb6⟩
        obtain ⟨A6,c6,rfl⟩:=Kd.R_slice hr6
        have HC6:=mk0 (C_of hr6)
        have HB8:=mk0 (HB7.out.trans (hb6.mono HB7.out.size))
        have HGD:=mk0 (HGC.out.fr (Fr.of_below HGC.out.K hb6) (HGC.out.K.below hb6))
        have HG8:=mk0 ((hb6.block G (Array.getElem?_eq_some_iff.1 HG7.out).1).trans HG7.out)
        clear hr6 hb6 HWR HGC HG7 HB7
        by_cases hwc:wc=0
        ·subst hwc
         have HEQ:=mk0 (bytes_Equal A6 A c6 c wb l w6 HC6.out (Kd.C_below HC.out HB8.out))
         go_wp2_with fail
         (with_reducible refine HEQ.out.mono ?_)
         rintro e w' ⟨rfl,rfl⟩
         by_cases hwb:wb=l
         ·rw[decide_eq_true hwb]
          have HRG:=mk0 (HRG.out.trans (if_neg (by rintro (h | h);exact h rfl;exact h hwb)))
          have HWB:=mk0 hwb
          clear hwb HEQ
          go_wp2_with fail
          have h0:0<ts.length:=by
           have h:=HWM.out
           unfold writeM at h
           rw[builtM_len] at h
           by_cases h1:ts.length=0∨16<ts.length
           ·rw[if_pos h1] at h
            exact absurd (congrArg Prod.snd h) (by simp)
           ·omega
          obtain ⟨lo,hlo⟩:∃ lo,ts[0]?=some lo:=⟨ts[0],List.getElem?_eq_getElem h0⟩
          obtain ⟨hi,hhi⟩:∃ hi,ts[ts.length-1]?=some hi:=⟨ts[ts.length-1],List.getElem?_eq_getElem (by omega)⟩
          have HTE:=mk0 (group_tell HGD.out h0 (by have:=HTL.out;omega) (by omega) HCS.out (fun p hp c hc hk=>by have:=(openR_cells (HOP.out p.q (List.mem_map_of_mem hp))).1 c hc hk;omega) lo hi hlo hhi)
          have HLH:=mk0 (And.intro hlo hhi)
          have hgl:=HGD.out.lt
          clear h0 hlo hhi
          ((with_reducible refine HTE.out.mono ?_);rintro e w7 ⟨Az,cz,Ab,cb,E,L2,rfl,hz,hb,hbl,hbm,hzc,hbc,hg7,hf7⟩;have hh:=(hf7.block G hgl hg7.ne).trans HG8.out;have y7:=cell_of_heap (i:=7) hh rfl;have y8:=cell_of_heap (i:=8) hh rfl;have y9:=cell_of_heap (i:=9) hh rfl;have y10:=cell_of_heap (i:=10) hh rfl;have y11:=cell_of_heap (i:=11) hh rfl;have u7:=frozen_of_heap (i:=7) hh;have u8:=frozen_of_heap (i:=8) hh;have u9:=frozen_of_heap (i:=9) hh;have u10:=frozen_of_heap (i:=10) hh;have u11:=frozen_of_heap (i:=11) hh;have HZZ:=mk0 (And.intro hz (And.intro hb (And.intro hbl (And.intro hbm (And.intro hzc (And.intro hbc (And.intro hg7 (And.intro hf7 hh))))))));clear hz hb hbl hbm hzc hbc hg7 hf7 hh)
          have hset:=(((((AtZ.start (base:=G) HZZ.out.2.2.2.2.2.2.2.2).set (Nat.le_refl _) 7 (.int .i64 ts.length)).set (Nat.le_refl _) 8 (.int .i64 lo)).set (Nat.le_refl _) 9 (.int .i64 hi)).set (Nat.le_refl _) 10 (.slice Az ps.length cz)).set (Nat.le_refl _) 11 (.slice Ab E.length cb)
          have HSF:=mk0 (show AtZ G G 129 w7 (((((w7.setCell ⟨G,7,none⟩ (.int .i64 ts.length)).setCell ⟨G,8,none⟩ (.int .i64 lo)).setCell ⟨G,9,none⟩ (.int .i64 hi)).setCell ⟨G,10,none⟩ (.slice Az ps.length cz)).setCell ⟨G,11,none⟩ (.slice Ab E.length cb)) (grpCells (.slice A1 ts.length c1) (.slice A2 ss.length c2) (.slice A3 ps.length c3) 0 (.slice none 0 0) ts.length lo hi (.slice Az ps.length cz) (.slice Ab E.length cb)) from hset)
          have hcg:∀ p ∈ ps,p.cp≠G:=fun p hp e=>HZZ.out.2.2.2.2.2.2.1.ne p hp e.symm
          have HKF:=mk0 (HZZ.out.2.2.2.2.2.2.1.K.off ((((((Keep1.refl G w7).set 7 (.int .i64 ts.length)).set 8 (.int .i64 lo)).set 9 (.int .i64 hi)).set 10 (.slice Az ps.length cz)).set 11 (.slice Ab E.length cb)) hcg (fun o x=>by
           unfold World.cell?
           simp only[HZZ.out.2.2.2.2.2.2.2.2]
           rcases o with _ | _ | _ | _ | _ | _ | _ | _ | _ | _ | _ | _ | o<;>simp) (fun o s k=>by
           unfold World.cell?
           simp only[HZZ.out.2.2.2.2.2.2.2.2]
           rcases o with _ | _ | _ | _ | _ | _ | _ | _ | _ | _ | _ | _ | o<;>simp))
          clear hset hcg
          go_wp2
          generalize ((((w7.setCell ⟨G,7,none⟩ (.int .i64 ts.length)).setCell ⟨G,8,none⟩ (.int .i64 lo)).setCell ⟨G,9,none⟩ (.int .i64 hi)).setCell ⟨G,10,none⟩ (.slice Az ps.length cz)).setCell ⟨G,11,none⟩ (.slice Ab E.length cb)=Wf at *
          go_ret2
          have hh:=HZZ.out.2.2.2.2.2.2.2.2
          have hga:=HZZ.out.2.2.2.2.2.2.1
          have hb6:w.heap.size≤w6.heap.size:=HB8.out.size
          refine .inr ⟨ts,ss,ps,lo,hi,HRG.out,by rw[← HG.out];rfl,?_,HLH.out.1,HLH.out.2,?_⟩
          ·rw[← HG.out]
           rw[← HG.out] at hga
           refine ⟨_,_,_,Az,cz,Ab,cb,E,L2,HSF.out.1,⟨cell_of_heap (i:=0) HSF.out.1 rfl,cell_of_heap (i:=1) HSF.out.1 rfl,cell_of_heap (i:=2) HSF.out.1 rfl,R_atz rfl hga.R0 HSF.out hh (by decide),R_atz rfl hga.R1 HSF.out hh (by decide),R_atz rfl hga.R2 HSF.out hh (by decide),by rw[HG.out];exact HKF.out,hga.ne⟩,?_,?_,?_,HZZ.out.2.2.2.1,HZZ.out.2.2.2.2.1,HZZ.out.2.2.2.2.2.1⟩
           ·exact R_atz rfl (Kd.R_lower HZZ.out.1 (by rw[HG.out];exact hb6)) HSF.out hh (by decide)
           ·exact R_atz rfl (Kd.R_lower HZZ.out.2.1 (by rw[HG.out];exact hb6)) HSF.out hh (by decide)
           ·exact ⟨HZZ.out.2.2.1.1,fun i k1 k2=>⟨(HZZ.out.2.2.1.2 i k1 k2).1,(HZZ.out.2.2.1.2 i k1 k2).2.1,R_atz rfl (Kd.R_lower (HZZ.out.2.2.1.2 i k1 k2).2.2 (by rw[HG.out];exact hb6)) HSF.out hh (by decide)⟩⟩
          ·exact (HB8.out.trans (Fr.below HGD.out.K HZZ.out.2.2.2.2.2.2.2.1 hb6)).trans (HSF.out.2.2.mono (Nat.le_of_eq HG.out.symm))
         ·rw[decide_eq_false hwb]
          have HRG:=mk0 (HRG.out.trans (if_pos (.inr hwb)))
          clear hwb HEQ
          go_wp2
          go_ret2
          exact .inl ⟨HRG.out,rfl,HB8.out⟩
        ·have hwcb:(wc==0)=false:=by rw[beq_eq_false_iff_ne];exact hwc
         have HRG:=mk0 (HRG.out.trans (if_pos (.inl hwc)))
         go_wp2
         go_ret2
         exact .inl ⟨HRG.out,rfl,HB8.out⟩
     ·have hqb:(q==(l.length:Int))=false:=by rw[beq_eq_false_iff_ne];exact hq
      have HRG:=mk0 (HRG.out.trans (if_pos hq))
      go_wp2
      go_ret2
      exact .inl ⟨HRG.out,rfl,HB4.out⟩
   ·have hlb:((ts.length:Int)==ss.length)=false:=by rw[beq_eq_false_iff_ne];omega
    have HRG:=mk0 (HRG.out.trans (if_pos (.inr hls)))
    go_wp2_with fail
    generalize w2.setCell ⟨G,1,none⟩ (.slice A2 ss.length c2)=W2 at *
    clear f0 f1 q1
    have f0:=cell_of_heap (i:=0) HN2.out rfl
    have f1:=cell_of_heap (i:=1) HN2.out rfl
    go_region_held3 (fun w'=>w'.cell? ⟨G,0,none⟩=some (.slice A1 ts.length c1)∧w'.cell? ⟨G,1,none⟩=some (.slice A2 ss.length c2)) (go_keep) (first | (fail))
    go_wp2
    go_ret2
    exact .inl ⟨HRG.out,rfl,HB2.out.trans (below_drew _ _)⟩
  ·have hb:(e2==0)=false:=by rw[beq_eq_false_iff_ne];exact he2
   have hb':(e2 != 0)=true:=by rw[bne_iff_ne];exact he2
   have HRG:=mk0 (HRG.out.trans (if_pos (.inl he2)))
   go_wp2_with fail
   go_region
   go_wp2
   go_ret2
   exact .inl ⟨HRG.out,rfl,HB2.out.trans (below_drew _ _)⟩
 ·have hb:(e1==0)=false:=by rw[beq_eq_false_iff_ne];exact he1
  have hb':(e1 != 0)=true:=by rw[bne_iff_ne];exact he1
  have HRG:=mk0 (HRG.out.trans (if_pos he1))
  go_wp2_with fail
  go_region
  go_wp2
  go_ret2
  exact .inl ⟨HRG.out,rfl,HB1.out.trans (below_drew _ _)⟩
end Go.Proofs.YtpiobnfakmmpdaaGreat.Lib0
namespace Go.Proofs.YtpiobnfakmmpdaaGreat.Lib0
open Go.RowKit Go.Proofs.YtpiobnfakmmpdaaGreatW.PrintWords
attribute [local go_sem] u32_all
end Go.Proofs.YtpiobnfakmmpdaaGreat.Lib0
namespace Go.Proofs.YtpiobnfakmmpdaaGreat.Lib0
open Go.RowKit Go.Proofs.YtpiobnfakmmpdaaGreatW.PrintWords
attribute [local go_sem] u32_all
end Go.Proofs.YtpiobnfakmmpdaaGreat.Lib0
namespace Go.Proofs.YtpiobnfakmmpdaaGreat.Lib0
open Go.RowKit Go.Proofs.YtpiobnfakmmpdaaGreatW.PrintWords
attribute [local go_sem] u32_all
abbrev bb:Kd (List UInt8):=Kd.slice 5 u8
end Go.Proofs.YtpiobnfakmmpdaaGreat.Lib0
namespace Go.Proofs.YtpiobnfakmmpdaaGreat.Lib0
open Go.RowKit Go.Proofs.YtpiobnfakmmpdaaGreatW.PrintWords
end Go.Proofs.YtpiobnfakmmpdaaGreat.Lib0
namespace Go.Proofs.YtpiobnfakmmpdaaGreat.Lib0
open Go.RowKit Go.Proofs.YtpiobnfakmmpdaaGreatW.PrintWords
end Go.Proofs.YtpiobnfakmmpdaaGreat.Lib0
namespace Go.Proofs.YtpiobnfakmmpdaaGreat.Lib0
open Go.RowKit Go.Proofs.YtpiobnfakmmpdaaGreatW.PrintWords Go.ChangeMaps
def nP (M:List RowM):Nat:=(M.length+15)/16
end Go.Proofs.YtpiobnfakmmpdaaGreat.Lib0

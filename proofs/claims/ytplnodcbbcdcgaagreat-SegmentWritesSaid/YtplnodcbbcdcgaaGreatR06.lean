import Derived.Test.YtplnodcbbcdcgaaGreatR05
import Derived.Test.YtplnodcbbcdcgaaGreatP37
set_option linter.unusedVariables false
set_option linter.unusedSimpArgs false
namespace Go.Proofs.YtplnodcbbcdcgaaGreat.Lib0
open Go.RowKit Go.Proofs.YtplnodcbbcdcgaaGreatW.PrintWords Go.ChangeMaps
def refW (M:List RowM) (most:Nat):Int:=if M.length=0∨most<M.length then 4 else checkM M
theorem rowsM_any_false {H:List RowH} {L:List (List CellM)} (h:H.length=L.length) (ha:∀ i (h1:i<H.length) (h2:i<L.length),rowB H[i].t H[i].s L[i]=true):(rowsM H L).any (fun r=>!r.ok)=false:=by
 rw[List.any_eq_false]
 intro r hr
 obtain ⟨i,hi,rfl⟩:=List.mem_iff_getElem.1 hr
 rw[rowsM_len H L h] at hi
 rw[rowsM_get H L i hi (by omega)]
 unfold RowM.ok
 rw[ha i hi (by omega)]
 simp
theorem rowsM_any_true {H:List RowH} {L:List (List CellM)} (h:H.length=L.length) (i:Nat) (h1:i<H.length) (h2:i<L.length) (hf:rowB H[i].t H[i].s L[i]=false):(rowsM H L).any (fun r=>!r.ok)=true:=by
 have h3:i<(rowsM H L).length:=by rw[rowsM_len H L h];exact h1
 refine List.any_eq_true.2 ⟨(rowsM H L)[i],List.getElem_mem h3,?_⟩
 rw[rowsM_get H L i h1 h2 h3]
 unfold RowM.ok
 rw[hf]
 rfl
attribute [local irreducible] wpQuiet
set_option maxHeartbeats 3200000 in
set_option maxRecDepth 100000 in
theorem ref_Write (B:Option Addr) (d:Nat) (H:List RowH) (L:List (List CellM)) (most:Nat) (w:World) (hH:kr.C w B H.length H) (hL:RowsOn w H L) (hl:H.length≤1099511627776) (hm:most≤1099511627776) (hsz:∀ c ∈ L,∀ x ∈ c,x.col.size≤1099511627776) :
  Calls Tryz.prog 15 #[.slice B H.length d,.int .i64 most] w fun e w'=>e = .returned (.int .i64 (refW (rowsM H L) most))∧Below w.heap.size w w':=by
 have mixed:Tryz.prog.follows .mixedOrders=true:=by kernel_rfl
 obtain ⟨r,hr⟩:∃ r,r=refW (rowsM H L) most:=⟨_,rfl⟩
 rw[← hr]
 have HH:=mk0 hH
 have HL:=mk0 hL
 have HSZ:=mk0 hsz
 have hML:=rowsM_len H L hL.1
 have hri:=rowsM_rises H L hL.1
 have HLS:=mk0 ref_Less
 have HRI:=mk0 ref_Right
 have HGR:=mk0 (fun w' (hb:Below w.heap.size w w')=>ref_Grow B d H L w' (Kd.C_below hH hb) (hL.below hb) hl hsz)
 have HB0:=mk0 (Below.refl w.heap.size w)
 unfold refW at hr
 rw[hML] at hr
 by_cases h0:H.length=0
 ·have HS:=mk0 (show r=4 by rw[hr,if_pos (.inl h0)])
  have h0b:((H.length:Int)==0)=true:=by simp[h0]
  clear hr hH hL hsz HGR HRI HLS hML hri
  go_enter Tryz.func15,Tryz.ntmps15
  go_wp2
  go_ret
  exact ⟨by rw[HS.out];rfl,HB0.out⟩
 have h0b:((H.length:Int)==0)=false:=by simp[h0]
 have h0c:¬ (H.length:Int)=0:=by omega
 by_cases hmo:most<H.length
 ·have HS:=mk0 (show r=4 by rw[hr,if_pos (.inr hmo)])
  have h1b:decide ((most:Int)<H.length)=true:=decide_eq_true (by omega)
  have h1c:decide (most<H.length)=true:=decide_eq_true (by omega)
  clear hr hH hL hsz HGR HRI HLS hML hri
  go_enter Tryz.func15,Tryz.ntmps15
  go_wp2
  go_ret
  exact ⟨by rw[HS.out];rfl,HB0.out⟩
 have h1b:decide ((most:Int)<H.length)=false:=decide_eq_false (by omega)
 have h1c:decide (most<H.length)=false:=decide_eq_false (by omega)
 rw[if_neg (by omega)] at hr
 unfold checkM at hr
 rw[hri] at hr
 have HR:=mk0 hr
 clear hr hH hL hsz hri hML
 go_enter Tryz.func15,Tryz.ntmps15
 go_wp2_with fail
 clear h0b h1b h1c
 go_loopw[5] (fun v5 wr=>∃ (i:Nat),i≤H.length∧v5 = .int .i64 i∧Aside0 (∀ j (h1:j<H.length) (h2:j<L.length),j<i→rowB H[j].t H[j].s L[j]=true)∧Aside0 (Below w.heap.size w wr)) (fun i _=>H.length-(intOf i).toNat)
 case atStart=>exact ⟨0,by omega,rfl,⟨fun j h1 h2 h3=>by omega⟩,HB0⟩
 case round=>
  clear HB0
  obtain ⟨i,hi,rfl,HA,HB⟩:=hrel
  by_cases hlt:i<H.length
  ·have hlt2:(i:Int)<H.length:=by omega
   have hkL:i<L.length:=by have:=HL.out.1;omega
   obtain ⟨b,o,rfl,hx⟩:=kr_open (Kd.C_below HH.out HB.out) (by omega)
   obtain ⟨z0,z1,z2⟩:=hx i hlt
   obtain ⟨n1,n2,n3⟩:=(HL.out.below HB.out).2 i hlt hkL
   have hcz:=HSZ.out _ (List.getElem_mem hkL)
   have HNO:=mk0 (show rowB H[i].t H[i].s L[i]=false→r=1 from fun hf=>by
    rw[HR.out,if_pos (rowsM_any_true HL.out.1 i hlt hkL hf)])
   have HYE:=mk0 (show rowB H[i].t H[i].s L[i]=true→∀ j (h1:j<H.length) (h2:j<L.length),j<i+1→rowB H[j].t H[j].s L[j]=true from fun hf j h1 h2 h3=>by
    by_cases hij:j=i
    ·subst hij;exact hf
    ·exact HA.out j h1 h2 (by omega))
   generalize H[i]=hd at *
   generalize L[i]=cs at *
   obtain ⟨ht,hs,hA,hn,hc⟩:=hd
   dsimp only at *
   subst n1
   have HRC:=mk0 (HRI.out ht hs hA hc cs _ n3 hcz)
   clear hx n3 hcz n2
   go_wp2_with fail
   (with_reducible refine HRC.out.mono ?_)
   rintro e w2 ⟨rfl,hb⟩
   have HB2:=mk0 (HB.out.trans (hb.mono HB.out.size))
   clear hb z0 z1 z2 HRC
   cases hrb:rowB ht hs cs with
   | false=>
    have HS:=mk0 (HNO.out hrb)
    clear hrb HNO HYE
    go_wp2
    go_ret
    exact ⟨by rw[HS.out];rfl,HB2.out⟩
   | true=>
    have HS:=mk0 (HYE.out hrb)
    clear hrb HNO HYE
    go_wp2
    go_roundw
    case rel=>exact ⟨i+1,by omega,by go_num,HS,HB2⟩
    case measure=>simp[intOf];omega
  ·have hlt2:¬ (i:Int)<H.length:=by omega
   have HR2:=mk0 (show r=(if risesH H=true then (if (growsR [] (rowsM H L)).2.1=0 then 0 else 22) else 12) by
    rw[HR.out,rowsM_any_false HL.out.1 (fun j h1 h2=>HA.out j h1 h2 (by omega))]
    rfl)
   clear HA HR hlt hi
   go_wp2_with fail
   generalize wr=W0 at *
   go_loopw[6] (fun v6 wr=>∃ (k:Nat),1≤k∧k≤H.length∧v6 = .int .i64 k∧Aside0 (∀ i (h:i+1<H.length),i+1<k→lessH H[i] H[i+1]=true)∧Aside0 (Below w.heap.size w wr)) (fun i _=>H.length-(intOf i).toNat)
   case atStart=>exact ⟨1,by omega,by omega,rfl,⟨fun i h1 h2=>by omega⟩,HB⟩
   case round=>
    clear HB
    obtain ⟨k,hk1,hk,rfl,HA,HB⟩:=hrel
    by_cases hlt:k<H.length
    ·obtain ⟨b,o,rfl,hx⟩:=kr_open (Kd.C_below HH.out HB.out) (by omega)
     obtain ⟨j,rfl⟩:∃ j,k=j+1:=⟨k-1,by omega⟩
     obtain ⟨y0,y1,y2⟩:=hx j (by omega)
     obtain ⟨z0,z1,z2⟩:=hx (j+1) hlt
     have hlt2:((j+1:Nat):Int)<H.length:=by omega
     have hjw:IntKind.i64.wrap (((j+1:Nat):Int)-1)=(j:Int):=by rw[IntWalk.i64_in _ (by omega)];omega
     have hjw2:wrap64 (((j+1:Nat):Int)-1)=(j:Int):=by unfold wrap64;omega
     have hjw3:((j+1:Nat):Int)-1=(j:Int):=by omega
     have hjl:(j:Int)<H.length:=by omega
     have hjw4:IntKind.i64.wrap (j:Int)=(j:Int):=IntWalk.i64_in _ (by omega)
     have hlt3:(j:Int)+1<H.length:=by omega
     have hge3:(0:Int)≤(j:Int)+1:=by omega
     have hto3:((j:Int)+1).toNat=j+1:=by omega
     have hj63:(j:Int)+1<9223372036854775807:=by omega
     clear hx
     obtain ⟨q,hq⟩:∃ q,q=lessH H[j] H[j+1]:=⟨_,rfl⟩
     have HL2:=mk0 (fun V V' W=>HLS.out H[j].t H[j].s H[j+1].t H[j+1].s V V' W)
     have HQ:=mk0 hq
     unfold lessH at hq
     rw[← hq] at HL2
     clear hq
     obtain ⟨x,hxx⟩:∃ x,x=H[j]:=⟨_,rfl⟩
     obtain ⟨y,hyy⟩:∃ y,y=H[j+1]:=⟨_,rfl⟩
     rw[← hxx] at y0 y1 y2 HL2
     rw[← hyy] at z0 z1 z2 HL2
     clear hxx hyy
     have hb:=World.block_lt_of_cell? wr _ y0
     have Y0:∀ n os,(Go.Sort.grow (wr.drewN n) os).cell? ⟨b,o+j*3,none⟩=some (.int .i64 x.t):=fun n os=>cell_grown (by exact hb) y0 n os
     have Y1:∀ n os,(Go.Sort.grow (wr.drewN n) os).cell? ⟨b,o+j*3+1,none⟩=some (.int .i64 x.s):=fun n os=>cell_grown (by exact hb) y1 n os
     have Y2:∀ n os,(Go.Sort.grow (wr.drewN n) os).cell? ⟨b,o+j*3+2,none⟩=some (.slice x.A x.n x.c):=fun n os=>cell_grown (by exact hb) y2 n os
     have Z0:∀ n os,(Go.Sort.grow (wr.drewN n) os).cell? ⟨b,o+(j+1)*3,none⟩=some (.int .i64 y.t):=fun n os=>cell_grown (by exact hb) z0 n os
     have Z1:∀ n os,(Go.Sort.grow (wr.drewN n) os).cell? ⟨b,o+(j+1)*3+1,none⟩=some (.int .i64 y.s):=fun n os=>cell_grown (by exact hb) z1 n os
     have Z2:∀ n os,(Go.Sort.grow (wr.drewN n) os).cell? ⟨b,o+(j+1)*3+2,none⟩=some (.slice y.A y.n y.c):=fun n os=>cell_grown (by exact hb) z2 n os
     have HB1:=mk0 (fun n os=>HB.out.trans ((below_grow (Below.refl _ wr) n os).mono HB.out.size))
     clear y0 y1 y2 z0 z1 z2 HLS HRI
     go_wp2_with fail
     go_quiet_grown ((go_at_call 37;refine Calls.grown_of (HL2.out _ _ _)))
     have HB2:=mk0 (HB1.out nq osq)
     generalize Go.Sort.grow (wr.drewN nq) osq=w2 at *
     clear Y0 Y1 Y2 Z0 Z1 Z2 HB1 HL2
     cases q
     ·have HS:=mk0 (show r=12 by rw[HR2.out,risesH_false H j hlt HQ.out.symm];rfl)
      simp only[Bool.not_false,Bool.not_true]
      go_wp2
      go_ret
      exact ⟨by rw[HS.out];rfl,HB2.out⟩
     ·have HA2:=mk0 (show ∀ i (h:i+1<H.length),i+1<j+1+1→lessH H[i] H[i+1]=true from fun i h1 h2=>by
       by_cases hij:i=j
       ·subst hij;exact HQ.out.symm
       ·exact HA.out i h1 (by omega))
      clear HQ
      simp only[Bool.not_false,Bool.not_true]
      go_wp2
      go_roundw
      case rel=>exact ⟨j+1+1,by omega,by omega,by go_num,HA2,HB2⟩
      case measure=>simp[intOf];omega
    ·have hlt2:¬ (k:Int)<H.length:=by omega
     have HR3:=mk0 (show r=(if (growsR [] (rowsM H L)).2.1=0 then 0 else 22) by rw[HR2.out,risesH_true H (fun i h=>HA.out i h (by omega))];rfl)
     have HGC:=mk0 (HGR.out _ HB.out)
     clear HR2 HA HGR HLS HRI
     generalize growsR [] (rowsM H L)=gg at *
     obtain ⟨gc,gw,gi⟩:=gg
     dsimp only at HGC HR3
     go_wp2_with fail
     (with_reducible refine HGC.out.mono ?_)
     rintro e w3 ⟨v,rfl,hr3,hb3⟩
     have HB3:=mk0 (HB.out.trans (hb3.mono HB.out.size))
     clear hr3 hb3 HGC
     by_cases hg:gw=0
     ·subst hg
      have HS:=mk0 (show r=0 by rw[HR3.out,if_pos rfl])
      go_wp2
      go_ret
      exact ⟨by rw[HS.out];rfl,HB3.out⟩
     ·have HS:=mk0 (show r=22 by rw[HR3.out,if_neg hg])
      have hgb:(gw != 0)=true:=by simp[hg]
      clear hg
      go_wp2
      go_ret
      exact ⟨by rw[HS.out];rfl,HB3.out⟩
end Go.Proofs.YtplnodcbbcdcgaaGreat.Lib0
namespace Go.Proofs.YtplnodcbbcdcgaaGreat.Lib0
open Go.ChangeShapes Go.WideShapes Go.ChangeAt Go.RowKit
open Go.Proofs.YtplnodcbbcdcgaaGreatW.PrintWords
section
variable {H:Type} {enc:TypeId × Value→H}
instance:Inhabited CellM:=⟨noCell⟩
instance:Inhabited RowIn:=⟨⟨⟨0,0,none,0,0⟩,[]⟩⟩
end
end Go.Proofs.YtplnodcbbcdcgaaGreat.Lib0

import Derived.Test.YtpiobnfakmmpdaaGreatP39
set_option linter.unusedVariables false
set_option linter.unusedSimpArgs false
namespace Go.Proofs.YtpiobnfakmmpdaaGreat.Lib0
open Go.RowKit Go.Proofs.YtpiobnfakmmpdaaGreatW.PrintWords Go.ChangeMaps
structure FrG (ps:List PartM) (g:Nat) (w w':World):Prop where
 os:w'.os=w.os
 tape:w'.tape=w.tape
 output:w'.output=w.output
 size:w.heap.size≤w'.heap.size
 block:∀ k,k<w.heap.size→k≠g→(∀ p ∈ ps,k≠p.cp)→w'.heap[k]?=w.heap[k]?
theorem FrG.of_fr {ps:List PartM} {g:Nat} {w w':World} (h:Fr ps w w'):FrG ps g w w':=⟨h.os,h.tape,h.output,h.size,fun k hk _ hn=>h.block k hk hn⟩
theorem FrG.of_below {ps:List PartM} {g:Nat} {w w':World} (h:Below w.heap.size w w'):FrG ps g w w':=⟨h.os,h.tape,h.output,h.size,fun k hk _ _=>h.block k hk⟩
theorem FrG.set (ps:List PartM) (g i:Nat) (w:World) (u:Value):FrG ps g w (w.setCell ⟨g,i,none⟩ u):=⟨rfl,rfl,rfl,by simp[World.setCell],fun k _ hn _=>Below.heap_setCell _ _ _ _ hn⟩
theorem FrG.trans {ps:List PartM} {g:Nat} {w w1 w2:World} (h:FrG ps g w w1) (k:FrG ps g w1 w2):FrG ps g w w2:=
 ⟨k.os.trans h.os,k.tape.trans h.tape,k.output.trans h.output,Nat.le_trans h.size k.size,fun q hq h1 h2=>(k.block q (Nat.lt_of_lt_of_le hq h.size) h1 h2).trans (h.block q hq h1 h2)⟩
theorem FrG.below {ps:List PartM} {g base:Nat} {w w1:World} (hk:ChksAt w base ps) (h:FrG ps g w w1) (hg:base≤g) (hb:base≤w.heap.size):Below base w w1:=
 ⟨h.os,h.tape,h.output,h.size,fun k hk1=>h.block k (by omega) (by omega) (fun p hp e=>by have:=hk.old p hp;omega)⟩
theorem RowsR.off {lo g i' T:Nat} {w:World} {u:Value} {cs:Array Value} {H:List RowH} {L:List (List CellM)} (h:RowsR w lo H L) (hg:w.heap[g]?=some (.cells cs T (0,0))) (hne:T≠37):RowsR (w.setCell ⟨g,i',none⟩ u) lo H L:=
 ⟨h.1,fun i h1 h2=>⟨(h.2 i h1 h2).1,(h.2 i h1 h2).2.1,R_set_ne rfl (h.2 i h1 h2).2.2 hg hne i' u⟩⟩
def gC (At:Option Addr) (nt ct:Nat) (As:Option Addr) (ns cs:Nat) (Ap:Option Addr) (np cp:Nat) (on st:Int) (Ar:Option Addr) (nr cr:Nat) (n lo hi:Int) (Az:Option Addr) (nz cz:Nat) (Ab:Option Addr) (nb cb:Nat):Array Value:=
 #[.slice At nt ct,.slice As ns cs,.slice Ap np cp,.int .u32 on,.int .i32 st,.int .u32 0,.slice Ar nr cr,.int .i64 n,.int .i64 lo,.int .i64 hi,.slice Az nz cz,.slice Ab nb cb]
structure GrpG (w:World) (g base:Nat) (ts ss:List Int) (ps:List PartM) (on st:Int) (Ar:Option Addr) (nr cr:Nat) (lo hi:Int):Prop where
 ex:∃ (At:Option Addr) (ct:Nat) (As:Option Addr) (cs:Nat) (Ap:Option Addr) (cp:Nat) (Az:Option Addr) (cz:Nat) (Ab:Option Addr) (cb:Nat) (E:List BloomE) (L:List (List UInt8)),
  w.heap[g]?=some (.cells (gC At ts.length ct As ss.length cs Ap ps.length cp on st Ar nr cr ts.length lo hi Az ps.length cz Ab E.length cb) 129 (0,0))∧
  GrpAt w g base (.slice At ts.length ct) (.slice As ss.length cs) (.slice Ap ps.length cp) ts ss ps∧
  kz.R 147 w base (fun _=>True) (.slice Az ps.length cz) ((ps.map PartM.q).map zoneQ)∧kb.R 152 w base (fun _=>True) (.slice Ab E.length cb) E∧
  BlR w base E L∧bloomsM E L=bloomsQ (ps.map PartM.q)∧ps.length≤cz∧E.length≤cb
theorem GrpS.g {w:World} {g base:Nat} {ts ss:List Int} {ps:List PartM} {on:Int} {Ar:Option Addr} {nr cr:Nat} {lo hi:Int} (h:GrpS w g base ts ss ps on (.slice Ar nr cr) lo hi):GrpG w g base ts ss ps on 0 Ar nr cr lo hi:=by
 obtain ⟨vt,vs,vp,Az,cz,Ab,cb,E,L,h1,h2,h3⟩:=h.ex
 obtain ⟨At,ct,rfl⟩:=Kd.R_slice h2.R0
 obtain ⟨As,cs,rfl⟩:=Kd.R_slice h2.R1
 obtain ⟨Ap,cp,rfl⟩:=Kd.R_slice h2.R2
 exact ⟨⟨At,ct,As,cs,Ap,cp,Az,cz,Ab,cb,E,L,h1,h2,h3⟩⟩
theorem gC_no {w:World} {g:Nat} {At:Option Addr} {nt ct:Nat} {As:Option Addr} {ns cs:Nat} {Ap:Option Addr} {np cp:Nat} {on st:Int} {Ar:Option Addr} {nr cr:Nat} {n lo hi:Int} {Az:Option Addr} {nz cz:Nat} {Ab:Option Addr} {nb cb:Nat} (hh:w.heap[g]?=some (.cells (gC At nt ct As ns cs Ap np cp on st Ar nr cr n lo hi Az nz cz Ab nb cb) 129 (0,0))) :
  (∀ o x,w.cell? ⟨g,o,none⟩≠some (.int .u8 x))∧(∀ o s k,w.cell? ⟨g,o,none⟩=some (.string s)→w.cell? ⟨g,o+1,none⟩≠some (.int .i64 k)):=by
 constructor
 ·intro o x
  unfold World.cell?
  simp only[hh,gC]
  rcases o with _ | _ | _ | _ | _ | _ | _ | _ | _ | _ | _ | _ | o<;>simp
 ·intro o s k
  unfold World.cell?
  simp only[hh,gC]
  rcases o with _ | _ | _ | _ | _ | _ | _ | _ | _ | _ | _ | _ | o<;>simp
theorem GrpAt.put {w:World} {g base:Nat} {vt vs vp:Value} {ts ss:List Int} {ps:List PartM} {c0:Array Value} (h:GrpAt w g base vt vs vp ts ss ps) (hh:w.heap[g]?=some (.cells c0 129 (0,0)))
  (hno:(∀ o x,w.cell? ⟨g,o,none⟩≠some (.int .u8 x))∧(∀ o s k,w.cell? ⟨g,o,none⟩=some (.string s)→w.cell? ⟨g,o+1,none⟩≠some (.int .i64 k))) (i:Nat) (hi:3≤i) (u:Value):GrpAt (w.setCell ⟨g,i,none⟩ u) g base vt vs vp ts ss ps:=by
 have hc:∀ j,j<3→(w.setCell ⟨g,i,none⟩ u).cell? ⟨g,j,none⟩=w.cell? ⟨g,j,none⟩:=by
  intro j hj
  have e:=heap_at_setCell (i:=i) (v:=u) hh
  unfold World.cell?
  have hij:i≠j:=by omega
  simp[e,hh,Array.getElem?_setIfInBounds,hij]
 exact ⟨(hc 0 (by omega)).trans h.c0,(hc 1 (by omega)).trans h.c1,(hc 2 (by omega)).trans h.c2,R_set_ne rfl h.R0 hh (by decide) i u,R_set_ne rfl h.R1 hh (by decide) i u,R_set_ne rfl h.R2 hh (by decide) i u,
  h.K.off ((Keep1.refl g w).set i u) (fun p hp e=>h.ne p hp e.symm) hno.1 hno.2,h.ne⟩
section
variable {w:World} {g base:Nat} {ts ss:List Int} {ps:List PartM} {on st:Int} {Ar:Option Addr} {nr cr:Nat} {lo hi:Int}
theorem GrpG.setOn (h:GrpG w g base ts ss ps on st Ar nr cr lo hi) (on':Int):GrpG (w.setCell ⟨g,3,none⟩ (.int .u32 on')) g base ts ss ps on' st Ar nr cr lo hi:=by
 obtain ⟨At,ct,As,cs,Ap,cp,Az,cz,Ab,cb,E,L,h1,h2,h3,h4,h5,h6⟩:=h.ex
 exact ⟨⟨At,ct,As,cs,Ap,cp,Az,cz,Ab,cb,E,L,heap_at_setCell h1,h2.put h1 (gC_no h1) 3 (by omega) _,R_set_ne rfl h3 h1 (by decide) 3 _,R_set_ne rfl h4 h1 (by decide) 3 _,h5.off h1 (by decide),h6⟩⟩
theorem GrpG.setSt (h:GrpG w g base ts ss ps on st Ar nr cr lo hi) (st':Int):GrpG (w.setCell ⟨g,4,none⟩ (.int .i32 st')) g base ts ss ps on st' Ar nr cr lo hi:=by
 obtain ⟨At,ct,As,cs,Ap,cp,Az,cz,Ab,cb,E,L,h1,h2,h3,h4,h5,h6⟩:=h.ex
 exact ⟨⟨At,ct,As,cs,Ap,cp,Az,cz,Ab,cb,E,L,heap_at_setCell h1,h2.put h1 (gC_no h1) 4 (by omega) _,R_set_ne rfl h3 h1 (by decide) 4 _,R_set_ne rfl h4 h1 (by decide) 4 _,h5.off h1 (by decide),h6⟩⟩
theorem GrpG.setVr (h:GrpG w g base ts ss ps on st Ar nr cr lo hi) (A':Option Addr) (n' c':Nat):GrpG (w.setCell ⟨g,6,none⟩ (.slice A' n' c')) g base ts ss ps on st A' n' c' lo hi:=by
 obtain ⟨At,ct,As,cs,Ap,cp,Az,cz,Ab,cb,E,L,h1,h2,h3,h4,h5,h6⟩:=h.ex
 exact ⟨⟨At,ct,As,cs,Ap,cp,Az,cz,Ab,cb,E,L,heap_at_setCell h1,h2.put h1 (gC_no h1) 6 (by omega) _,R_set_ne rfl h3 h1 (by decide) 6 _,R_set_ne rfl h4 h1 (by decide) 6 _,h5.off h1 (by decide),h6⟩⟩
theorem GrpG.fr (h:GrpG w g base ts ss ps on st Ar nr cr lo hi) {w':World} (hf:Fr ps w w') (hk:ChksAt w' base ps):GrpG w' g base ts ss ps on st Ar nr cr lo hi:=by
 obtain ⟨At,ct,As,cs,Ap,cp,Az,cz,Ab,cb,E,L,h1,h2,h3,h4,h5,h6⟩:=h.ex
 exact ⟨⟨At,ct,As,cs,Ap,cp,Az,cz,Ab,cb,E,L,(hf.block g h2.lt h2.ne).trans h1,h2.fr hf hk,R_fr rfl h3 (by decide) h2.K hf,R_fr rfl h4 (by decide) h2.K hf,h5.fr h2.K hf,h6⟩⟩
theorem GrpG.K (h:GrpG w g base ts ss ps on st Ar nr cr lo hi):ChksAt w base ps:=by
 obtain ⟨At,ct,As,cs,Ap,cp,Az,cz,Ab,cb,E,L,h1,h2,h3⟩:=h.ex
 exact h2.K
theorem GrpG.below (h:GrpG w g base ts ss ps on st Ar nr cr lo hi) {w':World} (hb:Below w.heap.size w w'):GrpG w' g base ts ss ps on st Ar nr cr lo hi:=h.fr (Fr.of_below h.K hb) (h.K.below hb)
theorem GrpG.typed (h:GrpG w g base ts ss ps on st Ar nr cr lo hi):∃ c0,w.heap[g]?=some (.cells c0 129 (0,0)):=by
 obtain ⟨At,ct,As,cs,Ap,cp,Az,cz,Ab,cb,E,L,h1,h2,h3⟩:=h.ex
 exact ⟨_,h1⟩
theorem GrpG.lt (h:GrpG w g base ts ss ps on st Ar nr cr lo hi):g<w.heap.size:=by
 obtain ⟨c0,h1⟩:=h.typed
 exact (Array.getElem?_eq_some_iff.1 h1).1
theorem GrpG.ne (h:GrpG w g base ts ss ps on st Ar nr cr lo hi):∀ p ∈ ps,g≠p.cp:=by
 obtain ⟨At,ct,As,cs,Ap,cp,Az,cz,Ab,cb,E,L,h1,h2,h3⟩:=h.ex
 exact h2.ne
theorem GrpG.c3 (h:GrpG w g base ts ss ps on st Ar nr cr lo hi):w.cell? ⟨g,3,none⟩=some (.int .u32 on)∧w.cell? ⟨g,4,none⟩=some (.int .i32 st)∧w.cell? ⟨g,6,none⟩=some (.slice Ar nr cr)∧∀ i,w.frozen? ⟨g,i,none⟩=false:=by
 obtain ⟨At,ct,As,cs,Ap,cp,Az,cz,Ab,cb,E,L,h1,h2,h3⟩:=h.ex
 exact ⟨cell_of_heap (i:=3) h1 rfl,cell_of_heap (i:=4) h1 rfl,cell_of_heap (i:=6) h1 rfl,fun i=>frozen_of_heap h1⟩
end
structure Fit (ts ss:List Int) (ps:List PartM):Prop where
 ss:ss.length=ts.length
 n0:0<ts.length
 n16:ts.length≤16
 ps12:ps.length≤12
 cs:∀ p ∈ ps,p.cs.length=ts.length
def AllCl (w:World) (g base:Nat) (ts ss:List Int) (ps:List PartM) (on st:Int) (lo hi:Int) (e:Ending) (w':World):Prop:=
 e = .returned (.tuple #[])∧∃ (H:List RowH) (L:List (List CellM)) (A:Option Addr) (c:Nat),H.length≤c∧GrpG w' g base ts ss ps on st A H.length c lo hi∧kr.R 35 w' w.heap.size (fun _=>True) (.slice A H.length c) H∧RowsR w' w.heap.size H L∧rowsM H L=builtM ts ss (ps.map PartM.q)∧FrG ps g w w'
set_option maxHeartbeats 1600000 in
set_option maxRecDepth 100000 in
theorem allG_clo {w:World} {pl g base:Nat} {ts ss:List Int} {ps:List PartM} {on st:Int} {Ar:Option Addr} {nr cr:Nat} {lo hi:Int} (hp:w.cell? ⟨pl,0,none⟩=some (.pointer (some ⟨g,0,none⟩))) (hpn:∀ p ∈ ps,pl≠p.cp) (h:GrpG w g base ts ss ps on st Ar nr cr lo hi) (hf:Fit ts ss ps) :
  Calls Tryz.prog 121 #[.pointer (some ⟨pl,0,none⟩)] w (AllCl w g base ts ss ps on st lo hi):=by
 have H0:=mk0 h
 have hpd:w.drew.cell? ⟨pl,0,none⟩=some (.pointer (some ⟨g,0,none⟩)):=hp
 have hgd:=h.below (below_drew w.heap.size w)
 obtain ⟨At,ct,As,cs,Ap,cp,Az,cz,Ab,cb,E,L0,h1,h2,h3⟩:=hgd.ex
 have HBU:=group_built h2 hf.ss (by have:=hf.n16;omega) (by have:=hf.ps12;omega) hf.cs
 have HD2:=mk0 (HBU.mono (R':=fun e w1=>∃ (H:List RowH) (L:List (List CellM)) (A:Option Addr) (c:Nat),e = .returned (.slice A H.length c)∧Aside0 (AllCl w g base ts ss ps on st lo hi (.returned (.tuple #[])) (w1.setCell ⟨g,6,none⟩ (.slice A H.length c)))∧w1.cell? ⟨pl,0,none⟩=some (.pointer (some ⟨g,0,none⟩))∧(w1.cell? ⟨g,6,none⟩=some (.slice Ar nr cr))∧w1.frozen? ⟨g,6,none⟩=false) (by
  rintro e w1 ⟨H,L,A,c,rfl,hc,hr,hrr,hm,hga,hfr⟩
  have hg1:=hgd.fr hfr hga.K
  obtain ⟨c0,ht⟩:=hg1.typed
  have hplt:=World.block_lt_of_cell? w _ hp
  refine ⟨H,L,A,c,rfl,⟨rfl,H,L,A,c,hc,hg1.setVr A H.length c,R_set_ne rfl hr ht (by decide) 6 _,hrr.off ht (by decide),hm,((FrG.of_below (below_drew w.heap.size w)).trans (FrG.of_fr hfr)).trans (FrG.set ps g 6 w1 _)⟩,(World.cell?_of_block (hfr.block pl hplt hpn)).trans hpd,hg1.c3.2.2.1,hg1.c3.2.2.2 6⟩))
 clear hpd hgd h1 h2 h3 HBU h
 go_enter Tryz.func121,Tryz.ntmps121
 go_wp2_with fail
 go_region_with ((go_at_call 61;refine HD2.out.mono ?_;rintro e w1 ⟨H,L,A,c,rfl,HQ,y0,y1,y2⟩))
 all_goals
  clear hp y0 y1 y2
  go_wp2
  go_end0
  exact HQ.out
end Go.Proofs.YtpiobnfakmmpdaaGreat.Lib0
namespace Go.Proofs.YtpiobnfakmmpdaaGreat.Lib0
open Go.RowKit Go.Proofs.YtpiobnfakmmpdaaGreatW.PrintWords Go.ChangeMaps
set_option maxHeartbeats 1600000 in
set_option maxRecDepth 100000 in
theorem allG_slow {w:World} {pl g base:Nat} (hne:pl≠g) {ts ss:List Int} {ps:List PartM} {Ar:Option Addr} {nr cr:Nat} {lo hi:Int} (hp:w.cell? ⟨pl,0,none⟩=some (.pointer (some ⟨g,0,none⟩))) (hpn:∀ p ∈ ps,pl≠p.cp) (h:GrpG w g base ts ss ps 0 0 Ar nr cr lo hi) (hf:Fit ts ss ps) :
  Calls Tryz.prog 151 #[.pointer (some ⟨g,3,none⟩),.func (.func 121) #[] #[.pointer (some ⟨pl,0,none⟩)]] w (AllCl w g base ts ss ps 1 0 lo hi):=by
 have h1:=h.setSt 1
 have hp1:(w.setCell ⟨g,4,none⟩ (.int .i32 1)).cell? ⟨pl,0,none⟩=some (.pointer (some ⟨g,0,none⟩)):=(World.cell?_of_block (Below.heap_setCell _ _ _ _ hne)).trans hp
 have HL:=mk0 (o_lock ⟨g,4,none⟩ w h.c3.2.1 (h.c3.2.2.2 4))
 have HLD:=mk0 (o_load ⟨g,3,none⟩ 0 false rfl (w.setCell ⟨g,4,none⟩ (.int .i32 1)) h1.c3.1)
 have HCL:=mk0 (allG_clo hp1 hpn h1 hf)
 have HSZ:=mk0 (show (w.setCell ⟨g,4,none⟩ (.int .i32 1)).heap.size=w.heap.size by simp[World.setCell])
 have hnot:∀ (x:Bool) (w:World),(Op.unary .not (.bool x)).run Tryz.prog w = .ok (.bool (!x)) w:=fun _ _=>rfl
 clear h h1 hp1 hp
 go_enter_defers Tryz.func151,Tryz.ntmps151
 go_wp2_with fail
 (with_reducible refine HL.out.mono ?_)
 rintro e w' ⟨rfl,rfl⟩
 go_wp2_with fail
 (with_reducible refine HLD.out.mono ?_)
 rintro e w' ⟨rfl,rfl⟩
 go_wp2_with fail
 (with_reducible refine HCL.out.mono ?_)
 rintro e w2 ⟨rfl,H,L,A,c,q1,q2,q3,q4,q5,q6⟩
 rw[HSZ.out] at q3 q4
 have q2d:=q2.below (below_drew w2.heap.size w2)
 have r3:=q2d.setOn 1
 have r4:=r3.setSt 0
 obtain ⟨c0,t2⟩:=q2d.typed
 obtain ⟨c1,t3⟩:=r3.typed
 have hfin:AllCl w g base ts ss ps 1 0 lo hi (.returned (.tuple #[])) ((w2.drew.setCell ⟨g,3,none⟩ (.int .u32 1)).setCell ⟨g,4,none⟩ (.int .i32 0)):=
  ⟨rfl,H,L,A,c,q1,r4,R_set_ne rfl (R_set_ne rfl (Kd.R_drew q3) t2 (by decide) 3 _) t3 (by decide) 4 _,
   RowsR.off (RowsR.off (show RowsR w2.drew w.heap.size H L from ⟨q4.1,fun i k1 k2=>⟨(q4.2 i k1 k2).1,(q4.2 i k1 k2).2.1,Kd.R_drew (q4.2 i k1 k2).2.2⟩⟩) t2 (by decide)) t3 (by decide),q5,
   ((((FrG.set ps g 4 w _).trans q6).trans (FrG.of_below (below_drew w2.heap.size w2))).trans (FrG.set ps g 3 _ _)).trans (FrG.set ps g 4 _ _)⟩
 have HFF:=mk0 hfin
 have R2:=mk0 q2
 have R3:=mk0 r3
 clear r3 r4 hfin q1 q2 q3 q4 q5 q6 q2d t2 t3
 go_wp2
 change Leaves _ _ _ _ _ _ _
 refine leaves_cons (f:=191) (args:=#[.pointer (some ⟨g,3,none⟩),.bool true]) (by simp) (by simp[go_sem]) ?_
 refine (o_store ⟨g,3,none⟩ (.int .u32 0) .returning _ R2.out.c3.1 (R2.out.c3.2.2.2 3)).mono ?_
 rintro e u' w'' ⟨rfl,rfl,rfl⟩
 refine leaves_cons (f:=190) (args:=#[.pointer (some ⟨g,4,none⟩)]) (by simp[settle]) (by simp[go_sem]) ?_
 refine (o_unlock ⟨g,4,none⟩ _ _ R3.out.c3.2.1 (R3.out.c3.2.2.2 4)).mono ?_
 rintro e u' w'' ⟨rfl,rfl,rfl⟩
 have:=HFF.out
 simp[Leaves,settle,results,Tryz.results151]
 exact this
set_option maxHeartbeats 1600000 in
set_option maxRecDepth 100000 in
theorem allG_do0 {w:World} {pl g base:Nat} (hne:pl≠g) {ts ss:List Int} {ps:List PartM} {Ar:Option Addr} {nr cr:Nat} {lo hi:Int} (hp:w.cell? ⟨pl,0,none⟩=some (.pointer (some ⟨g,0,none⟩))) (hpn:∀ p ∈ ps,pl≠p.cp) (h:GrpG w g base ts ss ps 0 0 Ar nr cr lo hi) (hf:Fit ts ss ps) :
  Calls Tryz.prog 97 #[.pointer (some ⟨g,3,none⟩),.func (.func 121) #[] #[.pointer (some ⟨pl,0,none⟩)]] w (AllCl w g base ts ss ps 1 0 lo hi):=by
 have HLD:=mk0 (o_load ⟨g,3,none⟩ 0 false rfl w h.c3.1)
 have HSL:=mk0 (allG_slow hne hp hpn h hf)
 have hnot:∀ (x:Bool) (w:World),(Op.unary .not (.bool x)).run Tryz.prog w = .ok (.bool (!x)) w:=fun _ _=>rfl
 clear h hp
 go_enter Tryz.func97,Tryz.ntmps97
 go_wp2_with fail
 (with_reducible refine HLD.out.mono ?_)
 rintro e w' ⟨rfl,rfl⟩
 go_wp2_with fail
 (with_reducible refine HSL.out.mono ?_)
 rintro e w2 hq
 have HQ:=mk0 hq.2
 obtain ⟨rfl,_⟩:=hq
 go_wp2
 go_end0
 exact ⟨rfl,HQ.out⟩
def GrpT (w:World) (g base:Nat) (ts ss:List Int) (ps:List PartM) (lo hi:Int):Prop:=
 (GrpG w g base ts ss ps 0 0 none 0 0 lo hi)∨
 (∃ (H:List RowH) (L:List (List CellM)) (A:Option Addr) (c:Nat),H.length≤c∧GrpG w g base ts ss ps 1 0 A H.length c lo hi∧kr.R 35 w base (fun _=>True) (.slice A H.length c) H∧RowsR w base H L∧rowsM H L=builtM ts ss (ps.map PartM.q))
def AllGS (w:World) (g base:Nat) (ts ss:List Int) (ps:List PartM) (lo hi:Int) (e:Ending) (w':World):Prop:=
 ∃ (H:List RowH) (L:List (List CellM)) (A:Option Addr) (c:Nat),e = .returned (.slice A H.length c)∧H.length≤c∧GrpG w' g base ts ss ps 1 0 A H.length c lo hi∧kr.R 35 w' base (fun _=>True) (.slice A H.length c) H∧RowsR w' base H L∧rowsM H L=builtM ts ss (ps.map PartM.q)∧FrG ps g w w'
set_option maxHeartbeats 1600000 in
set_option maxRecDepth 100000 in
theorem group_all {w:World} {g base:Nat} {ts ss:List Int} {ps:List PartM} {lo hi:Int} (h:GrpT w g base ts ss ps lo hi) (hf:Fit ts ss ps) (hb:base≤w.heap.size) :
  Calls Tryz.prog 65 #[.pointer (some ⟨g,0,none⟩)] w (AllGS w g base ts ss ps lo hi):=by
 have hmf:∀ (fn:Fn) (first cap:Array Value) (w:World),(Instr.makeFunc fn first cap).run Tryz.prog w = .ok (.func fn first cap) w:=fun _ _ _ _=>rfl
 have BO:=below_alloc (Below.refl w.heap.size w) (.cells #[.pointer (some ⟨g,0,none⟩)] 43)
 have hpl:(w.alloc (.cells #[.pointer (some ⟨g,0,none⟩)] 43)).cell? ⟨w.heap.size,0,none⟩=some (.pointer (some ⟨g,0,none⟩)):=cell_of_heap (heap_alloc_new w _) rfl
 rcases h with h | ⟨H,L,A,c,h1,h2,h3,h4,h5⟩
 ·have hne:w.heap.size≠g:=by have:=h.lt;omega
  have hpn:∀ p ∈ ps,w.heap.size≠p.cp:=fun p hp e=>by have:=(h.K.at_ p hp).lt;omega
  have HDO:=mk0 (allG_do0 hne hpl hpn (h.below BO) hf)
  have HPL:=mk0 hpl
  have HBO:=mk0 BO
  clear h BO hpl
  go_enter Tryz.func65,Tryz.ntmps65
  go_wp2_with fail
  (with_reducible refine HDO.out.mono ?_)
  rintro e w2 ⟨rfl,H,L,A,c,q1,q2,q3,q4,q5,q6⟩
  have x6:=q2.c3.2.2.1
  have xp:w2.cell? ⟨w.heap.size,0,none⟩=some (.pointer (some ⟨g,0,none⟩)):=(World.cell?_of_block (q6.block w.heap.size (by simp) hne hpn)).trans HPL.out
  have Q:=mk0 (And.intro q1 (And.intro q2 (And.intro (Kd.R_lower q3 (Nat.le_trans hb HBO.out.size)) (And.intro (show RowsR w2 base H L from ⟨q4.1,fun i k1 k2=>⟨(q4.2 i k1 k2).1,(q4.2 i k1 k2).2.1,Kd.R_lower (q4.2 i k1 k2).2.2 (Nat.le_trans hb HBO.out.size)⟩⟩) (And.intro q5 ((FrG.of_below HBO.out).trans q6))))))
  clear q1 q2 q3 q4 q5 q6
  go_wp2
  go_ret
  exact ⟨H,L,A,c,rfl,Q.out⟩
 ·have hn2:=h2.below BO
  have HDO:=mk0 (fun fv=>once_done ⟨g,3,none⟩ fv (w.alloc (.cells #[.pointer (some ⟨g,0,none⟩)] 43)) hn2.c3.1 ⟨g,3,none⟩ (by simp[Addr.add]))
  have x6:=hn2.c3.2.2.1
  have Q:=mk0 (And.intro h1 (And.intro hn2 (And.intro (Kd.R_below h3 BO) (And.intro (show RowsR (w.alloc (.cells #[.pointer (some ⟨g,0,none⟩)] 43)) base H L from ⟨h4.1,fun i k1 k2=>⟨(h4.2 i k1 k2).1,(h4.2 i k1 k2).2.1,Kd.R_below (h4.2 i k1 k2).2.2 BO⟩⟩) (And.intro h5 (FrG.of_below (ps:=ps) (g:=g) BO))))))
  clear h2 h3 h4 h5 BO hn2
  go_enter Tryz.func65,Tryz.ntmps65
  go_wp2_with fail
  (with_reducible refine (HDO.out _).mono ?_)
  rintro e w' ⟨rfl,rfl⟩
  go_wp2
  go_ret
  exact ⟨H,L,A,c,rfl,Q.out⟩
end Go.Proofs.YtpiobnfakmmpdaaGreat.Lib0
namespace Go.Proofs.YtpiobnfakmmpdaaGreat.Lib0
open Go.RowKit Go.Proofs.YtpiobnfakmmpdaaGreatW.PrintWords Go.ChangeMaps
theorem rowsM_cs:∀ (H:List RowH) (L:List (List CellM)),H.length=L.length→(rowsM H L).map (·.cs)=L
 | [],[],_=>rfl
 | h :: H,c :: L,e=>by
  show c :: (rowsM H L).map (·.cs)=c :: L
  rw[rowsM_cs H L (by simpa using e)]
def RowsGR (w:World) (g base:Nat) (ts ss:List Int) (ps:List PartM) (lo hi:Int) (e:Ending) (w':World):Prop:=
 ∃ (H:List RowH) (L:List (List CellM)) (A:Option Addr) (c:Nat),e = .returned (.slice A H.length c)∧kr.R 35 w' w.heap.size (fun _=>True) (.slice A H.length c) H∧RowsR w' w.heap.size H L∧rowsM H L=builtM ts ss (ps.map PartM.q)∧GrpT w' g base ts ss ps lo hi∧FrG ps g w w'
def RowsGS (w:World) (g base:Nat) (ts ss:List Int) (ps:List PartM) (lo hi:Int) (e:Ending) (w':World):Prop:=
 ∃ (H:List RowH) (L:List (List CellM)) (A:Option Addr) (c:Nat),e = .returned (.slice A H.length c)∧kr.R 35 w' w.heap.size (fun _=>True) (.slice A H.length c) H∧RowsOn w' H L∧rowsM H L=builtM ts ss (ps.map PartM.q)∧GrpT w' g base ts ss ps lo hi∧FrG ps g w w'
set_option maxHeartbeats 1600000 in
set_option maxRecDepth 100000 in
theorem group_RowsR {w:World} {g base:Nat} {ts ss:List Int} {ps:List PartM} {lo hi:Int} (h:GrpT w g base ts ss ps lo hi) (hf:Fit ts ss ps) (hb:base≤w.heap.size) :
  Calls Tryz.prog 39 #[.pointer (some ⟨g,0,none⟩)] w (RowsGR w g base ts ss ps lo hi):=by
 have HAL:=mk0 (group_all h hf hb)
 have HF:=mk0 hf
 clear h
 go_enter Tryz.func39,Tryz.ntmps39
 go_wp2_with fail
 (with_reducible refine HAL.out.mono ?_)
 rintro e w1 ⟨H,L,A,c,rfl,q1,q2,q3,q4,q5,q6⟩
 have hlen:H.length≤16:=by
  have:=congrArg List.length q5
  rw[rowsM_len H L q4.1,builtM_len] at this
  have:=HF.out.n16
  omega
 have hcl:∀ x ∈ L,x.length≤1099511627776:=by
  intro x hx
  rw[← rowsM_cs H L q4.1,q5] at hx
  obtain ⟨r,hr,rfl⟩:=List.mem_map.1 hx
  unfold builtM at hr
  obtain ⟨i,_,rfl⟩:=List.mem_map.1 hr
  have:=cellsB_len i (ps.map PartM.q)
  rw[List.length_map] at this
  have:=HF.out.ps12
  show (cellsB i (ps.map PartM.q)).length≤_
  omega
 have HCP:=mk0 (row_CopyR A c H L w1 (C_of q3) q4.on (by omega) hcl)
 have Q:=mk0 (And.intro q1 (And.intro q2 (And.intro q3 (And.intro q4 (And.intro q5 q6)))))
 clear q1 q2 q3 q4 q5 q6 hlen hcl HAL
 go_wp2_with fail
 (with_reducible refine HCP.out.mono ?_)
 rintro e w2 ⟨v,H',rfl,r1,r2,r3,r4,r6,r5⟩
 obtain ⟨A2,c2,rfl⟩:=Kd.R_slice r1
 have hgt:GrpT w2 g base ts ss ps lo hi:=.inr ⟨H,L,A,c,Q.out.1,Q.out.2.1.below r5,Kd.R_below Q.out.2.2.1 r5,⟨Q.out.2.2.2.1.1,fun i k1 k2=>⟨(Q.out.2.2.2.1.2 i k1 k2).1,(Q.out.2.2.2.1.2 i k1 k2).2.1,Kd.R_below (Q.out.2.2.2.1.2 i k1 k2).2.2 r5⟩⟩,Q.out.2.2.2.2.1⟩
 have hfin:RowsGR w g base ts ss ps lo hi (.returned (.slice A2 H'.length c2)) w2:=⟨H',L,A2,c2,rfl,Kd.R_lower r1 Q.out.2.2.2.2.2.size,⟨r3.1,fun i h1 h2=>⟨(r3.2 i h1 h2).1,(r3.2 i h1 h2).2.1,Kd.R_lower (r6 i h1 h2) Q.out.2.2.2.2.2.size⟩⟩,r4.trans Q.out.2.2.2.2.1,hgt,Q.out.2.2.2.2.2.trans (FrG.of_below r5)⟩
 have HFN:=mk0 hfin
 clear hfin hgt r1 r2 r3 r4 r5 r6 Q HCP
 go_wp2
 go_ret
 exact HFN.out
theorem group_Rows {w:World} {g base:Nat} {ts ss:List Int} {ps:List PartM} {lo hi:Int} (h:GrpT w g base ts ss ps lo hi) (hf:Fit ts ss ps) (hb:base≤w.heap.size) :
  Calls Tryz.prog 39 #[.pointer (some ⟨g,0,none⟩)] w (RowsGS w g base ts ss ps lo hi):=
 (group_RowsR h hf hb).mono fun _ _ ⟨H,L,A,c,h1,h2,h3,h4⟩=>⟨H,L,A,c,h1,h2,h3.on,h4⟩
end Go.Proofs.YtpiobnfakmmpdaaGreat.Lib0
namespace Go.Proofs.YtpiobnfakmmpdaaGreat.Lib0
open Go.RowKit Go.Proofs.YtpiobnfakmmpdaaGreatW.PrintWords Go.ChangeMaps
theorem writeM_ok {M:List RowM} (h:(writeM M).2=0):0<M.length∧M.length≤16∧checkM M=0∧writeM M=(bytesM M,0):=by
 unfold writeM at h ⊢
 split at h
 ·simp at h
 ·rename_i h1
  split at h
  ·rename_i h2
   rw[if_neg h1,if_pos h2]
   exact ⟨by omega,by omega,h2,rfl⟩
  ·rename_i h2
   exact absurd h h2
structure ReadF (l:List UInt8) (ts ss:List Int) (qs:List PartQ):Prop where
 ss_:ss.length=ts.length
 n0:0<ts.length
 n16:ts.length≤16
 ps12:qs.length≤12
 cs:∀ q ∈ qs,q.cs.length=ts.length
 op:∀ q ∈ qs,openR q.l=some (q.form,q.cs)
 wr:writeM (builtM ts ss qs)=(l,0)
theorem readG_some {l:List UInt8} {ts ss:List Int} {qs:List PartQ} (h:readG l=some (ts,ss,qs)):ReadF l ts ss qs:=by
 unfold readG at h
 split at h
 ·cases h
 ·split at h
  ·cases h
  ·rename_i h0 h1
   split at h
   ·cases h
   ·rename_i qs' q hp
    split at h
    ·cases h
    ·split at h
     ·cases h
     ·rename_i h2 h3
      split at h
      ·cases h
      ·rename_i h4
       injection h with h
       injection h with e1 h
       injection h with e2 e3
       subst e1 e2 e3
       have h5:=writeM_ok (M:=builtM (deltaR l 0 16).1 (deltaR l (deltaR l 0 16).2.1 16).1 qs') (by omega)
       rw[builtM_len] at h5
       refine ⟨by omega,h5.1,h5.2.1,partsR_len hp,fun q hq=>?_,partsR_open hp,?_⟩
       ·have h6:¬ ∃ x,x ∈ qs'∧decide (x.cs.length≠(deltaR l 0 16).1.length)=true:=by
         intro hx
         exact h3 (List.any_eq_true.2 hx)
        exact Decidable.byContradiction fun hn=>h6 ⟨q,hq,by simp[hn]⟩
       ·exact Prod.ext (Decidable.byContradiction fun hn=>h4 (.inr hn)) (Decidable.byContradiction fun hn=>h4 (.inl hn))
theorem ReadF.fit {l:List UInt8} {ts ss:List Int} {ps:List PartM} (h:ReadF l ts ss (ps.map PartM.q)):Fit ts ss ps:=
 ⟨h.ss_,h.n0,h.n16,by have:=h.ps12;simpa using this,fun p hp=>h.cs p.q (List.mem_map_of_mem hp)⟩
theorem built_lens {H:List RowH} {L:List (List CellM)} {ts ss:List Int} {qs:List PartQ} (hl:H.length=L.length) (h:rowsM H L=builtM ts ss qs) (hq:qs.length≤12):H.length=ts.length∧∀ x ∈ L,x.length≤12:=by
 refine ⟨?_,fun x hx=>?_⟩
 ·have:=congrArg List.length h
  rw[rowsM_len H L hl,builtM_len] at this
  exact this
 ·rw[← rowsM_cs H L hl,h] at hx
  obtain ⟨r,hr,rfl⟩:=List.mem_map.1 hx
  unfold builtM at hr
  obtain ⟨i,_,rfl⟩:=List.mem_map.1 hr
  exact Nat.le_trans (cellsB_len i qs) hq
def oneA:ByteArray:=⟨#[97]⟩
def knownM:List RowM:=[⟨1,0,[⟨oneA,1,5,⟨#[]⟩⟩]⟩,⟨1,1,[]⟩]
theorem known_I64:∀ r ∈ knownM,∀ c ∈ r.cs,I64 c.n:=by
 intro r hr c hc
 rcases List.mem_cons.1 hr with rfl | hr
 ·rcases List.mem_cons.1 hc with rfl | hc
  ·exact ⟨by decide,by decide⟩
  ·cases hc
 ·rcases List.mem_cons.1 hr with rfl | hr
  ·cases hc
  ·cases hr
set_option maxRecDepth 100000 in
theorem known_write:(writeM knownM).2=0:=by kernel_rfl
set_option maxRecDepth 100000 in
theorem known_read0:(readG (writeM knownM).1).map (fun x=>(x.1.length==2) && eqMs (builtM x.1 x.2.1 x.2.2) knownM)=some true:=by kernel_rfl
set_option maxRecDepth 100000 in
theorem known_len:(writeM knownM).1.length≤100:=by
 have h:decide ((writeM knownM).1.length≤100)=true:=by kernel_rfl
 exact of_decide_eq_true h
theorem known_read {x:List Int × List Int × List PartQ} (h:readG (writeM knownM).1=some x):x.1.length=2∧eqMs (builtM x.1 x.2.1 x.2.2) knownM=true:=by
 have h0:=known_read0
 rw[h] at h0
 simpa using h0
theorem known_some:readG (writeM knownM).1≠none:=by
 intro h
 have h0:=known_read0
 rw[h] at h0
 cases h0
end Go.Proofs.YtpiobnfakmmpdaaGreat.Lib0

import Derived.Test.YtpiobnfakmmpdaaGreatP18
set_option linter.unusedVariables false
set_option linter.unusedSimpArgs false
namespace Go.Proofs.YtpiobnfakmmpdaaGreat.Lib0
open Go.RowKit Go.Proofs.YtpiobnfakmmpdaaGreatW.PrintWords Go.ChangeMaps
theorem C_keep1 {α:Type} {d:Kd α} (hK:∀ w w' x cs,d.K w x cs→d.K w' x cs) {w w':World} {A:Option Addr} {n:Nat} {l:List α} (h:d.C w A n l) {cp:Nat} (hb:∀ ad,A=some ad→0<n→ad.block≠cp∧ad.block<w.heap.size) (hk:Keep1 cp w w'):d.C w' A n l:=by
 refine ⟨h.1,h.2.1,fun hn=>?_⟩
 obtain ⟨ad,e,hc⟩:=h.2.2 hn
 have hbb:=hb ad e hn
 refine ⟨ad,e,fun j p hp=>?_⟩
 obtain ⟨cs,hl,hkk,hcell⟩:=hc j p hp
 refine ⟨cs,hl,hK _ _ _ _ hkk,fun q v hv=>?_⟩
 rw[← hcell q v hv]
 exact World.cell?_of_block (by rw[add_block];exact hk.block _ hbb.2 hbb.1)
theorem kc_Kw:∀ w w' x cs,kc.K w x cs→kc.K w' x cs:=fun _ _ _ _ h=>h
theorem sc_Kw {α:Type} {enc:α→Value} {h1:∀ x,(enc x).oneCell'=true}:∀ w w' x cs,(Kd.scalar enc h1).K w x cs→(Kd.scalar enc h1).K w' x cs:=fun _ _ _ _ h=>h
def ckCells (Ab:Option Addr) (cb:Nat) (l:List UInt8) (form n:Int) (s3 s4:Value) (on st:Int) (v8:Value):Array Value:=#[.slice Ab l.length cb,.int .i64 form,.int .i64 n,s3,s4,.int .u32 on,.int .i32 st,.int .u32 0,v8]
def CkRaw (w:World) (cp:Nat) (cs:Array Value):Prop:=w.heap[cp]?=some (.cells cs 208 (0,0))
theorem CkRaw.keep {w w':World} {cp:Nat} {cs:Array Value} (h:CkRaw w cp cs) (hb:Below w.heap.size w w'):CkRaw w' cp cs:=(hb.block cp (Array.getElem?_eq_some_iff.1 h).1).trans h
theorem CkRaw.no {w:World} {cp:Nat} {Ab:Option Addr} {cb:Nat} {l:List UInt8} {form n:Int} {A3 A4 A8:Option Addr} {n3 n4 n8 c3 c4 c8:Nat} {on st:Int} (h:CkRaw w cp (ckCells Ab cb l form n (.slice A3 n3 c3) (.slice A4 n4 c4) on st (.slice A8 n8 c8))) (v:Value) (h1:∀ k n,v = .int k n→k = .u8) (h2:∀ a b d,v≠.slice a b d) (o:Nat):w.cell? ⟨cp,o,none⟩≠some v:=by
 unfold CkRaw ckCells at h
 unfold World.cell?
 simp only[h]
 rcases o with _ | _ | _ | _ | _ | _ | _ | _ | _ | o
 ·simp;exact fun he=>h2 _ _ _ he.symm
 ·simp;intro he;have:=h1 _ _ he.symm;cases this
 ·simp;intro he;have:=h1 _ _ he.symm;cases this
 ·simp;exact fun he=>h2 _ _ _ he.symm
 ·simp;exact fun he=>h2 _ _ _ he.symm
 ·simp;intro he;have:=h1 _ _ he.symm;cases this
 ·simp;intro he;have:=h1 _ _ he.symm;cases this
 ·simp;intro he;have:=h1 _ _ he.symm;cases this
 ·simp;exact fun he=>h2 _ _ _ he.symm
 ·simp
theorem CkRaw.off_u8 {w:World} {cp:Nat} {Ab:Option Addr} {cb:Nat} {l:List UInt8} {form n:Int} {A3 A4 A8:Option Addr} {n3 n4 n8 c3 c4 c8:Nat} {on st:Int} (h:CkRaw w cp (ckCells Ab cb l form n (.slice A3 n3 c3) (.slice A4 n4 c4) on st (.slice A8 n8 c8))) {A:Option Addr} {m:Nat} {l':List UInt8} (hc:u8.C w A m l'):∀ ad,A=some ad→0<m→ad.block≠cp∧ad.block<w.heap.size:=by
 rintro ad rfl hm
 obtain ⟨b,o,e,hx⟩:=sc_open hc (by have:=hc.1;omega)
 cases e
 have h0:=hx 0 (by have:=hc.1;omega)
 refine ⟨?_,World.block_lt_of_cell? w _ h0⟩
 rintro rfl
 exact h.no _ (fun k n he=>by cases he;rfl) (fun a b d he=>by cases he) _ h0
theorem CkRaw.off_kc {w:World} {cp:Nat} {Ab:Option Addr} {cb:Nat} {l:List UInt8} {form n:Int} {A3 A4 A8:Option Addr} {n3 n4 n8 c3 c4 c8:Nat} {on st:Int} (h:CkRaw w cp (ckCells Ab cb l form n (.slice A3 n3 c3) (.slice A4 n4 c4) on st (.slice A8 n8 c8))) {A:Option Addr} {m:Nat} {l':List CellM} (hc:kc.C w A m l'):∀ ad,A=some ad→0<m→ad.block≠cp∧ad.block<w.heap.size:=by
 rintro ad rfl hm
 obtain ⟨b,o,e,hx⟩:=kc_open hc (by have:=hc.1;omega)
 cases e
 have h0:=(hx 0 (by have:=hc.1;omega)).1
 refine ⟨?_,World.block_lt_of_cell? w _ h0⟩
 rintro rfl
 exact h.no _ (fun k n he=>by cases he) (fun a b d he=>by cases he) _ h0
def CloS (w:World) (cp:Nat) (Ab:Option Addr) (cb:Nat) (l:List UInt8) (form n:Int) (s3 s4:Value) (on st:Int) (cs:List CellM) (e:Ending) (w':World):Prop:=
 e = .returned (.tuple #[])∧∃ A1 c1,cs.length≤c1∧kc.C w' A1 cs.length cs∧CkRaw w' cp (ckCells Ab cb l form n s3 s4 on st (.slice A1 cs.length c1))∧Keep1 cp w w'∧∀ ad,A1=some ad→w.heap.size≤ad.block
set_option maxHeartbeats 1600000 in
set_option maxRecDepth 100000 in
theorem all_clo {w:World} {pl cp:Nat} {Ab:Option Addr} {cb:Nat} {l:List UInt8} {form n:Int} {A3 A4 A8:Option Addr} {n3 n4 n8 c3 c4 c8:Nat} {on st:Int} (hp:w.cell? ⟨pl,0,none⟩=some (.pointer (some ⟨cp,0,none⟩))) (h:CkRaw w cp (ckCells Ab cb l form n (.slice A3 n3 c3) (.slice A4 n4 c4) on st (.slice A8 n8 c8))) (hC:u8.C w Ab l.length l) (hcb:l.length≤cb) (hl:l.length≤1073741824) :
  Calls Tryz.prog 200 #[.pointer (some ⟨pl,0,none⟩)] w (CloS w cp Ab cb l form n (.slice A3 n3 c3) (.slice A4 n4 c4) on st (readR l).cells):=by
 have x0:w.cell? ⟨cp,0,none⟩=some (.slice Ab l.length cb):=cell_of_heap h rfl
 have HRD:=(chunk_read Ab cb l w.drew hC hcb hl)
 generalize readR l=r at *
 obtain ⟨cs,d,ats,ok⟩:=r
 have HD2:=mk0 (HRD.mono (R':=fun e w1=>∃ A1 c1 A2 c2' A3' c3',e = .returned (.tuple #[.slice A1 cs.length c1,.slice A2 d.length c2',.slice A3' ats.length c3',.bool ok])∧Aside0 (cs.length≤c1∧kc.C w1 A1 cs.length cs∧CkRaw w1 cp (ckCells Ab cb l form n (.slice A3 n3 c3) (.slice A4 n4 c4) on st (.slice A8 n8 c8))∧Keep1 cp w w1∧∀ ad,A1=some ad→w.heap.size≤ad.block)∧w1.frozen? ⟨cp,8,none⟩=false∧w1.cell? ⟨cp,8,none⟩=some (.slice A8 n8 c8)∧w1.cell? ⟨pl,0,none⟩=some (.pointer (some ⟨cp,0,none⟩))) (by
  rintro e w1 ⟨A1,c1,A2,c2',A3',c3',rfl,q1,q2,q3,Q1,Q2,Q3,hb1,qA⟩
  have hb:=(below_drew w.heap.size w).trans hb1
  have hh:=h.keep hb
  exact ⟨A1,c1,A2,c2',A3',c3',rfl,⟨q1,Q1,hh,Keep1.of_below hb,qA⟩,frozen_of_heap hh,cell_of_heap hh rfl,pw_cell_below hb hp⟩))
 clear h hC hcb hl HRD
 go_enter Tryz.func200,Tryz.ntmps200
 go_wp2_with fail
 go_region_with ((go_at_call 164;refine HD2.out.mono ?_;rintro e w1 ⟨A1,c1,A2,c2',A3',c3',rfl,H1,y1,y2,y0⟩))
 all_goals
  have Q1:=mk0 (show CkRaw (w1.setCell ⟨cp,8,none⟩ (.slice A1 cs.length c1)) cp (ckCells Ab cb l form n (.slice A3 n3 c3) (.slice A4 n4 c4) on st (.slice A1 cs.length c1)) from heap_at_setCell H1.out.2.2.1)
  have Q2:=mk0 (C_keep1 kc_Kw H1.out.2.1 (H1.out.2.2.1.off_kc H1.out.2.1) ((Keep1.refl cp w1).set 8 (.slice A1 cs.length c1)))
  have Q3:=mk0 (H1.out.2.2.2.1.set 8 (.slice A1 cs.length c1))
  clear hp x0 y1 y2 y0
  go_wp2
  go_end0
  exact ⟨rfl,A1,c1,H1.out.1,Q2.out,Q1.out,Q3.out,H1.out.2.2.2.2⟩
end Go.Proofs.YtpiobnfakmmpdaaGreat.Lib0
namespace Go.Proofs.YtpiobnfakmmpdaaGreat.Lib0
open Go.RowKit Go.Proofs.YtpiobnfakmmpdaaGreatW.PrintWords Go.ChangeMaps
theorem ck_setSt {w:World} {cp:Nat} {Ab:Option Addr} {cb:Nat} {l:List UInt8} {form n:Int} {s3 s4 v8:Value} {on st:Int} (h:CkRaw w cp (ckCells Ab cb l form n s3 s4 on st v8)) (st':Int):CkRaw (w.setCell ⟨cp,6,none⟩ (.int .i32 st')) cp (ckCells Ab cb l form n s3 s4 on st' v8):=heap_at_setCell h
theorem ck_setOn {w:World} {cp:Nat} {Ab:Option Addr} {cb:Nat} {l:List UInt8} {form n:Int} {s3 s4 v8:Value} {on st:Int} (h:CkRaw w cp (ckCells Ab cb l form n s3 s4 on st v8)) (on':Int):CkRaw (w.setCell ⟨cp,5,none⟩ (.int .u32 on')) cp (ckCells Ab cb l form n s3 s4 on' st v8):=heap_at_setCell h
set_option maxHeartbeats 1600000 in
set_option maxRecDepth 100000 in
theorem ck_slow {w:World} {pl cp:Nat} (hne:pl≠cp) {Ab:Option Addr} {cb:Nat} {l:List UInt8} {form n:Int} {A3 A4:Option Addr} {n3 n4 c3 c4:Nat} (hp:w.cell? ⟨pl,0,none⟩=some (.pointer (some ⟨cp,0,none⟩))) (h:CkRaw w cp (ckCells Ab cb l form n (.slice A3 n3 c3) (.slice A4 n4 c4) 0 0 (.slice none 0 0))) (hC:u8.C w Ab l.length l) (hcb:l.length≤cb) (hl:l.length≤1073741824) :
  Calls Tryz.prog 151 #[.pointer (some ⟨cp,5,none⟩),.func (.func 200) #[] #[.pointer (some ⟨pl,0,none⟩)]] w (CloS w cp Ab cb l form n (.slice A3 n3 c3) (.slice A4 n4 c4) 1 0 (readR l).cells):=by
 have h1:=ck_setSt h 1
 have k1:=(Keep1.refl cp w).set 6 (.int .i32 1)
 have hC1:=C_keep1 sc_Kw hC (h.off_u8 hC) k1
 have hp1:(w.setCell ⟨cp,6,none⟩ (.int .i32 1)).cell? ⟨pl,0,none⟩=some (.pointer (some ⟨cp,0,none⟩)):=(World.cell?_of_block (Below.heap_setCell _ _ _ _ hne)).trans hp
 have HL:=mk0 (o_lock ⟨cp,6,none⟩ w (cell_of_heap h rfl) (frozen_of_heap h))
 have HLD:=mk0 (o_load ⟨cp,5,none⟩ 0 false rfl (w.setCell ⟨cp,6,none⟩ (.int .i32 1)) (cell_of_heap h1 rfl))
 have HCL:=mk0 (all_clo hp1 h1 hC1 hcb hl)
 have K1:=mk0 k1
 have hnot:∀ (x:Bool) (w:World),(Op.unary .not (.bool x)).run Tryz.prog w = .ok (.bool (!x)) w:=fun _ _=>rfl
 generalize (readR l).cells=cs at *
 clear h hC hcb hl h1 k1 hC1 hp1 hp
 go_enter_defers Tryz.func151,Tryz.ntmps151
 go_wp2_with fail
 (with_reducible refine HL.out.mono ?_)
 rintro e w' ⟨rfl,rfl⟩
 go_wp2_with fail
 (with_reducible refine HLD.out.mono ?_)
 rintro e w' ⟨rfl,rfl⟩
 go_wp2_with fail
 (with_reducible refine HCL.out.mono ?_)
 rintro e w2 ⟨rfl,A1,c1,q1,q2,q3,q4,q5⟩
 have Q:=mk0 (And.intro q1 (And.intro q2 (And.intro q3 (And.intro q4 q5))))
 clear q1 q2 q3 q4 q5
 have r3:=ck_setOn (show CkRaw w2.drew cp (ckCells Ab cb l form n (.slice A3 n3 c3) (.slice A4 n4 c4) 0 1 (.slice A1 cs.length c1)) from Q.out.2.2.1) 1
 have r4:=ck_setSt r3 0
 have hf:CloS w cp Ab cb l form n (.slice A3 n3 c3) (.slice A4 n4 c4) 1 0 cs (.returned (.tuple #[])) ((w2.drew.setCell ⟨cp,5,none⟩ (.int .u32 1)).setCell ⟨cp,6,none⟩ (.int .i32 0)):=by
  have k2:Keep1 cp w2 ((w2.drew.setCell ⟨cp,5,none⟩ (.int .u32 1)).setCell ⟨cp,6,none⟩ (.int .i32 0)):=((Keep1.drew cp w2).set 5 _).set 6 _
  exact ⟨rfl,A1,c1,Q.out.1,C_keep1 kc_Kw Q.out.2.1 (Q.out.2.2.1.off_kc Q.out.2.1) k2,r4,(K1.out.trans Q.out.2.2.2.1).trans k2,fun ad he=>by have:=Q.out.2.2.2.2 ad he;simpa [World.setCell] using this⟩
 have HFF:=mk0 hf
 have R3:=mk0 r3
 clear r3 r4 hf
 go_wp2
 change Leaves _ _ _ _ _ _ _
 refine leaves_cons (f:=191) (args:=#[.pointer (some ⟨cp,5,none⟩),.bool true]) (by simp) (by simp[go_sem]) ?_
 refine (o_store ⟨cp,5,none⟩ (.int .u32 0) .returning _ (cell_of_heap Q.out.2.2.1 rfl) (frozen_of_heap Q.out.2.2.1)).mono ?_
 rintro e u' w'' ⟨rfl,rfl,rfl⟩
 refine leaves_cons (f:=190) (args:=#[.pointer (some ⟨cp,6,none⟩)]) (by simp[settle]) (by simp[go_sem]) ?_
 refine (o_unlock ⟨cp,6,none⟩ _ _ (cell_of_heap R3.out rfl) (frozen_of_heap R3.out)).mono ?_
 rintro e u' w'' ⟨rfl,rfl,rfl⟩
 have:=HFF.out
 simp[Leaves,settle,results,Tryz.results151]
 exact this
set_option maxHeartbeats 1600000 in
set_option maxRecDepth 100000 in
theorem ck_do0 {w:World} {pl cp:Nat} (hne:pl≠cp) {Ab:Option Addr} {cb:Nat} {l:List UInt8} {form n:Int} {A3 A4:Option Addr} {n3 n4 c3 c4:Nat} (hp:w.cell? ⟨pl,0,none⟩=some (.pointer (some ⟨cp,0,none⟩))) (h:CkRaw w cp (ckCells Ab cb l form n (.slice A3 n3 c3) (.slice A4 n4 c4) 0 0 (.slice none 0 0))) (hC:u8.C w Ab l.length l) (hcb:l.length≤cb) (hl:l.length≤1073741824) :
  Calls Tryz.prog 97 #[.pointer (some ⟨cp,5,none⟩),.func (.func 200) #[] #[.pointer (some ⟨pl,0,none⟩)]] w (CloS w cp Ab cb l form n (.slice A3 n3 c3) (.slice A4 n4 c4) 1 0 (readR l).cells):=by
 have HLD:=mk0 (o_load ⟨cp,5,none⟩ 0 false rfl w (cell_of_heap h rfl))
 have HSL:=mk0 (ck_slow hne hp h hC hcb hl)
 have hnot:∀ (x:Bool) (w:World),(Op.unary .not (.bool x)).run Tryz.prog w = .ok (.bool (!x)) w:=fun _ _=>rfl
 generalize (readR l).cells=cs at *
 clear h hC hcb hl hp
 go_enter Tryz.func97,Tryz.ntmps97
 go_wp2_with fail
 (with_reducible refine HLD.out.mono ?_)
 rintro e w' ⟨rfl,rfl⟩
 go_wp2_with fail
 (with_reducible refine HSL.out.mono ?_)
 rintro e w2 ⟨rfl,A1,c1,q1,q2,q3,q4,q5⟩
 have Q:=mk0 (And.intro q1 (And.intro q2 (And.intro q3 (And.intro q4 q5))))
 clear q1 q2 q3 q4 q5
 go_wp2
 go_end0
 exact ⟨rfl,A1,c1,Q.out⟩
set_option maxHeartbeats 1600000 in
set_option maxRecDepth 100000 in
theorem once_done (a:Addr) (fv:Value) (w:World) (h:w.cell? a=some (.int .u32 1)) (a5:Addr) (ha:a5.add 0=a) :
  Calls Tryz.prog 97 #[.pointer (some a5),fv] w fun e w'=>e = .returned (.tuple #[])∧w'=w:=by
 have hz0:a5.add 0=a5:=by simp[Addr.add]
 rw[hz0] at ha
 subst ha
 have HLD:=mk0 (o_load a5 1 true rfl w h)
 have hnot:∀ (x:Bool) (w:World),(Op.unary .not (.bool x)).run Tryz.prog w = .ok (.bool (!x)) w:=fun _ _=>rfl
 go_enter Tryz.func97,Tryz.ntmps97
 go_wp2_with fail
 (with_reducible refine HLD.out.mono ?_)
 rintro e w' ⟨rfl,rfl⟩
 go_wp2
 go_end0
 exact ⟨rfl,rfl⟩
theorem C_lt {α:Type} {d:Kd α} {w:World} {A:Option Addr} {n:Nat} {l:List α} (hs:0<d.sz) (h:d.C w A n l):∀ ad,A=some ad→0<n→ad.block<w.heap.size:=by
 rintro ad rfl hn
 obtain ⟨ad',e,hc⟩:=h.2.2 hn
 cases e
 have hl:0<l.length:=by have:=h.1;omega
 obtain ⟨cs,hlen,hk,hcell⟩:=hc 0 l[0] (List.getElem?_eq_getElem hl)
 have h0:0<cs.length:=by rw[hlen];exact hs
 have:=hcell 0 cs[0] (List.getElem?_eq_getElem h0)
 have:=World.block_lt_of_cell? w _ this
 rwa [add_block] at this
def ChkOn (w:World) (cp:Nat) (l:List UInt8) (form:Nat) (cs:List CellM) (A1:Option Addr) (c1:Nat):Prop:=
 ∃ (Ab:Option Addr) (cb:Nat) (Ad:Option Addr) (nd cd:Nat) (At:Option Addr) (nt ct:Nat),CkRaw w cp (ckCells Ab cb l form cs.length (.slice Ad nd cd) (.slice At nt ct) 1 0 (.slice A1 cs.length c1))∧l.length≤cb∧u8.C w Ab l.length l∧cs.length≤c1∧kc.C w A1 cs.length cs
theorem ChkOn.at_ {w:World} {cp:Nat} {l:List UInt8} {form:Nat} {cs:List CellM} {A1:Option Addr} {c1:Nat} (h:ChkOn w cp l form cs A1 c1):ChkAt w cp l form cs:=by
 obtain ⟨Ab,cb,Ad,nd,cd,At,nt,ct,h1,h2,h3,h4,h5⟩:=h
 exact ⟨Ab,cb,Ad,nd,cd,At,nt,ct,1,_,h1,h2,h3,.inr ⟨rfl,A1,c1,rfl,h4,h5⟩⟩
def AllS (lo:Nat) (w:World) (cp:Nat) (l:List UInt8) (form:Nat) (cs:List CellM) (e:Ending) (w':World):Prop:=
 ∃ A1 c1,e = .returned (.slice A1 cs.length c1)∧cs.length≤c1∧kc.C w' A1 cs.length cs∧ChkOn w' cp l form cs A1 c1∧Keep1 cp w w'∧(∀ ad,A1=some ad→0<cs.length→ad.block<lo∨w.heap.size≤ad.block)∧(∀ q,SubAt w' cp q→SubAt w cp q∨w.heap.size≤q)
set_option maxHeartbeats 1600000 in
set_option maxRecDepth 100000 in
theorem ck_all {w0 w:World} {cp:Nat} {l:List UInt8} {form:Nat} {cs:List CellM} (h0:ChkAt w0 cp l form cs) (h0b:Below w0.heap.size w0 w) (hcs:cs=(readR l).cells) (hl:l.length≤1073741824) :
  Calls Tryz.prog 165 #[.pointer (some ⟨cp,0,none⟩)] w (AllS w0.heap.size w cp l form cs):=by
 have h0':=h0
 have hlt:cp<w.heap.size:=Nat.lt_of_lt_of_le h0.lt h0b.size
 obtain ⟨Ab,cb,Ad,nd,cd,At,nt,ct,on,v8,hh,h1,h2,h3⟩:=h0'
 have hh:=(h0b.block cp h0.lt).trans hh
 have h2:=Kd.C_below h2 h0b
 have hmf:∀ (fn:Fn) (first cap:Array Value) (w:World),(Instr.makeFunc fn first cap).run Tryz.prog w = .ok (.func fn first cap) w:=fun _ _ _ _=>rfl
 have BO:=below_alloc (Below.refl w.heap.size w) (.cells #[.pointer (some ⟨cp,0,none⟩)] 134)
 have hpl:(w.alloc (.cells #[.pointer (some ⟨cp,0,none⟩)] 134)).cell? ⟨w.heap.size,0,none⟩=some (.pointer (some ⟨cp,0,none⟩)):=cell_of_heap (heap_alloc_new w _) rfl
 have hne:w.heap.size≠cp:=by omega
 rcases h3 with ⟨rfl,rfl⟩ | ⟨rfl,Ac,cc,rfl,h5,h6⟩
 ·have hraw:CkRaw w cp (ckCells Ab cb l form cs.length (.slice Ad nd cd) (.slice At nt ct) 0 0 (.slice none 0 0)):=hh
  have HDO:=ck_do0 hne hpl (hraw.keep BO) (Kd.C_below h2 BO) h1 hl
  rw[← hcs] at HDO
  have HDO:=mk0 HDO
  have HBO:=mk0 BO
  have HPL:=mk0 hpl
  have H1:=mk0 h1
  have H2:=mk0 h2
  have HRW:=mk0 hraw
  clear hh h1 h2 hcs hl hraw BO hpl h0 h0b
  go_enter Tryz.func165,Tryz.ntmps165
  go_wp2_with fail
  (with_reducible refine HDO.out.mono ?_)
  rintro e w2 ⟨rfl,A1,c1,q1,q2,q3,q4,q5⟩
  have x8:w2.cell? ⟨cp,8,none⟩=some (.slice A1 cs.length c1):=cell_of_heap (i:=8) q3 rfl
  have xp:w2.cell? ⟨w.heap.size,0,none⟩=some (.pointer (some ⟨cp,0,none⟩)):=(World.cell?_of_block (q4.block w.heap.size (by simp) hne)).trans HPL.out
  have Q:=mk0 (And.intro q1 (And.intro q2 (And.intro q3 (And.intro q4 q5))))
  clear q1 q2 q3 q4 q5
  go_wp2
  go_ret
  have k:=(Keep1.of_below (b:=cp) HBO.out).trans Q.out.2.2.2.1
  exact ⟨A1,c1,rfl,Q.out.1,Q.out.2.1,⟨Ab,cb,Ad,nd,cd,At,nt,ct,Q.out.2.2.1,H1.out,C_keep1 sc_Kw H2.out (HRW.out.off_u8 H2.out) k,Q.out.1,Q.out.2.1⟩,k,fun ad he _=>.inr (by have:=Q.out.2.2.2.2 ad he;simp at this;omega),fun q hq=>by
   rcases hq.raw Q.out.2.2.1 with rfl | ⟨ad,n,c',h0,h | h,rfl⟩
   ·exact .inl (.inl rfl)
   ·exact (.inl (.inr ⟨ad,n,c',h0,.inl ((cell_of_heap (i:=0) HRW.out rfl).trans (congrArg some h)),rfl⟩))
   ·injection h with h1
    exact .inr (by have:=Q.out.2.2.2.2 ad h1;simp at this;omega)⟩
 ·have hold:∀ ad,Ac=some ad→0<cs.length→ad.block<w0.heap.size:=C_lt (by decide) h6
  have h6:=Kd.C_below h6 h0b
  have hraw:CkRaw w cp (ckCells Ab cb l form cs.length (.slice Ad nd cd) (.slice At nt ct) 1 0 (.slice Ac cs.length cc)):=hh
  have hr2:=hraw.keep BO
  have HDO:=mk0 (fun fv=>once_done ⟨cp,5,none⟩ fv (w.alloc (.cells #[.pointer (some ⟨cp,0,none⟩)] 134)) (cell_of_heap hr2 rfl) ⟨cp,5,none⟩ (by simp[Addr.add]))
  have x8:(w.alloc (.cells #[.pointer (some ⟨cp,0,none⟩)] 134)).cell? ⟨cp,8,none⟩=some (.slice Ac cs.length cc):=cell_of_heap hr2 rfl
  have HF:Aside0 (AllS w0.heap.size w cp l form cs (.returned (.slice Ac cs.length cc)) (w.alloc (.cells #[.pointer (some ⟨cp,0,none⟩)] 134))):=⟨⟨Ac,cc,rfl,h5,Kd.C_below h6 BO,⟨Ab,cb,Ad,nd,cd,At,nt,ct,hr2,h1,Kd.C_below h2 BO,h5,Kd.C_below h6 BO⟩,Keep1.of_below BO,fun ad he hn=>.inl (hold ad he hn),fun q hq=>.inl (hq.same (BO.block cp hlt))⟩⟩
  clear hh h1 h2 hcs hl hraw BO h5 h6 hr2 hold h0 h0b
  go_enter Tryz.func165,Tryz.ntmps165
  go_wp2_with fail
  (with_reducible refine (HDO.out _).mono ?_)
  rintro e w' ⟨rfl,rfl⟩
  go_wp2
  go_ret
  exact HF.out
end Go.Proofs.YtpiobnfakmmpdaaGreat.Lib0

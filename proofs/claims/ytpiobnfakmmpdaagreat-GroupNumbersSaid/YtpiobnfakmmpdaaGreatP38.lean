import Derived.Test.YtpiobnfakmmpdaaGreatP37
set_option linter.unusedVariables false
set_option linter.unusedSimpArgs false
namespace Go.Proofs.YtpiobnfakmmpdaaGreat.Lib0
open Go.RowKit Go.Proofs.YtpiobnfakmmpdaaGreatW.PrintWords Go.ChangeMaps
structure StS (w V:World) (base sb:Nat) (n lo hi:Int) (ps:List PartM) (zs:List ZoneE) (es:List BloomM):Prop where
 ex:∃ (Az:Option Addr) (cz:Nat) (Ab:Option Addr) (cb:Nat) (E:List BloomE) (L:List (List UInt8)),
  V.heap[sb]?=some (.cells #[.int .i64 n,.int .i64 lo,.int .i64 hi,.slice Az zs.length cz,.slice Ab E.length cb] 58)∧
  kz.R 147 V w.heap.size (fun _=>True) (.slice Az zs.length cz) zs∧kb.R 152 V w.heap.size (fun _=>True) (.slice Ab E.length cb) E∧
  BlR V w.heap.size E L∧bloomsM E L=es∧Free V ps (.slice Az zs.length cz)∧Free V ps (.slice Ab E.length cb)∧zs.length≤cz∧E.length≤cb
 K:ChksAt V base ps
 F:Fr ps w V
structure GatS (W0 V:World) (base X:Nat) (nm:ByteArray) (cp:Nat) (ps:List PartM) (v7 v8:Value) (l:List CellM) (tx:List ByteArray):Prop where
 x:V.heap[X]?=some (.cells #[.string nm,.pointer (some ⟨cp,0,none⟩)] 136)
 R7:kc.R 37 V W0.heap.size (fun _=>True) v7 l
 R8:Kd.string.R 9 V W0.heap.size (fun _=>True) v8 tx
 F7:Free V ps v7
 F8:Free V ps v8
 K:ChksAt V base ps
 F:Fr ps W0 V
theorem GatS.below {W0 V V':World} {base X cp:Nat} {nm:ByteArray} {ps:List PartM} {v7 v8:Value} {l:List CellM} {tx:List ByteArray} (h:GatS W0 V base X nm cp ps v7 v8 l tx) (h0:ChksAt W0 base ps) (hb:Below V.heap.size V V'):GatS W0 V' base X nm cp ps v7 v8 l tx:=
 ⟨(hb.block X (Array.getElem?_eq_some_iff.1 h.x).1).trans h.x,Kd.R_below h.R7 hb,Kd.R_below h.R8 hb,h.F7.below h.K hb,h.F8.below h.K hb,h.K.below hb,h.F.more h0 (hb.mono h.F.size)⟩
theorem GatS.turn {W0 V V':World} {base X cp:Nat} {nm:ByteArray} {ps:List PartM} {v7 v8:Value} {l:List CellM} {tx:List ByteArray} (h:GatS W0 V base X nm cp ps v7 v8 l tx) (h0:ChksAt W0 base ps) (hX:W0.heap.size≤X) {p:PartM} (hp:p ∈ ps) (hk:Keep1 p.cp V V') (hn:ChkAt V' p.cp p.l p.form p.cs) (hs:∀ q,SubAt V' p.cp q→SubAt V p.cp q∨V.heap.size≤q):GatS W0 V' base X nm cp ps v7 v8 l tx:=by
 have hpw:p.cp<W0.heap.size:=(h0.at_ p hp).lt
 exact ⟨(hk.block X (Array.getElem?_eq_some_iff.1 h.x).1 (by omega)).trans h.x,
  R_moved rfl h.R7 (fun q hq=>hk.block q (Kd.R_lt h.R7 q hq) (by have:=R_base h.R7 q hq;omega)),
  R_moved rfl h.R8 (fun q hq=>hk.block q (Kd.R_lt h.R8 q hq) (by have:=R_base h.R8 q hq;omega)),
  h.F7.turn h.K hp hk hs (fun x hx=>Kd.R_lt h.R7 x hx),h.F8.turn h.K hp hk hs (fun x hx=>Kd.R_lt h.R8 x hx),h.K.turn hp hk hn,h.F.trans (Fr.turn h.K hp hk hs)⟩
theorem GatS.grow7 {W0 V V':World} {base X cp:Nat} {nm:ByteArray} {ps:List PartM} {v7 v8 v1:Value} {l l1:List CellM} {tx:List ByteArray} (h:GatS W0 V base X nm cp ps v7 v8 l tx) (h0:ChksAt W0 base ps) (hr:kc.R 37 V' W0.heap.size (fun _=>True) v1 l1) (hb:Below W0.heap.size V V') (hg:V.grownBy V' v7.ownBlock) (hat:v1.ownBlock=v7.ownBlock∨∃ b,v1.ownBlock=some b∧V.heap.size≤b):GatS W0 V' base X nm cp ps v1 v8 l1 tx:=
 ⟨(hg.block X (Array.getElem?_eq_some_iff.1 h.x).1 (fun e=>R_not_at h.R7 h.x (by decide) e.symm)).trans h.x,hr,R_grown_ne rfl h.R8 h.R7 (by decide) hg,Free.next h.K h.F7 hg hat,h.F8.grown (v1:=v1) h.K h.F7 hg,h.K.grown hg h.F7,h.F.more h0 hb⟩
theorem GatS.grow8 {W0 V V':World} {base X cp:Nat} {nm:ByteArray} {ps:List PartM} {v7 v8 v1:Value} {l:List CellM} {tx tx1:List ByteArray} (h:GatS W0 V base X nm cp ps v7 v8 l tx) (h0:ChksAt W0 base ps) (hr:Kd.string.R 9 V' W0.heap.size (fun _=>True) v1 tx1) (hb:Below W0.heap.size V V') (hg:V.grownBy V' v8.ownBlock) (hat:v1.ownBlock=v8.ownBlock∨∃ b,v1.ownBlock=some b∧V.heap.size≤b):GatS W0 V' base X nm cp ps v7 v1 l tx1:=
 ⟨(hg.block X (Array.getElem?_eq_some_iff.1 h.x).1 (fun e=>R_not_at h.R8 h.x (by decide) e.symm)).trans h.x,R_grown_ne rfl h.R7 h.R8 (by decide) hg,hr,h.F7.grown (v1:=v1) h.K h.F8 hg,Free.next h.K h.F8 hg hat,h.K.grown hg h.F8,h.F.more h0 hb⟩
theorem StS.fr {w W0 V:World} {base sb:Nat} {n lo hi:Int} {ps:List PartM} {zs:List ZoneE} {es:List BloomM} (h:StS w W0 base sb n lo hi ps zs es) (hsb:∀ p ∈ ps,sb≠p.cp) (hk:ChksAt V base ps) (hf:Fr ps W0 V):StS w V base sb n lo hi ps zs es:=by
 obtain ⟨Az,cz,Ab,cb,E,L,h1,h2,h3,h4,h5,h6,h7,h8,h9⟩:=h.ex
 exact ⟨⟨Az,cz,Ab,cb,E,L,(hf.block sb (Array.getElem?_eq_some_iff.1 h1).1 hsb).trans h1,R_fr rfl h2 (by decide) h.K hf,R_fr rfl h3 (by decide) h.K hf,h4.fr h.K hf,h5,
  h6.fr hf (fun x hx=>Kd.R_lt h2 x hx),h7.fr hf (fun x hx=>Kd.R_lt h3 x hx),h8,h9⟩,hk,h.F.trans hf⟩
structure Gat2 (V:World) (lo X:Nat) (nm:ByteArray) (cp:Nat) (v8:Value) (tx:List ByteArray):Prop where
 x:V.heap[X]?=some (.cells #[.string nm,.pointer (some ⟨cp,0,none⟩)] 136)
 R8:Kd.string.R 9 V lo (fun _=>True) v8 tx
theorem sts_zone {w V V1:World} {base sb:Nat} {n lo hi:Int} {ps:List PartM} {zs:List ZoneE} {es:List BloomM} {y:ZoneE} {Az:Option Addr} {cz:Nat} {Ab:Option Addr} {cb:Nat} {E:List BloomE} {L:List (List UInt8)} {v1:Value}
  (h1:V.heap[sb]?=some (.cells #[.int .i64 n,.int .i64 lo,.int .i64 hi,.slice Az zs.length cz,.slice Ab E.length cb] 58))
  (h2:kz.R 147 V w.heap.size (fun _=>True) (.slice Az zs.length cz) zs) (h3:kb.R 152 V w.heap.size (fun _=>True) (.slice Ab E.length cb) E) (h4:BlR V w.heap.size E L) (h5:bloomsM E L=es)
  (h6:Free V ps (.slice Az zs.length cz)) (h7:Free V ps (.slice Ab E.length cb)) (h9:E.length≤cb) (hk:ChksAt V base ps) (hf:Fr ps w V) (hk0:ChksAt w base ps) (hsb:∀ p ∈ ps,p.cp≠sb) (hsl:w.heap.size≤sb)
  (hr:kz.R 147 V1 w.heap.size (fun _=>True) v1 (zs++[y])) (hb:Below w.heap.size V V1) (hg:V.grownBy V1 (Value.slice Az zs.length cz).ownBlock) (hat:v1.ownBlock=(Value.slice Az zs.length cz).ownBlock∨∃ b,v1.ownBlock=some b∧V.heap.size≤b) :
  StS w (V1.setCell ⟨sb,3,none⟩ v1) base sb n lo hi ps (zs++[y]) es:=by
 have e1:=(hg.block sb (Array.getElem?_eq_some_iff.1 h1).1 (fun e=>R_not_at h2 h1 (by decide) e.symm)).trans h1
 obtain ⟨A1,c1,rfl,hc1,_⟩:=Kd.R_reads hr
 have k1:=hk.grown hg h6
 have hs:=fun p hp=>Below.heap_setCell V1 ⟨sb,3,none⟩ (.slice A1 (zs++[y]).length c1) p.cp (hsb p hp)
 refine ⟨⟨A1,c1,Ab,cb,E,L,heap_setCell_same _ _ 3 _ _ _ e1,R_set_ne rfl hr e1 (by decide) 3 _,R_set_ne rfl (R_grown_ne rfl h3 h2 (by decide) hg) e1 (by decide) 3 _,(h4.grown h2 (by decide) hg).off e1 (by decide),h5,
  (Free.next hk h6 hg hat).same hs,(h7.grown (v1:=.slice A1 (zs++[y]).length c1) hk h6 hg).same hs,hc1,h9⟩,?_,?_⟩
 ·exact k1.off ((Keep1.refl sb V1).set 3 _) hsb (fun o x=>by
   unfold World.cell?
   simp only[e1]
   rcases o with _ | _ | _ | _ | _ | o<;>simp) (fun o s k=>by
   unfold World.cell?
   simp only[e1]
   rcases o with _ | _ | _ | _ | _ | o<;>simp)
 ·exact (hf.more hk0 hb).more hk0 ((Below.refl w.heap.size V1).setCell (p:=⟨sb,3,none⟩) hsl _)
theorem sts_bloom {w V V1:World} {base sb:Nat} {n lo hi:Int} {ps:List PartM} {zs:List ZoneE} {es:List BloomM} {y:BloomE} {bb:List UInt8} {Az:Option Addr} {cz:Nat} {Ab:Option Addr} {cb:Nat} {E:List BloomE} {L:List (List UInt8)} {v1:Value}
  (h1:V.heap[sb]?=some (.cells #[.int .i64 n,.int .i64 lo,.int .i64 hi,.slice Az zs.length cz,.slice Ab E.length cb] 58))
  (h2:kz.R 147 V w.heap.size (fun _=>True) (.slice Az zs.length cz) zs) (h3:kb.R 152 V w.heap.size (fun _=>True) (.slice Ab E.length cb) E) (h4:BlR V w.heap.size E L) (h5:bloomsM E L=es)
  (h6:Free V ps (.slice Az zs.length cz)) (h7:Free V ps (.slice Ab E.length cb)) (h8:zs.length≤cz) (hk:ChksAt V base ps) (hf:Fr ps w V) (hk0:ChksAt w base ps) (hsb:∀ p ∈ ps,p.cp≠sb) (hsl:w.heap.size≤sb)
  (hy:y.n=bb.length) (hyc:bb.length≤y.c) (hyr:u8.R 5 V w.heap.size (fun _=>True) (.slice y.A y.n y.c) bb)
  (hr:kb.R 152 V1 w.heap.size (fun _=>True) v1 (E++[y])) (hb:Below w.heap.size V V1) (hg:V.grownBy V1 (Value.slice Ab E.length cb).ownBlock) (hat:v1.ownBlock=(Value.slice Ab E.length cb).ownBlock∨∃ b,v1.ownBlock=some b∧V.heap.size≤b) :
  StS w (V1.setCell ⟨sb,4,none⟩ v1) base sb n lo hi ps zs (es++[⟨y.col,y.bits,bb⟩]):=by
 have e1:=(hg.block sb (Array.getElem?_eq_some_iff.1 h1).1 (fun e=>R_not_at h3 h1 (by decide) e.symm)).trans h1
 obtain ⟨A1,c1,rfl,hc1,_⟩:=Kd.R_reads hr
 have k1:=hk.grown hg h7
 have hs:=fun p hp=>Below.heap_setCell V1 ⟨sb,4,none⟩ (.slice A1 (E++[y]).length c1) p.cp (hsb p hp)
 refine ⟨⟨Az,cz,A1,c1,E++[y],L++[bb],heap_setCell_same _ _ 4 _ _ _ e1,R_set_ne rfl (R_grown_ne rfl h2 h3 (by decide) hg) e1 (by decide) 4 _,R_set_ne rfl hr e1 (by decide) 4 _,((h4.grown h3 (by decide) hg).snoc y bb hy hyc (R_grown_ne rfl hyr h3 (by decide) hg)).off e1 (by decide),by rw[bloomsM_snoc _ _ _ _ h4.1,h5],
  (h6.grown (v1:=.slice A1 (E++[y]).length c1) hk h7 hg).same hs,(Free.next hk h7 hg hat).same hs,h8,hc1⟩,?_,?_⟩
 ·exact k1.off ((Keep1.refl sb V1).set 4 _) hsb (fun o x=>by
   unfold World.cell?
   simp only[e1]
   rcases o with _ | _ | _ | _ | _ | o<;>simp) (fun o s k=>by
   unfold World.cell?
   simp only[e1]
   rcases o with _ | _ | _ | _ | _ | o<;>simp)
 ·exact (hf.more hk0 hb).more hk0 ((Below.refl w.heap.size V1).setCell (p:=⟨sb,4,none⟩) hsl _)
theorem textsK_mem {l:List CellM} {s:ByteArray} (h:s ∈ textsK l):∃ c ∈ l,c.kind=2∧s=c.s:=by
 unfold textsK at h
 obtain ⟨c,hc,rfl⟩:=List.mem_map.1 h
 exact ⟨c,(List.mem_filter.1 hc).1,by simpa using (List.mem_filter.1 hc).2,rfl⟩
theorem bloomsQ_len (qs:List PartQ):(bloomsQ qs).length≤qs.length:=by
 induction qs with
 | nil=>simp[bloomsQ]
 | cons q t ih=>
  have e:bloomsQ (q :: t)=bloomQ q++bloomsQ t:=by simp[bloomsQ]
  have h1:(bloomQ q).length≤1:=by unfold bloomQ;split<;>simp
  rw[e,List.length_append,List.length_cons]
  omega
theorem bloomsM_len:∀ (E:List BloomE) (L:List (List UInt8)),E.length=L.length→(bloomsM E L).length=E.length
 | [],[],_=>rfl
 | e :: E,b :: L,h=>by
  show (bloomsM E L).length+1=E.length+1
  rw[bloomsM_len E L (by simpa using h)]
theorem cutL4 {Good:World→World→Option Addr→Nat→Prop} {Pp:World→World→Option Addr→Nat→Prop} {G:Prop} (h:Aside0 (∀ a b c d,Good a b c d→Pp a b c d)→G) (k:∀ a b c d,Good a b c d→Pp a b c d):G:=h ⟨k⟩
theorem cutL6 {Good:World→World→Option Addr→Nat→Option Addr→Nat→Prop} {Pp:World→World→Option Addr→Nat→Option Addr→Nat→Prop} {G:Prop} (h:Aside0 (∀ a b c d e f,Good a b c d e f→Pp a b c d e f)→G) (k:∀ a b c d e f,Good a b c d e f→Pp a b c d e f):G:=h ⟨k⟩
def TellS (w:World) (g base:Nat) (vt vs vp:Value) (ts ss:List Int) (ps:List PartM) (lo hi:Int) (e:Ending) (w':World):Prop:=
 ∃ (Az:Option Addr) (cz:Nat) (Ab:Option Addr) (cb:Nat) (E:List BloomE) (L:List (List UInt8)),
  e = .returned (.agg #[.int .i64 ts.length,.int .i64 lo,.int .i64 hi,.slice Az ps.length cz,.slice Ab E.length cb])∧
  kz.R 147 w' w.heap.size (fun _=>True) (.slice Az ps.length cz) ((ps.map PartM.q).map zoneQ)∧kb.R 152 w' w.heap.size (fun _=>True) (.slice Ab E.length cb) E∧
  BlR w' w.heap.size E L∧bloomsM E L=bloomsQ (ps.map PartM.q)∧ps.length≤cz∧E.length≤cb∧GrpAt w' g base vt vs vp ts ss ps∧Fr ps w w'
set_option maxHeartbeats 3200000 in
set_option maxRecDepth 100000 in
theorem group_tell {w:World} {g base:Nat} {vt vs vp:Value} {ts ss:List Int} {ps:List PartM} (h:GrpAt w g base vt vs vp ts ss ps) (h0:0<ts.length) (hts:ts.length≤65536) (hps:ps.length≤65536) (hcs:∀ p ∈ ps,p.cs.length=ts.length) (hsz:∀ p ∈ ps,∀ c ∈ p.cs,c.kind=2→c.s.size≤1099511627776) (lo hi:Int) (hlo:ts[0]?=some lo) (hhi:ts[ts.length-1]?=some hi) :
  Calls Tryz.prog 62 #[.pointer (some ⟨g,0,none⟩)] w (TellS w g base vt vs vp ts ss ps lo hi):=by
 have HG0:=mk0 h
 have HPS:=mk0 hps
 have HCS:=mk0 hcs
 have HSZ:=mk0 hsz
 obtain ⟨At,ct,rfl⟩:=Kd.R_slice h.R0
 obtain ⟨As,cs',rfl⟩:=Kd.R_slice h.R1
 obtain ⟨Ap,cp',rfl⟩:=Kd.R_slice h.R2
 have hti:(ts.length:Int)≤65536:=by omega
 have hpi:(ps.length:Int)≤65536:=by omega
 have hti0:(0:Int)<ts.length:=by omega
 obtain ⟨w0,hw0⟩:∃ w0,w0=w.alloc (.cells #[.int .i64 0,.int .i64 0,.int .i64 0,.slice none 0 0,.slice none 0 0] 58):=⟨_,rfl⟩
 have hn0:=heap_alloc_new w (.cells #[.int .i64 0,.int .i64 0,.int .i64 0,.slice none 0 0,.slice none 0 0] 58)
 have hb0:=below_alloc (Below.refl w.heap.size w) (.cells #[.int .i64 0,.int .i64 0,.int .i64 0,.slice none 0 0,.slice none 0 0] 58)
 rw[← hw0] at hn0 hb0
 have HN0:=mk0 hn0
 have HB0:=mk0 hb0
 have HF0:=mk0 (Fr.of_below h.K hb0)
 have HG:=mk0 (h.fr HF0.out (h.K.below hb0))
 have x0:=h.c0
 have x0a:∀ o,(w.alloc o).cell? ⟨g,0,none⟩=some (.slice At ts.length ct):=fun o=>(World.cell?_alloc_lt _ _ _ h.lt).trans h.c0
 obtain ⟨bt,ot,rfl,hxt⟩:=sc_open (C_of HG.out.R0) h0
 obtain ⟨y1,e1⟩:=List.getElem?_eq_some_iff.1 hlo
 obtain ⟨y2,e2⟩:=List.getElem?_eq_some_iff.1 hhi
 have t0:=hxt 0 y1
 have t1:=hxt (ts.length-1) y2
 rw[e1] at t0
 rw[e2] at t1
 rw[Nat.add_zero] at t0
 have hnn:wrap64 ((ts.length:Int)-1)=((ts.length-1:Nat):Int):=by unfold wrap64;omega
 have hnn2:IntKind.i64.wrap ((ts.length:Int)-1)=((ts.length-1:Nat):Int):=by rw[IntWalk.i64_in _ (by omega)];omega
 have hnn3:(((ts.length-1:Nat):Int))<ts.length:=by omega
 have x0':=HG.out.c0
 have x2':=HG.out.c2
 clear h hcs hsz hxt hlo hhi hn0 hb0 y1 e1 y2 e2
 go_enter Tryz.func62,Tryz.ntmps62
 go_wp2_with fail
 rw[← hw0]
 clear hw0 x0 x0a
 have hgl:=HG.out.lt
 have hbt:bt<w0.heap.size:=World.block_lt_of_cell? w0 _ t0
 have k0:∀ o,(w0.alloc o).cell? ⟨g,0,none⟩=some (.slice (some ⟨bt,ot,none⟩) ts.length ct):=fun o=>(World.cell?_alloc_lt _ _ _ hgl).trans x0'
 have k1:∀ o,(w0.alloc o).cell? ⟨bt,ot,none⟩=some (.int .i64 lo):=fun o=>(World.cell?_alloc_lt _ _ ⟨bt,ot,none⟩ hbt).trans t0
 have k2:∀ o,(w0.alloc o).cell? ⟨bt,ot+(ts.length-1),none⟩=some (.int .i64 hi):=fun o=>(World.cell?_alloc_lt _ _ ⟨bt,ot+(ts.length-1),none⟩ hbt).trans t1
 go_region_held3 (fun w'=>w'.cell? ⟨g,0,none⟩=some (.slice (some ⟨bt,ot,none⟩) ts.length ct)∧w'.cell? ⟨bt,ot,none⟩=some (.int .i64 lo)∧w'.cell? ⟨bt,ot+(ts.length-1),none⟩=some (.int .i64 hi)) (go_keep) (first | (fail))
 have HW1:Aside0 (Fr ps w0 ((w0.alloc (.cells #[.int .i64 ts.length,.int .i64 lo,.int .i64 hi,.slice none 0 0,.slice none 0 0] 58)).drew)∧ChksAt ((w0.alloc (.cells #[.int .i64 ts.length,.int .i64 lo,.int .i64 hi,.slice none 0 0,.slice none 0 0] 58)).drew) base ps∧((w0.alloc (.cells #[.int .i64 ts.length,.int .i64 lo,.int .i64 hi,.slice none 0 0,.slice none 0 0] 58)).drew).heap[w0.heap.size]?=some (.cells #[.int .i64 ts.length,.int .i64 lo,.int .i64 hi,.slice none 0 0,.slice none 0 0] 58)):=by
  have hb:=(below_alloc (Below.refl w0.heap.size w0) (.cells #[.int .i64 ts.length,.int .i64 lo,.int .i64 hi,.slice none 0 0,.slice none 0 0] 58)).trans (below_drew w0.heap.size _)
  exact ⟨Fr.of_below HG.out.K hb,HG.out.K.below hb,heap_alloc_new w0 _⟩
 generalize (w0.alloc (.cells #[.int .i64 ts.length,.int .i64 lo,.int .i64 hi,.slice none 0 0,.slice none 0 0] 58)).drew=w1 at *
 have HS1:Aside0 (StS w0 w1 base w0.heap.size ts.length lo hi ps (((ps.map PartM.q).take 0).map zoneQ) (bloomsQ ((ps.map PartM.q).take 0))):=
  ⟨⟨none,0,none,0,[],[],HW1.out.2.2,Kd.R_nil _ _ _ _ _,Kd.R_nil _ _ _ _ _,⟨rfl,fun i h1=>by simp at h1⟩,rfl,Free.none _ _ _ _,Free.none _ _ _ _,Nat.zero_le _,Nat.zero_le _⟩,HW1.out.2.1,HW1.out.1⟩
 have y2:=(HG.out.fr HW1.out.1 HW1.out.2.1).c2
 clear k0 k1 k2 x0' x2' t0 t1 hgl hbt hnn hnn2 hnn3
 go_wp2_with fail
 clear y2
 generalize hsb:w0.heap.size=sb at *
 have HSB:=mk0 hsb
 clear hsb
 go_loopw[37] (fun v37 wr=>∃ (j:Nat),j≤ps.length∧v37 = .int .i64 j∧Aside0 (StS w0 wr base sb ts.length lo hi ps (((ps.map PartM.q).take j).map zoneQ) (bloomsQ ((ps.map PartM.q).take j)))) (fun j _=>ps.length-(intOf j).toNat)
 case atStart=>exact ⟨0,by omega,rfl,HS1⟩
 case round=>
  clear HS1 HW1
  obtain ⟨j,hj,rfl,HST⟩:=hrel
  have HGW:=mk0 (HG.out.fr HST.out.F HST.out.K)
  by_cases hjl:j<ps.length
  ·have hjl2:(j:Int)<ps.length:=by omega
   obtain ⟨bp,op,rfl,hxp⟩:=kp_open (C_of HGW.out.R2) (by omega)
   obtain ⟨p0,p1⟩:=hxp j hjl
   obtain ⟨p,hp⟩:∃ p,p=ps[j]:=⟨_,rfl⟩
   have hpm:p ∈ ps:=by rw[hp];exact List.getElem_mem hjl
   have HNZ:=mk0 (show ((ps.map PartM.q).take (j+1)).map zoneQ=((ps.map PartM.q).take j).map zoneQ++[zoneQ p.q] by rw[take_next _ j (by simp;exact hjl),List.map_append,hp];simp)
   have HNB:=mk0 (show bloomsQ ((ps.map PartM.q).take (j+1))=bloomsQ ((ps.map PartM.q).take j)++bloomQ p.q by rw[bloomsQ_next _ j (by simp;exact hjl),hp];simp)
   have HPL:=mk0 (HCS.out p hpm)
   rw[← hp] at p0 p1
   clear hp hxp
   have HZL:=mk0 (show (((ps.map PartM.q).take j).map zoneQ).length≤1048576 by simp;have:=HPS.out;omega)
   obtain ⟨zs,hzs⟩:∃ zs,zs=((ps.map PartM.q).take j).map zoneQ:=⟨_,rfl⟩
   have HBL:=mk0 (show (bloomsQ ((ps.map PartM.q).take j)).length≤1048576 by have:=bloomsQ_len ((ps.map PartM.q).take j);rw[List.length_take,List.length_map] at this;have:=HPS.out;omega)
   obtain ⟨bs,hbs⟩:∃ bs,bs=bloomsQ ((ps.map PartM.q).take j):=⟨_,rfl⟩
   rw[← hzs] at HNZ HST HZL
   rw[← hbs] at HNB HST HBL
   clear hzs hbs
   generalize wr=W0 at *
   go_wp2_with fail
   have HGA:Aside0 (GatS W0 (W0.alloc (.cells #[.string p.name,.pointer (some ⟨p.cp,0,none⟩)] 136)) base W0.heap.size p.name p.cp ps (.slice none 0 0) (.slice none 0 0) (p.cs.take 0) (textsK (p.cs.take 0))):=by
    have hb:=below_alloc (Below.refl W0.heap.size W0) (.cells #[.string p.name,.pointer (some ⟨p.cp,0,none⟩)] 136)
    exact ⟨heap_alloc_new W0 _,Kd.R_nil _ _ _ _ _,Kd.R_nil _ _ _ _ _,Free.none _ _ _ _,Free.none _ _ _ _,HST.out.K.below hb,Fr.of_below HST.out.K hb⟩
   clear p0 p1
   go_loopw[7,8,42] (fun v7 v8 v42 wq=>∃ (i:Nat),i≤ts.length∧v42 = .int .i64 i∧Aside0 (GatS W0 wq base W0.heap.size p.name p.cp ps v7 v8 (p.cs.take i) (textsK (p.cs.take i)))) (fun _ _ i _=>ts.length-(intOf i).toNat)
   case atStart=>exact ⟨0,by omega,rfl,HGA⟩
   case round=>
    clear HGA
    obtain ⟨i,hile,rfl,HGA⟩:=hrel
    obtain ⟨A7,c7,hv7⟩:=Kd.R_slice HGA.out.R7
    obtain ⟨A8,c8,hv8⟩:=Kd.R_slice HGA.out.R8
    subst hv7 hv8
    by_cases hil:i<ts.length
    ·have hil2:(i:Int)<ts.length:=by omega
     have hlen:i<p.cs.length:=by have:=HPL.out;omega
     obtain ⟨y,hy⟩:∃ y,y=p.cs[i]:=⟨_,rfl⟩
     have HNL:=mk0 (show p.cs.take (i+1)=p.cs.take i++[y] by rw[take_next p.cs i hlen,hy])
     have HNT:=mk0 (show textsK (p.cs.take (i+1))=textsK (p.cs.take i)++(if y.kind=2 then [y.s] else []) by rw[textsK_next p.cs i hlen,hy])
     have HCE:=mk0 (ck_Cell (HGA.out.K.at_ p hpm) (HGA.out.K.fit p hpm).1 (HGA.out.K.fit p hpm).2 i hlen)
     rw[← hy] at HCE
     have x1:=cell_of_heap (i:=1) HGA.out.x rfl
     have HAL:=mk0 (show (p.cs.take i).length≤65536 by rw[List.length_take];omega)
     have HTL:=mk0 (show (textsK (p.cs.take i)).length≤65536 by unfold textsK;rw[List.length_map];exact Nat.le_trans (List.length_filter_le _ _) HAL.out)
     obtain ⟨acc,hacc⟩:∃ acc,acc=p.cs.take i:=⟨_,rfl⟩
     obtain ⟨tcc,htcc⟩:∃ tcc,tcc=textsK (p.cs.take i):=⟨_,rfl⟩
     rw[← htcc] at HNT HTL HGA ⊢
     rw[← hacc] at HNL HAL HGA ⊢
     clear hy hacc htcc hlen
     go_wp2_with fail
     (with_reducible refine HCE.out.mono ?_)
     rintro e w5 ⟨rfl,hck,hk1,hsb⟩
     have HG5:=mk0 (HGA.out.turn HST.out.K (Nat.le_refl _) hpm hk1 hck hsb)
     clear hck hk1 hsb HCE HGA x1
     have HB6:=mk0 (below_alloc (Below.refl w5.heap.size w5) (.cells #[.string y.col,.int .i64 y.kind,.int .i64 y.n,.string y.s] 37))
     have HN6:=mk0 (heap_alloc_new w5 (.cells #[.string y.col,.int .i64 y.kind,.int .i64 y.n,.string y.s] 37))
     have HG6:=mk0 (HG5.out.below HST.out.K HB6.out)
     have HA6:=mk0 (show acc.length≤1099511627776 by have:=HAL.out;omega)
     have HT6:=mk0 (show tcc.length≤1099511627776 by have:=HTL.out;omega)
     have HO5:=mk0 (fun x (hx:(Value.slice A7 acc.length c7).ownBlock=some x)=>Kd.R_lt HG5.out.R7 x hx)
     clear HG5 HB6
     go_wp2_with (at_builtin;go_loud (refine kc_append (W:=w5.alloc (.cells #[.string y.col,.int .i64 y.kind,.int .i64 y.n,.string y.s] 37)) (.tmp 49) (.tmp 51) 33 37 (.slice A7 acc.length c7) acc y W0.heap.size rfl rfl Tryz.underlying33 info_cell rfl (by show Value.slice (some ⟨_,0,none⟩) 1 1=_;simp) HG6.out.R7 HG6.out.F.size HA6.out ?_))
     intro v1 w7 hr7 hb7 hg7 hat7
     have hc7:=(hg7.block w5.heap.size (Array.getElem?_eq_some_iff.1 HN6.out).1 (fun e=>absurd (HO5.out _ e.symm) (Nat.lt_irrefl _))).trans HN6.out
     have c1:=cell_of_heap (i:=1) hc7 rfl
     have c3:=cell_of_heap (i:=3) hc7 rfl
     have HG7:=mk0 (HG6.out.grow7 HST.out.K hr7 hb7 hg7 (by rcases hat7 with h | ⟨b,h1,h2⟩;exact .inl h;exact .inr ⟨b,h1,by simpa using h2⟩))
     rw[← HNL.out] at HG7
     clear hr7 hb7 hg7 hat7 hc7 HG6 HN6 HO5 HA6
     by_cases hyk:y.kind=2
     ·have hb2:(y.kind==2)=true:=by rw[beq_iff_eq];exact hyk
      have HNT2:=mk0 (show textsK (p.cs.take (i+1))=tcc++[y.s] by rw[HNT.out,if_pos hyk])
      go_wp2_with (at_builtin;go_loud (refine str_append (W:=w7) (.tmp 56) (.tmp 59) 48 9 (.slice A8 tcc.length c8) tcc y.s W0.heap.size rfl rfl Tryz.underlying48 info_str rfl rfl HG7.out.R8 HG7.out.F.size HT6.out ?_))
      intro v2 w8 hr8 hb8 hg8 hat8
      have HG8:=mk0 (HG7.out.grow8 HST.out.K hr8 hb8 hg8 hat8)
      rw[← HNT2.out] at HG8
      clear hr8 hb8 hg8 hat8 HG7
      go_wp2
      go_roundw
      case rel=>exact ⟨i+1,by omega,by go_num,HG8⟩
      case measure=>simp[intOf];omega
     ·have hb2:(y.kind==2)=false:=by rw[beq_eq_false_iff_ne];exact hyk
      have HNT2:=mk0 (show textsK (p.cs.take (i+1))=tcc by rw[HNT.out,if_neg hyk,List.append_nil])
      have HG8:=mk0 (show GatS W0 w7 base W0.heap.size p.name p.cp ps v1 (.slice A8 tcc.length c8) (p.cs.take (i+1)) (textsK (p.cs.take (i+1))) by rw[HNT2.out];exact HG7.out)
      clear HG7
      go_wp2
      go_roundw
      case rel=>exact ⟨i+1,by omega,by go_num,HG8⟩
      case measure=>simp[intOf];omega
    ·have hi2:i=ts.length:=by omega
     subst hi2
     rw[List.take_of_length_le (by have:=HPL.out;omega)] at HGA ⊢
     have hsp:∀ q ∈ ps,sb≠q.cp:=fun q hq=>by have:=(HG.out.K.at_ q hq).lt;have:=HSB.out;omega
     have HST2:=mk0 (HST.out.fr hsp HGA.out.K HGA.out.F)
     have HPL2:=mk0 (show p.cs.length≤65536 by have:=HPL.out;omega)
     clear HST
     obtain ⟨Az,cz,Ab,cb,E,L,h1,h2,h3,h4,h5,h6,h7,h8,h9⟩:=HST2.out.ex
     have hxl:=(Array.getElem?_eq_some_iff.1 HGA.out.x).1
     have hsl:=(Array.getElem?_eq_some_iff.1 h1).1
     have hxs:W0.heap.size≠sb:=by
      intro e
      rw[e] at HGA
      have h0:=HGA.out.x
      rw[h1] at h0
      simp at h0
     have hsx:sb≠W0.heap.size:=fun e=>hxs e.symm
     have x0:=cell_of_heap (i:=0) HGA.out.x rfl
     have x1:=cell_of_heap (i:=1) HGA.out.x rfl
     have z3:=cell_of_heap (i:=3) h1 rfl
     have zf:=frozen_of_heap (i:=3) h1
     have hform:=((HGA.out.K.at_ p hpm).raw).1
     have hcpn:∀ q ∈ ps,q.cp≠sb:=fun q hq e=>hsp q hq e.symm
     have HH:=mk0 (And.intro h1 (And.intro h2 (And.intro h3 (And.intro h4 (And.intro h5 (And.intro h6 (And.intro h7 (And.intro h8 h9))))))))
     have HKD:=mk0 (chunk_Kind (w:=wr.drew) (cp:=p.cp) (form:=p.form) hform)
     have HZB:=mk0 (zone_Build (kindOf p.form) A7 c7 p.cs wr.drew (Kd.C_drew (C_of HGA.out.R7)) HPL2.out)
     obtain ⟨z,hz⟩:∃ z,z=zoneB (kindOf p.form) p.cs:=⟨_,rfl⟩
     have HZQ:=mk0 (show zoneQ p.q=⟨p.name,z⟩ by rw[hz];rfl)
     rw[← hz] at HZB
     obtain ⟨z0,z1,z2,z3',z4,z5,z6⟩:=z
     unfold ZoneM.cells at HZB
     dsimp only at HZB
     have hlz:=HZL.out
     have HSW:=mk0 (show w0.heap.size≤sb from Nat.le_of_eq HSB.out)
     clear h1 h2 h3 h4 h5 h6 h7 h8 h9 hz hform
     go_wp2_with fail
     apply cutL4 (Good:=fun w5 w7 A1 c1=>StS w0 (w7.setCell ⟨sb,3,none⟩ (.slice A1 (zs.length+1) c1)) base sb ts.length lo hi ps (zs++[⟨p.name,⟨z0,z1,z2,z3',z4,z5,z6⟩⟩]) bs∧Gat2 (w7.setCell ⟨sb,3,none⟩ (.slice A1 (zs.length+1) c1)) W0.heap.size W0.heap.size p.name p.cp (.slice A8 (textsK p.cs).length c8) (textsK p.cs))
     ·intro key
      go_region_law (first
       | (go_simp;go_at_call 115;(with_reducible refine HKD.out.mono ?_);rintro e w' ⟨rfl,rfl⟩)
       | (go_simp;go_at_call 114;(with_reducible refine HZB.out.mono ?_);rintro e w5 ⟨rfl,b5⟩;have HB5:=mk0 (show Below wr.heap.size wr w5 from (below_drew wr.heap.size wr).trans b5);have x0a:w5.cell? ⟨W0.heap.size,0,none⟩=some (.string p.name):=(HB5.out.cell hxl).trans x0;have x1a:w5.cell? ⟨W0.heap.size,1,none⟩=some (.pointer (some ⟨p.cp,0,none⟩)):=(HB5.out.cell hxl).trans x1;have z3a:w5.cell? ⟨sb,3,none⟩=some (.slice Az zs.length cz):=(HB5.out.cell hsl).trans z3;have x0b:∀ o,(w5.alloc o).cell? ⟨W0.heap.size,0,none⟩=some (.string p.name):=(fun o=>(World.cell?_alloc_lt _ _ ⟨W0.heap.size,0,none⟩ (Nat.lt_of_lt_of_le hxl HB5.out.size)).trans x0a);have x1b:∀ o,(w5.alloc o).cell? ⟨W0.heap.size,1,none⟩=some (.pointer (some ⟨p.cp,0,none⟩)):=(fun o=>(World.cell?_alloc_lt _ _ ⟨W0.heap.size,1,none⟩ (Nat.lt_of_lt_of_le hxl HB5.out.size)).trans x1a);have z3b:∀ o,(w5.alloc o).cell? ⟨sb,3,none⟩=some (.slice Az zs.length cz):=(fun o=>(World.cell?_alloc_lt _ _ ⟨sb,3,none⟩ (Nat.lt_of_lt_of_le hsl HB5.out.size)).trans z3a);have HB6:=mk0 (HB5.out.trans ((below_alloc (Below.refl w5.heap.size w5) (.cells #[.string p.name,.int .i64 z0,.int .i64 z1,.int .i64 z2,.int .i64 z3',.int .i64 z4,.string z5,.string z6] 147)).mono HB5.out.size));have HRV:=mk0 (Kd.R_below HH.out.2.1 HB6.out);have HSV:=mk0 (Nat.le_trans HST2.out.F.size HB6.out.size);clear b5)
       | (refine kz_flat.one_step (V:=w5.alloc (.cells #[.string p.name,.int .i64 z0,.int .i64 z1,.int .i64 z2,.int .i64 z3',.int .i64 z4,.string z5,.string z6] 147)) w0.heap.size rfl (.tmp 63) (.tmp 72) 55 147 (.agg #[.string ⟨#[]⟩,.int .i64 0,.int .i64 0,.int .i64 0,.int .i64 0,.int .i64 0,.string ⟨#[]⟩,.string ⟨#[]⟩]) 88 rfl Tryz.underlying55 info_zone rfl (by decide) (by decide) (by decide) (.slice Az zs.length cz) zs ⟨p.name,⟨z0,z1,z2,z3',z4,z5,z6⟩⟩ w5.heap.size 147 rfl rfl (heap_alloc_new w5 _) HRV.out HSV.out hlz ?_;intro v1 w7 hr7 hb7 hg7 hat7;obtain ⟨A1,c1,hv1⟩:=Kd.R_slice hr7;rw[List.length_append] at hv1;replace hv1:v1 = .slice A1 (zs.length+1) c1:=hv1;subst hv1;have hat8:(Value.slice A1 (zs.length+1) c1).ownBlock=(Value.slice Az zs.length cz).ownBlock∨∃ b,(Value.slice A1 (zs.length+1) c1).ownBlock=some b∧(w5.alloc (.cells #[.string p.name,.int .i64 z0,.int .i64 z1,.int .i64 z2,.int .i64 z3',.int .i64 z4,.string z5,.string z6] 147)).heap.size≤b:=(by rcases hat7 with h | h;exact .inl h;exact .inr ⟨_,h,Nat.le_refl _⟩);have e1:=(hg7.block sb (Nat.lt_of_lt_of_le hsl HB6.out.size) (fun e=>R_not_at HRV.out ((HB6.out.block sb hsl).trans HH.out.1) (by decide) e.symm)).trans ((HB6.out.block sb hsl).trans HH.out.1);have ex:=(hg7.block W0.heap.size (Nat.lt_of_lt_of_le hxl HB6.out.size) (fun e=>R_not_at HRV.out ((HB6.out.block W0.heap.size hxl).trans HGA.out.x) (by decide) e.symm)).trans ((HB6.out.block W0.heap.size hxl).trans HGA.out.x);have HS7:=mk0 (sts_zone ((HB6.out.block sb hsl).trans HH.out.1) HRV.out (Kd.R_below HH.out.2.2.1 HB6.out) (HH.out.2.2.2.1.fr HGA.out.K (Fr.of_below HGA.out.K HB6.out)) HH.out.2.2.2.2.1 (HH.out.2.2.2.2.2.1.below HGA.out.K HB6.out) (HH.out.2.2.2.2.2.2.1.below HGA.out.K HB6.out) HH.out.2.2.2.2.2.2.2.2 (HGA.out.K.below HB6.out) (HST2.out.F.more HG.out.K (HB6.out.mono HST2.out.F.size)) HG.out.K hcpn HSW.out hr7 hb7 hg7 hat8);have HG7:=mk0 (show Gat2 (w7.setCell ⟨sb,3,none⟩ (.slice A1 (zs.length+1) c1)) W0.heap.size W0.heap.size p.name p.cp (.slice A8 (textsK p.cs).length c8) (textsK p.cs) from ⟨(Below.heap_setCell _ _ _ _ hxs).trans ex,R_set_ne rfl (R_grown_ne rfl (Kd.R_below HGA.out.R8 HB6.out) HRV.out (by decide) hg7) e1 (by decide) 3 _⟩);have x0c:w7.cell? ⟨W0.heap.size,0,none⟩=some (.string p.name):=cell_of_heap (i:=0) ex rfl;have x1c:w7.cell? ⟨W0.heap.size,1,none⟩=some (.pointer (some ⟨p.cp,0,none⟩)):=cell_of_heap (i:=1) ex rfl;have z3c:w7.cell? ⟨sb,3,none⟩=some (.slice Az zs.length cz):=cell_of_heap (i:=3) e1 rfl;have z3f:w7.frozen? ⟨sb,3,none⟩=false:=frozen_of_heap e1;clear hr7 hb7 hg7 hat7 hat8 e1 ex))
      all_goals exact key.out w5 w7 A1 c1 ⟨HS7.out,HG7.out⟩
     ·rintro w5 w7 A1 c1 ⟨hs7,hg7⟩
      clear HH HST2 HGA HZB HKD x0 x1 z3 zf hxl hsl
      rw[← HZQ.out,← HNZ.out] at hs7
      have HS7:=mk0 hs7
      have HG7:=mk0 hg7
      clear hs7 hg7 HZQ
      generalize w7.setCell ⟨sb,3,none⟩ (.slice A1 (zs.length+1) c1)=U at *
      have HKD2:=mk0 (chunk_Kind (w:=U) (cp:=p.cp) (form:=p.form) ((HS7.out.K.at_ p hpm).raw).1)
      have hxl:=(Array.getElem?_eq_some_iff.1 HG7.out.x).1
      have x0:=cell_of_heap (i:=0) HG7.out.x rfl
      have x1:=cell_of_heap (i:=1) HG7.out.x rfl
      go_wp2_with fail
      (with_reducible refine HKD2.out.mono ?_)
      rintro e w' ⟨rfl,rfl⟩
      by_cases hkd:kindOf p.form=2
      ·have hb2:(kindOf p.form==2)=true:=by rw[beq_iff_eq];exact hkd
       have HNB2:=mk0 (show bloomsQ ((ps.map PartM.q).take (j+1))=bs++[⟨p.name,bloomBits (dictL (textsK p.cs)).length,bloomB (textsK p.cs)⟩] by rw[HNB.out,show bloomQ p.q = [⟨p.name,bloomBits (dictL (textsK p.cs)).length,bloomB (textsK p.cs)⟩] from if_pos hkd])
       obtain ⟨Az,cz,Ab,cb,E,L,h1,h2,h3,h4,h5,h6,h7,h8,h9⟩:=HS7.out.ex
       have HTX:=mk0 (show (textsK p.cs).length≤65536 by unfold textsK;rw[List.length_map];exact Nat.le_trans (List.length_filter_le _ _) HPL2.out)
       have HBB:=mk0 (bloom_Build A8 c8 (textsK p.cs) U.drew (Kd.C_drew (C_of HG7.out.R8)) HTX.out (fun s hs=>by obtain ⟨c,hc,hck,rfl⟩:=textsK_mem hs;exact HSZ.out p hpm c hc hck))
       have z4:=cell_of_heap (i:=4) h1 rfl
       have zf:=frozen_of_heap (i:=4) h1
       have hsl:=(Array.getElem?_eq_some_iff.1 h1).1
       have HH:=mk0 (And.intro h1 (And.intro h2 (And.intro h3 (And.intro h4 (And.intro h5 (And.intro h6 (And.intro h7 (And.intro h8 h9))))))))
       have hel:E.length≤1048576:=by rw[← bloomsM_len E L h4.1,h5];exact HBL.out
       obtain ⟨bb,hbb⟩:∃ bb,bb=bloomB (textsK p.cs):=⟨_,rfl⟩
       obtain ⟨bits,hbits⟩:∃ bits:Int,bits=bloomBits (dictL (textsK p.cs)).length:=⟨_,rfl⟩
       rw[← hbb,← hbits] at HBB HNB2
       clear h1 h2 h3 h4 h5 h6 h7 h8 h9 hbb hbits hb2
       go_wp2_with fail
       apply cutL6 (Good:=fun w5 w7 A1 c1 Ax cx=>StS w0 (w7.setCell ⟨sb,4,none⟩ (.slice A1 (E.length+1) c1)) base sb ts.length lo hi ps (((ps.map PartM.q).take (j+1)).map zoneQ) (bs++[⟨p.name,bits,bb⟩]))
       ·intro key
        go_region_law (first
         | (go_simp;go_at_call 116;(with_reducible refine HBB.out.mono ?_);rintro e w5 ⟨Ax,cx,rfl,hcx,hrx,b5⟩;have HB5:=mk0 (show Below U.heap.size U w5 from (below_drew U.heap.size U).trans b5);have HRX:=mk0 (And.intro hcx hrx);have x0a:w5.cell? ⟨W0.heap.size,0,none⟩=some (.string p.name):=(HB5.out.cell hxl).trans x0;have z4a:w5.cell? ⟨sb,4,none⟩=some (.slice Ab E.length cb):=(HB5.out.cell hsl).trans z4;have x0b:∀ o,(w5.alloc o).cell? ⟨W0.heap.size,0,none⟩=some (.string p.name):=(fun o=>(World.cell?_alloc_lt _ _ ⟨W0.heap.size,0,none⟩ (Nat.lt_of_lt_of_le hxl HB5.out.size)).trans x0a);have z4b:∀ o,(w5.alloc o).cell? ⟨sb,4,none⟩=some (.slice Ab E.length cb):=(fun o=>(World.cell?_alloc_lt _ _ ⟨sb,4,none⟩ (Nat.lt_of_lt_of_le hsl HB5.out.size)).trans z4a);have HB6:=mk0 (HB5.out.trans ((below_alloc (Below.refl w5.heap.size w5) (.cells #[.string p.name,.int .i64 bits,.slice Ax bb.length cx] 152)).mono HB5.out.size));have HRV:=mk0 (Kd.R_below HH.out.2.2.1 HB6.out);have HSV:=mk0 (Nat.le_trans HS7.out.F.size HB6.out.size);clear b5 hcx hrx)
         | (refine kb_flat.one_step (V:=w5.alloc (.cells #[.string p.name,.int .i64 bits,.slice Ax bb.length cx] 152)) w0.heap.size rfl (.tmp 80) (.tmp 86) 56 152 (.agg #[.string ⟨#[]⟩,.int .i64 0,.slice none 0 0]) 48 rfl Tryz.underlying56 info_bloom rfl (by decide) (by decide) (by decide) (.slice Ab E.length cb) E ⟨p.name,bits,Ax,bb.length,cx⟩ w5.heap.size 152 rfl rfl (heap_alloc_new w5 _) HRV.out HSV.out hel ?_;intro v1 w7 hr7 hb7 hg7 hat7;obtain ⟨A1,c1,hv1⟩:=Kd.R_slice hr7;rw[List.length_append] at hv1;replace hv1:v1 = .slice A1 (E.length+1) c1:=hv1;subst hv1;have hat8:(Value.slice A1 (E.length+1) c1).ownBlock=(Value.slice Ab E.length cb).ownBlock∨∃ b,(Value.slice A1 (E.length+1) c1).ownBlock=some b∧(w5.alloc (.cells #[.string p.name,.int .i64 bits,.slice Ax bb.length cx] 152)).heap.size≤b:=(by rcases hat7 with h | h;exact .inl h;exact .inr ⟨_,h,Nat.le_refl _⟩);have e1:=(hg7.block sb (Nat.lt_of_lt_of_le hsl HB6.out.size) (fun e=>R_not_at HRV.out ((HB6.out.block sb hsl).trans HH.out.1) (by decide) e.symm)).trans ((HB6.out.block sb hsl).trans HH.out.1);have ex:=(hg7.block W0.heap.size (Nat.lt_of_lt_of_le hxl HB6.out.size) (fun e=>R_not_at HRV.out ((HB6.out.block W0.heap.size hxl).trans HG7.out.x) (by decide) e.symm)).trans ((HB6.out.block W0.heap.size hxl).trans HG7.out.x);have HS8:=mk0 (sts_bloom (y:=⟨p.name,bits,Ax,bb.length,cx⟩) (bb:=bb) ((HB6.out.block sb hsl).trans HH.out.1) (Kd.R_below HH.out.2.1 HB6.out) HRV.out (HH.out.2.2.2.1.fr HS7.out.K (Fr.of_below HS7.out.K HB6.out)) HH.out.2.2.2.2.1 (HH.out.2.2.2.2.2.1.below HS7.out.K HB6.out) (HH.out.2.2.2.2.2.2.1.below HS7.out.K HB6.out) HH.out.2.2.2.2.2.2.2.1 (HS7.out.K.below HB6.out) (HS7.out.F.more HG.out.K (HB6.out.mono HS7.out.F.size)) HG.out.K hcpn HSW.out rfl HRX.out.1 (Kd.R_lower (Kd.R_below HRX.out.2 (below_alloc (Below.refl w5.heap.size w5) (.cells #[.string p.name,.int .i64 bits,.slice Ax bb.length cx] 152))) HS7.out.F.size) hr7 hb7 hg7 hat8);have x0c:w7.cell? ⟨W0.heap.size,0,none⟩=some (.string p.name):=cell_of_heap (i:=0) ex rfl;have z4c:w7.cell? ⟨sb,4,none⟩=some (.slice Ab E.length cb):=cell_of_heap (i:=4) e1 rfl;have z4f:w7.frozen? ⟨sb,4,none⟩=false:=frozen_of_heap e1;clear hr7 hb7 hg7 hat7 hat8 e1 ex))
        all_goals exact key.out w5 w7 A1 c1 Ax cx HS8.out
       ·intro w5 w7 A1 c1 Ax cx hs8
        have HS8:=mk0 (show StS w0 (w7.setCell ⟨sb,4,none⟩ (.slice A1 (E.length+1) c1)) base sb ts.length lo hi ps (((ps.map PartM.q).take (j+1)).map zoneQ) (bloomsQ ((ps.map PartM.q).take (j+1))) by rw[HNB2.out];exact hs8)
        clear hs8 HH HS7 HG7 HBB x0 x1 z4 zf hxl hsl HKD2
        go_wp2
        go_roundw
        case rel=>exact ⟨j+1,by omega,by go_num,HS8⟩
        case measure=>simp[intOf];omega
      ·have hb2:(kindOf p.form==2)=false:=by rw[beq_eq_false_iff_ne];exact hkd
       have HS8:=mk0 (show StS w0 U base sb ts.length lo hi ps (((ps.map PartM.q).take (j+1)).map zoneQ) (bloomsQ ((ps.map PartM.q).take (j+1))) by
        have e:bloomsQ ((ps.map PartM.q).take (j+1))=bs:=by rw[HNB.out,show bloomQ p.q = [] from if_neg hkd,List.append_nil]
        rw[e];exact HS7.out)
       clear HS7 HG7 x0 x1
       go_wp2
       go_roundw
       case rel=>exact ⟨j+1,by omega,by go_num,HS8⟩
       case measure=>simp[intOf];omega
  ·have hj2:j=ps.length:=by omega
   subst hj2
   rw[List.take_of_length_le (by simp)] at HST
   obtain ⟨Az,cz,Ab,cb,E,L,h1,h2,h3,h4,h5,h6,h7,h8,h9⟩:=HST.out.ex
   have hzl:((ps.map PartM.q).map zoneQ).length=ps.length:=by simp
   rw[hzl] at h1 h2 h6 h8
   have c0:=cell_of_heap (i:=0) h1 rfl
   have c1:=cell_of_heap (i:=1) h1 rfl
   have c2:=cell_of_heap (i:=2) h1 rfl
   have c3:=cell_of_heap (i:=3) h1 rfl
   have c4:=cell_of_heap (i:=4) h1 rfl
   have hwl:w.heap.size<w0.heap.size:=(Array.getElem?_eq_some_iff.1 HN0.out).1
   have hcw:∀ q ∈ ps,w.heap.size≠q.cp:=fun q hq=>by have:=(HG0.out.K.at_ q hq).lt;omega
   have hv:=(HST.out.F.block w.heap.size hwl hcw).trans HN0.out
   have d0:=cell_of_heap (i:=0) hv rfl
   have d1:=cell_of_heap (i:=1) hv rfl
   have d2:=cell_of_heap (i:=2) hv rfl
   have d3:=cell_of_heap (i:=3) hv rfl
   have d4:=cell_of_heap (i:=4) hv rfl
   have e0:=frozen_of_heap (i:=0) hv
   have e1:=frozen_of_heap (i:=1) hv
   have e2:=frozen_of_heap (i:=2) hv
   have e3:=frozen_of_heap (i:=3) hv
   have e4:=frozen_of_heap (i:=4) hv
   have hq:=(((((AtZ.start (base:=w.heap.size) hv).set (Nat.le_refl _) 0 (.int .i64 ts.length)).set (Nat.le_refl _) 1 (.int .i64 lo)).set (Nat.le_refl _) 2 (.int .i64 hi)).set (Nat.le_refl _) 3 (.slice Az ps.length cz)).set (Nat.le_refl _) 4 (.slice Ab E.length cb)
   have HSF:=mk0 (show AtZ w.heap.size w.heap.size 58 wr (((((wr.setCell ⟨w.heap.size,0,none⟩ (.int .i64 ts.length)).setCell ⟨w.heap.size,1,none⟩ (.int .i64 lo)).setCell ⟨w.heap.size,2,none⟩ (.int .i64 hi)).setCell ⟨w.heap.size,3,none⟩ (.slice Az ps.length cz)).setCell ⟨w.heap.size,4,none⟩ (.slice Ab E.length cb)) #[.int .i64 ts.length,.int .i64 lo,.int .i64 hi,.slice Az ps.length cz,.slice Ab E.length cb] from hq)
   have HKK:=mk0 (HST.out.K.off ((((((Keep1.refl w.heap.size wr).set 0 (.int .i64 ts.length)).set 1 (.int .i64 lo)).set 2 (.int .i64 hi)).set 3 (.slice Az ps.length cz)).set 4 (.slice Ab E.length cb)) (fun q hq e=>hcw q hq e.symm) (fun o x=>by
    unfold World.cell?
    simp only[hv]
    rcases o with _ | _ | _ | _ | _ | o<;>simp) (fun o s k=>by
    unfold World.cell?
    simp only[hv]
    rcases o with _ | _ | _ | _ | _ | o<;>simp))
   have hne:∀ {α:Type} {d:Kd α} {e:Nat} {v:Value} {l:List α},d.R e wr w0.heap.size (fun _=>True) v l→∀ q,v.ownBlock=some q→q≠w.heap.size:=fun h q hq=>by have:=R_base h q hq;omega
   have HTT:=mk0 (And.intro (Kd.R_lower (base':=w.heap.size) (R_moved rfl h2 (fun q hq=>HSF.out.2.1 q (hne h2 q hq))) (Nat.le_of_lt hwl)) (And.intro (Kd.R_lower (base':=w.heap.size) (R_moved rfl h3 (fun q hq=>HSF.out.2.1 q (hne h3 q hq))) (Nat.le_of_lt hwl)) (show BlR (((((wr.setCell ⟨w.heap.size,0,none⟩ (.int .i64 ts.length)).setCell ⟨w.heap.size,1,none⟩ (.int .i64 lo)).setCell ⟨w.heap.size,2,none⟩ (.int .i64 hi)).setCell ⟨w.heap.size,3,none⟩ (.slice Az ps.length cz)).setCell ⟨w.heap.size,4,none⟩ (.slice Ab E.length cb)) w.heap.size E L from ⟨h4.1,fun i k1 k2=>⟨(h4.2 i k1 k2).1,(h4.2 i k1 k2).2.1,Kd.R_lower (R_moved rfl (h4.2 i k1 k2).2.2 (fun q hq=>HSF.out.2.1 q (hne (h4.2 i k1 k2).2.2 q hq))) (Nat.le_of_lt hwl)⟩⟩)))
   have HFF:=mk0 ((HF0.out.trans HST.out.F).more HG0.out.K HSF.out.2.2)
   have HGG:=mk0 (HG0.out.fr HFF.out HKK.out)
   have HL5:=mk0 (And.intro h5 (And.intro h8 h9))
   clear hv hq h1 h2 h3 h4 h5 h6 h7 h8 h9 hne hcw
   go_wp2
   generalize ((((wr.setCell ⟨w.heap.size,0,none⟩ (.int .i64 ts.length)).setCell ⟨w.heap.size,1,none⟩ (.int .i64 lo)).setCell ⟨w.heap.size,2,none⟩ (.int .i64 hi)).setCell ⟨w.heap.size,3,none⟩ (.slice Az ps.length cz)).setCell ⟨w.heap.size,4,none⟩ (.slice Ab E.length cb)=Wf at *
   have g0:=cell_of_heap (i:=0) HSF.out.1 rfl
   have g1:=cell_of_heap (i:=1) HSF.out.1 rfl
   have g2:=cell_of_heap (i:=2) HSF.out.1 rfl
   have g3:=cell_of_heap (i:=3) HSF.out.1 rfl
   have g4:=cell_of_heap (i:=4) HSF.out.1 rfl
   refine bodyPost_ret (v:=.agg #[.int .i64 ts.length,.int .i64 lo,.int .i64 hi,.slice Az ps.length cz,.slice Ab E.length cb]) (by simp[results,Tryz.results62,go_sem,g0,g1,g2,g3,g4]) rfl ?_
   exact ⟨Az,cz,Ab,cb,E,L,rfl,HTT.out.1,HTT.out.2.1,HTT.out.2.2,HL5.out.1,HL5.out.2.1,HL5.out.2.2,HGG.out,HFF.out⟩
end Go.Proofs.YtpiobnfakmmpdaaGreat.Lib0

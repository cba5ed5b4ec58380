import Derived.Laws.StructEq
import Derived.Test.YtpiobnfakmmpdaaGreatP29
set_option linter.unusedVariables false
set_option linter.unusedSimpArgs false
namespace Go.Proofs.YtpiobnfakmmpdaaGreat.Lib0
open Go.RowKit Go.Proofs.YtpiobnfakmmpdaaGreatW.PrintWords Go.ChangeMaps
def RiseL (l:List ColM):Prop:=l.Pairwise fun a b=>lessS a.name b.name=true
theorem RiseL.get {l:List ColM} (h:RiseL l) {i j:Nat} (hi:i<j) (hj:j<l.length):lessS (l[i]'(by omega)).name l[j].name=true:=List.pairwise_iff_getElem.1 h i j (by omega) hj hi
theorem RiseL.one {l:List ColM} (h:RiseL l) {x y:ColM} (hx:x ∈ l) (hy:y ∈ l) (e:x.name=y.name):x=y:=by
 obtain ⟨i,hi,rfl⟩:=List.mem_iff_getElem.1 hx
 obtain ⟨j,hj,rfl⟩:=List.mem_iff_getElem.1 hy
 rcases Nat.lt_trichotomy i j with hl | hl | hl
 ·have:=h.get hl hj
  rw[e,lessS_irrefl] at this
  cases this
 ·subst hl;rfl
 ·have:=h.get hl hi
  rw[e,lessS_irrefl] at this
  cases this
theorem cmpT_neg (a s:ByteArray):cmpT a s<0↔lessS a s=true:=by
 unfold cmpT
 split
 ·rename_i h;simp[h]
 ·rename_i h
  split
  ·simp[h]
  ·simp[h]
theorem cmpT_zero (a s:ByteArray):cmpT a s=0↔a=s:=by
 unfold cmpT
 split
 ·rename_i h
  constructor
  ·intro h2;cases h2
  ·intro h2;rw[h2,lessS_irrefl] at h;cases h
 ·split
  ·rename_i h;simp[h]
  ·rename_i h;simp[h]
theorem bsL_lb (d:List ColM) (s:ByteArray):∀ f i j,bsL d s f i j=lbF (fun m=>lessS ((d[m]?).elim ByteArray.empty (·.name)) s) f i j
 | 0,i,j=>rfl
 | f+1,i,j=>by
  rw[bsL,lbF,bsL_lb d s f,bsL_lb d s f]
  simp only[cmpT_neg]
theorem atL_spec {l:List ColM} (h:RiseL l) (s:ByteArray):atL l s≤l.length∧(∀ m (hm:m<l.length),m<atL l s→lessS l[m].name s=true)∧(∀ m (hm:m<l.length),atL l s≤m→lessS l[m].name s=false):=by
 have hg:∀ m (hm:m<l.length),(l[m]?).elim ByteArray.empty (·.name)=l[m].name:=fun m hm=>by rw[List.getElem?_eq_getElem hm];rfl
 obtain ⟨h1,h2,h3⟩:=lbF_spec (fun m=>lessS ((l[m]?).elim ByteArray.empty (·.name)) s) l.length (fun a b hab hb hp=>by
  rw[hg b hb] at hp
  show lessS ((l[a]?).elim ByteArray.empty (·.name)) s=true
  rw[hg a (by omega)]
  rcases Nat.lt_or_ge a b with hl | hl
  ·exact lessS_trans (h.get hl hb) hp
  ·obtain rfl:a=b:=by omega
   exact hp) l.length 0 l.length (Nat.zero_le _) (Nat.le_refl _) (by omega) (fun m hm=>by omega) (fun m h4 h5=>by omega)
 rw[← bsL_lb] at h1 h2 h3
 refine ⟨h1,fun m hm hl=>?_,fun m hm hl=>?_⟩
 ·have:=h2 m hl
  rw[hg m hm] at this
  exact this
 ·have:=h3 m hl hm
  rw[hg m hm] at this
  exact this
theorem hasL_iff (l:List ColM) (s:ByteArray):hasL l s=true↔∃ hl:atL l s<l.length,l[atL l s].name=s:=by
 unfold hasL
 rw[Bool.and_eq_true,decide_eq_true_eq,decide_eq_true_eq,cmpT_zero]
 constructor
 ·rintro ⟨h1,h2⟩
  rw[List.getElem?_eq_getElem h1] at h2
  exact ⟨h1,h2⟩
 ·rintro ⟨h1,h2⟩
  rw[List.getElem?_eq_getElem h1]
  exact ⟨h1,h2⟩
theorem hasL_mem {l:List ColM} (h:RiseL l) {x:ColM} (hx:x ∈ l):hasL l x.name=true∧l[atL l x.name]?=some x:=by
 obtain ⟨h1,h2,h3⟩:=atL_spec h x.name
 obtain ⟨i,hi,rfl⟩:=List.mem_iff_getElem.1 hx
 have hle:atL l l[i].name≤i:=by
  rcases Nat.lt_or_ge i (atL l l[i].name) with hl | hl
  ·have:=h2 i hi hl
   rw[lessS_irrefl] at this
   cases this
  ·exact hl
 have he:atL l l[i].name=i:=by
  rcases Nat.lt_or_ge (atL l l[i].name) i with hl | hl
  ·have h4:=h3 _ (by omega) (Nat.le_refl _)
   rw[h.get hl hi] at h4
   cases h4
  ·omega
 refine ⟨(hasL_iff _ _).2 ⟨by omega,?_⟩,?_⟩
 ·simp only[he]
 ·rw[he,List.getElem?_eq_getElem hi]
theorem hasL_get {l:List ColM} {s:ByteArray} (h:hasL l s=true):∃ x ∈ l,x.name=s∧l[atL l s]?=some x:=by
 obtain ⟨h1,h2⟩:=(hasL_iff _ _).1 h
 exact ⟨l[atL l s],List.getElem_mem h1,h2,List.getElem?_eq_getElem h1⟩
theorem mem_insL {l:List ColM} {i:Nat} {x y:ColM}:y ∈ insL l i x↔y=x∨y ∈ l:=by
 unfold insL
 rw[List.mem_append,List.mem_cons]
 have:y ∈ l↔y ∈ l.take i∨y ∈ l.drop i:=by rw[← List.mem_append,List.take_append_drop]
 rw[this]
 constructor
 ·rintro (h | h | h)
  ·exact .inr (.inl h)
  ·exact .inl h
  ·exact .inr (.inr h)
 ·rintro (h | h | h)
  ·exact .inr (.inl h)
  ·exact .inl h
  ·exact .inr (.inr h)
theorem insL_rise {l:List ColM} (h:RiseL l) {s:ByteArray} (k:Int) (hn:hasL l s=false):RiseL (insL l (atL l s) ⟨s,k⟩):=by
 obtain ⟨h1,h2,h3⟩:=atL_spec h s
 have hne:∀ x ∈ l,x.name≠s:=fun x hx e=>by
  have:=(hasL_mem h hx).1
  rw[e,hn] at this
  cases this
 have ht:∀ x ∈ l.take (atL l s),lessS x.name s=true:=fun x hx=>by
  obtain ⟨i,hi,rfl⟩:=List.mem_iff_getElem.1 hx
  rw[List.length_take] at hi
  rw[List.getElem_take]
  exact h2 i (by omega) (by omega)
 have hd:∀ x ∈ l.drop (atL l s),lessS s x.name=true:=fun x hx=>by
  have hxl:=List.mem_of_mem_drop hx
  obtain ⟨i,hi,rfl⟩:=List.mem_iff_getElem.1 hx
  rw[List.length_drop] at hi
  rw[List.getElem_drop] at hxl ⊢
  have h4:=h3 (atL l s+i) (by omega) (by omega)
  cases h5:lessS s (l[atL l s+i]'(by omega)).name
  ·exact absurd (lessS_tri h4 h5) (hne _ hxl)
  ·rfl
 unfold RiseL insL
 have hp:=h
 unfold RiseL at hp
 rw[← List.take_append_drop (atL l s) l,List.pairwise_append] at hp
 obtain ⟨p1,p2,p3⟩:=hp
 rw[List.pairwise_append]
 refine ⟨p1,?_,?_⟩
 ·rw[List.pairwise_cons]
  exact ⟨hd,p2⟩
 ·intro a ha b hb
  rcases List.mem_cons.1 hb with rfl | hb
  ·exact ht a ha
  ·exact p3 a ha b hb
theorem growC_spec:∀ (cs:List CellM) (l l':List ColM),growC l cs=some l'→RiseL l→RiseL l'∧(∀ x ∈ l,x ∈ l')∧(∀ c ∈ cs,(⟨c.col,c.kind⟩:ColM) ∈ l')∧(∀ x ∈ l',x ∈ l∨∃ c ∈ cs,x=⟨c.col,c.kind⟩)
 | [],l,l',h,hl=>by
  rw[growC] at h
  injection h with h
  subst h
  exact ⟨hl,fun x hx=>hx,fun c hc=>(by cases hc),fun x hx=>.inl hx⟩
 | c :: cs,l,l',h,hl=>by
  rw[growC] at h
  split at h
  ·rename_i hh
   split at h
   ·rename_i hk
    obtain ⟨h1,h2,h3,h4⟩:=growC_spec cs l l' h hl
    obtain ⟨x,hx,hn,hg⟩:=hasL_get hh
    have hxc:x=⟨c.col,c.kind⟩:=by
     unfold kindAt at hk
     rw[hg] at hk
     obtain ⟨a,b⟩:=x
     dsimp only[Option.elim_some] at hk hn
     rw[hn,hk]
    refine ⟨h1,h2,fun d hd=>?_,fun x hx=>?_⟩
    ·rcases List.mem_cons.1 hd with rfl | hd
     ·rw[← hxc];exact h2 x hx
     ·exact h3 d hd
    ·rcases h4 x hx with h5 | ⟨d,hd,e⟩
     ·exact .inl h5
     ·exact .inr ⟨d,List.mem_cons_of_mem _ hd,e⟩
   ·cases h
  ·rename_i hh
   obtain ⟨h1,h2,h3,h4⟩:=growC_spec cs _ l' h (insL_rise hl c.kind (by simpa using hh))
   refine ⟨h1,fun x hx=>h2 x (mem_insL.2 (.inr hx)),fun d hd=>?_,fun x hx=>?_⟩
   ·rcases List.mem_cons.1 hd with rfl | hd
    ·exact h2 _ (mem_insL.2 (.inl rfl))
    ·exact h3 d hd
   ·rcases h4 x hx with h5 | ⟨d,hd,e⟩
    ·rcases mem_insL.1 h5 with h6 | h6
     ·exact .inr ⟨c,by simp,h6⟩
     ·exact .inl h6
    ·exact .inr ⟨d,List.mem_cons_of_mem _ hd,e⟩
theorem growR_ok {l:List ColM} {cs:List CellM} (h:(growR l cs).2=0):growC l cs=some (growR l cs).1:=by
 unfold growR at h ⊢
 cases hg:growC l cs with
 | none=>rw[hg] at h;cases h
 | some l'=>
  rw[hg] at h
  dsimp only at h ⊢
  split at h
  ·rename_i h12;rw[if_pos h12]
  ·cases h
theorem growsF_spec:∀ (L:List RowM) (l:List ColM) (k:Nat),(growsF l k L).2.1=0→RiseL l→RiseL (growsF l k L).1∧(∀ x ∈ l,x ∈ (growsF l k L).1)∧(∀ r ∈ L,∀ c ∈ r.cs,(⟨c.col,c.kind⟩:ColM) ∈ (growsF l k L).1)∧(∀ x ∈ (growsF l k L).1,x ∈ l∨∃ r ∈ L,∃ c ∈ r.cs,x=⟨c.col,c.kind⟩)
 | [],l,k,h,hl=>⟨hl,fun x hx=>hx,fun r hr=>(by cases hr),fun x hx=>.inl hx⟩
 | r :: t,l,k,h,hl=>by
  rw[growsF] at h ⊢
  split at h
  ·rename_i hr
   rw[if_pos hr]
   split at h
   ·rename_i h0
    rw[if_pos h0]
    obtain ⟨g1,g2,g3,g4⟩:=growC_spec _ _ _ (growR_ok h0) hl
    obtain ⟨h1,h2,h3,h4⟩:=growsF_spec t _ _ h g1
    refine ⟨h1,fun x hx=>h2 x (g2 x hx),fun d hd c hc=>?_,fun x hx=>?_⟩
    ·rcases List.mem_cons.1 hd with rfl | hd
     ·exact h2 _ (g3 c hc)
     ·exact h3 d hd c hc
    ·rcases h4 x hx with h5 | ⟨d,hd,e⟩
     ·rcases g4 x h5 with h6 | ⟨c,hc,e⟩
      ·exact .inl h6
      ·exact .inr ⟨r,by simp,c,hc,e⟩
     ·exact .inr ⟨d,List.mem_cons_of_mem _ hd,e⟩
   ·rename_i h0;exact absurd h h0
  ·cases h
end Go.Proofs.YtpiobnfakmmpdaaGreat.Lib0
namespace Go.Proofs.YtpiobnfakmmpdaaGreat.Lib0
open Go.RowKit Go.Proofs.YtpiobnfakmmpdaaGreatW.PrintWords Go.ChangeMaps
def RowsR (w:World) (lo:Nat) (H:List RowH) (L:List (List CellM)):Prop:=H.length=L.length∧∀ i (h1:i<H.length) (h2:i<L.length),H[i].n=L[i].length∧L[i].length≤H[i].c∧kc.R 37 w lo (fun _=>True) (.slice H[i].A H[i].n H[i].c) L[i]
theorem RowsR.on {w:World} {lo:Nat} {H:List RowH} {L:List (List CellM)} (h:RowsR w lo H L):RowsOn w H L:=⟨h.1,fun i h1 h2=>by
 obtain ⟨q1,q2,q3⟩:=h.2 i h1 h2
 refine ⟨q1,q2,?_⟩
 rw[q1] at q3
 exact C_of q3⟩
theorem RowsR.grown {α:Type} {d:Kd α} {e base lo:Nat} {ok:Nat→Prop} {w w1:World} {v:Value} {l:List α} {H:List RowH} {L:List (List CellM)} (h:RowsR w lo H L) (h':d.R e w base ok v l) (hne:37≠e) (hg:w.grownBy w1 v.ownBlock):RowsR w1 lo H L:=
 ⟨h.1,fun i h1 h2=>⟨(h.2 i h1 h2).1,(h.2 i h1 h2).2.1,R_grown_ne rfl (h.2 i h1 h2).2.2 h' hne hg⟩⟩
theorem RowsR.snoc {w:World} {lo:Nat} {H:List RowH} {L:List (List CellM)} (h:RowsR w lo H L) (x:RowH) (cs:List CellM) (h1:x.n=cs.length) (h2:cs.length≤x.c) (hr:kc.R 37 w lo (fun _=>True) (.slice x.A x.n x.c) cs):RowsR w lo (H++[x]) (L++[cs]):=by
 refine ⟨by simp[h.1],fun i k1 k2=>?_⟩
 rw[List.length_append,List.length_singleton] at k1 k2
 by_cases hi:i<H.length
 ·have hi2:i<L.length:=by rw[← h.1];exact hi
  rw[List.getElem_append_left hi,List.getElem_append_left hi2]
  exact h.2 i hi hi2
 ·have e1:i=H.length:=by omega
  have e2:i=L.length:=by rw[← h.1];exact e1
  have g1:(H++[x])[i]'(by simp;omega)=x:=by subst e1;simp
  have g2:(L++[cs])[i]'(by simp;omega)=cs:=by subst e2;simp
  rw[g1,g2]
  exact ⟨h1,h2,hr⟩
theorem rowsM_snoc:∀ (H:List RowH) (L:List (List CellM)) (x:RowH) (cs:List CellM),H.length=L.length→rowsM (H++[x]) (L++[cs])=rowsM H L++[⟨x.t,x.s,cs⟩]
 | [],[],x,cs,_=>rfl
 | h :: H,c :: L,x,cs,e=>by
  show _ :: rowsM (H++[x]) (L++[cs])=_ :: (rowsM H L++[_])
  rw[rowsM_snoc H L x cs (by simpa using e)]
section
variable {P:Program} {ops:Array Oper} {rest:List Oper} {o:Oper} {a:Act} {Q:Exit→Act→World→Prop}
theorem kr_append {W:World} (s x:Operand) (t e:TypeId) (v:Value) (xs:List RowH) (p:RowH) (base:Nat)
  (hgd:o.guard=none) (ho:o.op = .call { callee:=.builtin .append,args:=#[s,x],argTypes:=#[t,t] })
  (ht:P.underlying t=some (.slice e)) (hinfo:(P.info? e).map (fun i=>(i.zero,i.size,i.bytes))=some (some (.agg #[.int .i64 0,.int .i64 0,.slice none 0 0]),3,40))
  (hs:a.eval s=v) (hx:a.eval x = .slice (some ⟨W.heap.size,0,none⟩) 1 1)
  (HO:kr.R e W base (fun _=>True) v xs) (hbase:base≤W.heap.size) (hl:xs.length≤1099511627776)
  (h:∀ v1 w1,kr.R e w1 base (fun _=>True) v1 (xs++[p])→Below base W w1→W.grownBy w1 v.ownBlock→(v1.ownBlock=v.ownBlock∨∃ b,v1.ownBlock=some b∧W.heap.size≤b)→wpList P ops Q rest (a.put o.dst v1) w1) :
  wpList P ops Q (o :: rest) a (W.alloc (.cells #[.int .i64 p.t,.int .i64 p.s,.slice p.A p.n p.c] e)):=
 Kd.R_append kr (w0:=W) base hgd s x t e (.agg #[.int .i64 0,.int .i64 0,.slice none 0 0]) 40 ho ht hinfo rfl (by decide) (by decide) v xs p p.cells (fun _=>True) (fun _=>False) hs hx (kr_M p) (fun _ hk=>hk.elim) (fun _ _=>trivial)
  HO (Below.refl _ _) hbase (by omega) h
end
theorem RowsR.below {w w':World} {lo:Nat} {H:List RowH} {L:List (List CellM)} (h:RowsR w lo H L) (hb:Below w.heap.size w w'):RowsR w' lo H L:=⟨h.1,fun i h1 h2=>⟨(h.2 i h1 h2).1,(h.2 i h1 h2).2.1,Kd.R_below (h.2 i h1 h2).2.2 hb⟩⟩
theorem rowsM_lt:∀ (H:List RowH) (L:List (List CellM)) (k:Nat),k<H.length→k<L.length→k<(rowsM H L).length
 | h :: H,c :: L,0,_,_=>by show 0<(rowsM H L).length+1;omega
 | h :: H,c :: L,k+1,h1,h2=>by
  have:=rowsM_lt H L k (by simpa using h1) (by simpa using h2)
  show k+1<(rowsM H L).length+1
  omega
end Go.Proofs.YtpiobnfakmmpdaaGreat.Lib0
namespace Go.Proofs.YtpiobnfakmmpdaaGreatW.PrintWords
open Go.RowKit
section
variable {P:Program} {d:Nat} {xs ys:Array Value} {f:Field} {fs:List Field} {a b:Value} {r s:Bool} {w:World}
theorem eqf_last (hn:(f.name == "_")=false) (ha:(part f.type xs f.offset).run P w = .ok a w) (hb:(part f.type ys f.offset).run P w = .ok b w) (he:(Op.equalIn d f.type a b).run P w = .ok r w):(Op.eqFields d xs ys [f]).run P w = .ok r w:=by
 have hn':f.name ≠ "_":=by simpa using hn
 simp only[Op.eqFields,if_pos hn',Sem.run_bind,ha,hb,he,Result.andThen_ok]
 cases r<;>simp
theorem eqf_cons (hn:(f.name == "_")=false) (ha:(part f.type xs f.offset).run P w = .ok a w) (hb:(part f.type ys f.offset).run P w = .ok b w) (he:(Op.equalIn d f.type a b).run P w = .ok r w) (hr:(Op.eqFields d xs ys fs).run P w = .ok s w):(Op.eqFields d xs ys (f :: fs)).run P w = .ok (r && s) w:=by
 have hn':f.name ≠ "_":=by simpa using hn
 rw[Op.eqFields]
 simp only[if_pos hn',Sem.run_bind,ha,hb,he,Result.andThen_ok]
 cases r
 ·simp
 ·simpa using hr
theorem eqA_of {t:TypeId} {fs:Array Field} (hu:P.underlying t=some (.struct fs)) (hp:P.stoodInHeld t=false) (h:(Op.eqFields d xs ys fs.toList).run P w = .ok r w):(Op.equalIn (d+1) t (.agg xs) (.agg ys)).run P w = .ok r w:=by
 have hf:P.fieldsOf t=fs:=by simp[Program.fieldsOf,hu]
 rw[run_equalIn_struct (P:=P) w d t xs ys (by rw[hf];exact hu) hp,hf]
 exact h
end
end Go.Proofs.YtpiobnfakmmpdaaGreatW.PrintWords
namespace Go.Proofs.YtpiobnfakmmpdaaGreat.Lib0
open Go.RowKit Go.Proofs.YtpiobnfakmmpdaaGreatW.PrintWords Go.ChangeMaps
set_option maxRecDepth 100000 in
theorem keep_Num (col:ByteArray) (n:Int) (w:World) :
  Calls Tryz.prog 20 #[.string col,.int .i64 n] w fun e w'=>e = .returned (.agg #[.string col,.int .i64 1,.int .i64 n,.string ⟨#[]⟩])∧Below w.heap.size w w':=by
 have hh:=heap_alloc_new w (.cells #[.string col,.int .i64 1,.int .i64 n,.string ⟨#[]⟩] 37)
 have g0:=cell_of_heap (i:=0) hh rfl
 have g1:=cell_of_heap (i:=1) hh rfl
 have g2:=cell_of_heap (i:=2) hh rfl
 have g3:=cell_of_heap (i:=3) hh rfl
 have HB:=mk0 (below_alloc (Below.refl w.heap.size w) (.cells #[.string col,.int .i64 1,.int .i64 n,.string ⟨#[]⟩] 37))
 clear hh
 go_enter Tryz.func20,Tryz.ntmps20
 go_wp2
 refine bodyPost_ret (v:=.agg #[.string col,.int .i64 1,.int .i64 n,.string ⟨#[]⟩]) (by simp[results,Tryz.results20,go_sem,g0,g1,g2,g3]) rfl ?_
 exact ⟨rfl,HB.out⟩
set_option maxRecDepth 100000 in
theorem keep_Str (col s:ByteArray) (w:World) :
  Calls Tryz.prog 21 #[.string col,.string s] w fun e w'=>e = .returned (.agg #[.string col,.int .i64 2,.int .i64 0,.string s])∧Below w.heap.size w w':=by
 have hh:=heap_alloc_new w (.cells #[.string col,.int .i64 2,.int .i64 0,.string s] 37)
 have g0:=cell_of_heap (i:=0) hh rfl
 have g1:=cell_of_heap (i:=1) hh rfl
 have g2:=cell_of_heap (i:=2) hh rfl
 have g3:=cell_of_heap (i:=3) hh rfl
 have HB:=mk0 (below_alloc (Below.refl w.heap.size w) (.cells #[.string col,.int .i64 2,.int .i64 0,.string s] 37))
 clear hh
 go_enter Tryz.func21,Tryz.ntmps21
 go_wp2
 refine bodyPost_ret (v:=.agg #[.string col,.int .i64 2,.int .i64 0,.string s]) (by simp[results,Tryz.results21,go_sem,g0,g1,g2,g3]) rfl ?_
 exact ⟨rfl,HB.out⟩
set_option maxRecDepth 100000 in
theorem eqA_cell (d:Nat) (w:World) (x0 y0:ByteArray) (x1 y1:Int) (x2 y2:Int) (x3 y3:ByteArray) :
  (Op.equalIn (d+2) 37 (.agg #[.string x0,.int .i64 x1,.int .i64 x2,.string x3]) (.agg #[.string y0,.int .i64 y1,.int .i64 y2,.string y3])).run Tryz.prog w = .ok (x0.toList==y0.toList && (x1==y1 && (x2==y2 && (x3.toList==y3.toList)))) w:=by
 refine eqA_of Tryz.underlying37 (by kernel_rfl) ?_
 refine eqf_cons (by rfl) (by go_simp;rfl) (by go_simp;rfl) (by go_simp) ?_
 refine eqf_cons (by rfl) (by go_simp;rfl) (by go_simp;rfl) (by go_simp) ?_
 refine eqf_cons (by rfl) (by go_simp;rfl) (by go_simp;rfl) (by go_simp) ?_
 exact eqf_last (by rfl) (by go_simp;rfl) (by go_simp;rfl) (by go_simp)
attribute [local go_sem high] eqA_cell
def eqC (x y:CellM):Bool:=x.col.toList==y.col.toList && (x.kind==y.kind && (x.n==y.n && (x.s.toList==y.s.toList)))
def eqCs:List CellM→List CellM→Bool
 | [],[]=>true
 | x :: a,y :: b=>eqC x y && eqCs a b
 | _,_=>false
theorem eqCs_len:∀ {a b:List CellM},eqCs a b=true→a.length=b.length
 | [],[],_=>rfl
 | x :: a,y :: b,h=>by
  rw[eqCs,Bool.and_eq_true] at h
  rw[List.length_cons,List.length_cons,eqCs_len h.2]
 | [],_ :: _,h=>by cases h
 | _ :: _,[],h=>by cases h
theorem eqC_bool (x y:CellM):(!x.col.toList==y.col.toList || (!x.kind==y.kind || (!x.n==y.n || !x.s.toList==y.s.toList))) = !eqC x y:=by
 unfold eqC
 rw[Bool.not_and,Bool.not_and,Bool.not_and]
set_option maxHeartbeats 1600000 in
set_option maxRecDepth 100000 in
theorem keep_Cells (A B:Option Addr) (ca cb:Nat) (l l':List CellM) (w:World) (ha:kc.C w A l.length l) (hb:kc.C w B l'.length l') (hl:l.length≤1099511627776) (hl':l'.length≤1099511627776) :
  Calls Tryz.prog 83 #[.slice A l.length ca,.slice B l'.length cb] w fun e w'=>e = .returned (.bool (eqCs l l'))∧Below w.heap.size w w':=by
 have HA:=mk0 ha
 have HB:=mk0 hb
 have hli:(l.length:Int)≤1099511627776:=by omega
 have hli':(l'.length:Int)≤1099511627776:=by omega
 have HB0:=mk0 (Below.refl w.heap.size w)
 obtain ⟨R,hR⟩:∃ R,R=eqCs l l':=⟨_,rfl⟩
 rw[← hR]
 have HRR:=mk0 hR
 clear ha hb hR
 by_cases hn:l.length=l'.length
 ·have hnb:((l.length:Int)==l'.length)=true:=by rw[beq_iff_eq];omega
  have HN:=mk0 hn
  clear hn
  go_enter Tryz.func83,Tryz.ntmps83
  go_wp2_with fail
  go_loopw[5] (fun v5 wr=>∃ (k:Nat),k≤l.length∧v5 = .int .i64 k∧Aside0 (eqCs (l.drop k) (l'.drop k)=R)∧Aside0 (Below w.heap.size w wr)) (fun i _=>l.length-(intOf i).toNat)
  case atStart=>exact ⟨0,by omega,rfl,⟨HRR.out.symm⟩,HB0⟩
  case round=>
   clear HB0
   obtain ⟨k,hk,rfl,HE,HBW⟩:=hrel
   by_cases hlt:k<l.length
   ·have hlt2:(k:Int)<l.length:=by omega
    have hlt3:k<l'.length:=by have:=HN.out;omega
    have hlt4:(k:Int)<l'.length:=by omega
    obtain ⟨b,o,rfl,hx⟩:=kc_open (Kd.C_below HA.out HBW.out) (by omega)
    obtain ⟨b',o',rfl,hy⟩:=kc_open (Kd.C_below HB.out HBW.out) (by omega)
    obtain ⟨x0,x1,x2,x3⟩:=hx k hlt
    obtain ⟨y0,y1,y2,y3⟩:=hy k hlt3
    obtain ⟨x,hxx⟩:∃ x,x=l[k]:=⟨_,rfl⟩
    obtain ⟨y,hyy⟩:∃ y,y=l'[k]:=⟨_,rfl⟩
    rw[← hxx] at x0 x1 x2 x3
    rw[← hyy] at y0 y1 y2 y3
    have HE2:=mk0 (show (eqC x y && eqCs (l.drop (k+1)) (l'.drop (k+1)))=R by
     have:=HE.out
     rw[List.drop_eq_getElem_cons hlt,List.drop_eq_getElem_cons hlt3,eqCs,← hxx,← hyy] at this
     exact this)
    clear hx hy hxx hyy HE
    go_wp2_with fail
    go_region_held3 (fun w'=>w'.cell? ⟨b,o+k*4,none⟩=some (.string x.col)∧w'.cell? ⟨b,o+k*4+1,none⟩=some (.int .i64 x.kind)∧w'.cell? ⟨b,o+k*4+2,none⟩=some (.int .i64 x.n)∧w'.cell? ⟨b,o+k*4+3,none⟩=some (.string x.s)∧w'.cell? ⟨b',o'+k*4,none⟩=some (.string y.col)∧w'.cell? ⟨b',o'+k*4+1,none⟩=some (.int .i64 y.kind)∧w'.cell? ⟨b',o'+k*4+2,none⟩=some (.int .i64 y.n)∧w'.cell? ⟨b',o'+k*4+3,none⟩=some (.string y.s)) (go_keep) (first | (fail))
    rw[eqC_bool x y]
    have HB1:=mk0 (HBW.out.trans (below_drew _ _))
    clear x0 x1 x2 x3 y0 y1 y2 y3
    obtain ⟨q,hq⟩:∃ q,q=eqC x y:=⟨_,rfl⟩
    rw[← hq] at HE2 ⊢
    clear hq
    cases q
    ·have HE3:=mk0 (show R=false from HE2.out.symm)
     simp only[Bool.not_false]
     go_wp2
     go_ret
     exact ⟨by rw[HE3.out];rfl,HB1.out⟩
    ·have HE3:=mk0 (show eqCs (l.drop (k+1)) (l'.drop (k+1))=R by rw[← HE2.out];rfl)
     simp only[Bool.not_true]
     go_wp2
     go_roundw
     case rel=>exact ⟨k+1,by omega,by go_num,HE3,HB1⟩
     case measure=>simp[intOf];omega
   ·have hk2:k=l.length:=by omega
    subst hk2
    have HE3:=mk0 (show R=true by rw[← HE.out,List.drop_length,HN.out,List.drop_length];rfl)
    go_wp2
    go_ret
    exact ⟨by rw[HE3.out];rfl,HBW.out⟩
 ·have hnb:((l.length:Int)==l'.length)=false:=by rw[beq_eq_false_iff_ne];omega
  have HE3:=mk0 (show R=false by
   rw[HRR.out]
   cases hh:eqCs l l'
   ·rfl
   ·exact absurd (eqCs_len hh) hn)
  go_enter Tryz.func83,Tryz.ntmps83
  go_wp2
  go_ret
  exact ⟨by rw[HE3.out];rfl,HB0.out⟩
end Go.Proofs.YtpiobnfakmmpdaaGreat.Lib0

import Derived.BigRegion
import Derived.Test.YtpiobnfakmmpdaaGreatP31
set_option linter.unusedVariables false
set_option linter.unusedSimpArgs false
namespace Go.Proofs.YtpiobnfakmmpdaaGreat.Lib0
open Go.RowKit Go.Proofs.YtpiobnfakmmpdaaGreatW.PrintWords Go.ChangeMaps
structure PartM where
 name:ByteArray
 cp:Nat
 l:List UInt8
 form:Nat
 cs:List CellM
def PartM.cells (p:PartM):List Value:=[.string p.name,.pointer (some ⟨p.cp,0,none⟩)]
def kp:Kd PartM:=Kd.iso (Kd.pair Kd.string (Kd.scalar (fun c:Nat=>Value.pointer (some ⟨c,0,none⟩)) (fun _=>rfl))) (fun p=>(p.name,p.cp))
theorem kp_M {w:World} {base:Nat} {ok:Nat→Prop} (p:PartM):kp.M w base ok p p.cells:=⟨[.string p.name],[.pointer (some ⟨p.cp,0,none⟩)],rfl,rfl,rfl⟩
theorem kp_K {w:World} {p:PartM} {cs:List Value} (h:kp.K w p cs):cs=p.cells:=by
 obtain ⟨a,b,rfl,rfl,rfl⟩:=h
 rfl
theorem kp_open {w:World} {A:Option Addr} {n:Nat} {l:List PartM} (h:kp.C w A n l) (hn:0<l.length) :
  ∃ b o,A=some ⟨b,o,none⟩∧∀ k (hk:k<l.length),w.cell? ⟨b,o+k*2,none⟩=some (.string l[k].name)∧w.cell? ⟨b,o+k*2+1,none⟩=some (.pointer (some ⟨l[k].cp,0,none⟩)):=by
 obtain ⟨ad,rfl,hc⟩:=h.2.2 (by have:=h.1;omega)
 have hx:∀ k (hk:k<l.length) i u,l[k].cells[i]?=some u→w.cell? (ad.add (k*2+i))=some u:=fun k hk i u hu=>by
  obtain ⟨c,hl,hk',hcell⟩:=hc k _ (List.getElem?_eq_getElem hk)
  have hk2:=kp_K hk'
  subst hk2
  exact hcell i u hu
 have hs:ad.spot=none:=by
  have:=hx 0 hn 0 _ rfl
  have e0:ad.add (0*2+0)=ad:=by simp[Addr.add]
  rw[e0] at this
  exact cell_plain this
 obtain ⟨b,o,sp⟩:=ad
 simp only at hs
 subst hs
 have e1:∀ k,(⟨b,o,none⟩:Addr).add k=⟨b,o+k,none⟩:=fun k=>by unfold Addr.add;split<;>simp_all
 refine ⟨b,o,rfl,fun k hk=>⟨?_,?_⟩⟩
 ·have:=hx k hk 0 _ rfl
  rwa [e1,Nat.add_zero] at this
 ·have:=hx k hk 1 _ rfl
  rwa [e1,← Nat.add_assoc] at this
theorem info_part:(Tryz.prog.info? 136).map (fun i=>(i.zero,i.size,i.bytes))=some (some (.agg #[.string ⟨#[]⟩,.pointer none]),2,24):=by kernel_rfl
section
variable {P:Program} {ops:Array Oper} {rest:List Oper} {o:Oper} {a:Act} {Q:Exit→Act→World→Prop}
theorem kp_append {W:World} (s x:Operand) (t e:TypeId) (v:Value) (xs:List PartM) (p:PartM) (base:Nat)
  (hgd:o.guard=none) (ho:o.op = .call { callee:=.builtin .append,args:=#[s,x],argTypes:=#[t,t] })
  (ht:P.underlying t=some (.slice e)) (hinfo:(P.info? e).map (fun i=>(i.zero,i.size,i.bytes))=some (some (.agg #[.string ⟨#[]⟩,.pointer none]),2,24))
  (hs:a.eval s=v) (hx:a.eval x = .slice (some ⟨W.heap.size,0,none⟩) 1 1)
  (HO:kp.R e W base (fun _=>True) v xs) (hbase:base≤W.heap.size) (hl:xs.length≤1099511627776)
  (h:∀ v1 w1,kp.R e w1 base (fun _=>True) v1 (xs++[p])→Below base W w1→W.grownBy w1 v.ownBlock→(v1.ownBlock=v.ownBlock∨∃ b,v1.ownBlock=some b∧W.heap.size≤b)→wpList P ops Q rest (a.put o.dst v1) w1) :
  wpList P ops Q (o :: rest) a (W.alloc (.cells #[.string p.name,.pointer (some ⟨p.cp,0,none⟩)] e)):=
 Kd.R_append kp (w0:=W) base hgd s x t e (.agg #[.string ⟨#[]⟩,.pointer none]) 24 ho ht hinfo rfl (by decide) (by decide) v xs p p.cells (fun _=>True) (fun _=>False) hs hx (kp_M p) (fun _ hk=>hk.elim) (fun _ _=>trivial)
  HO (Below.refl _ _) hbase (by omega) h
end
theorem ChkAt.ckraw {w:World} {cp:Nat} {l:List UInt8} {form:Nat} {cs:List CellM} (h:ChkAt w cp l form cs) :
  ∃ (Ab:Option Addr) (cb:Nat) (A3 A4 A8:Option Addr) (n3 n4 n8 c3 c4 c8:Nat) (on:Int),CkRaw w cp (ckCells Ab cb l form cs.length (.slice A3 n3 c3) (.slice A4 n4 c4) on 0 (.slice A8 n8 c8)):=by
 obtain ⟨Ab,cb,Ad,nd,cd,At,nt,ct,on,v8,hh,_,_,h3⟩:=h
 rcases h3 with ⟨rfl,rfl⟩ | ⟨rfl,Ac,cc,rfl,_,_⟩
 ·exact ⟨Ab,cb,Ad,At,none,nd,nt,0,cd,ct,0,0,hh⟩
 ·exact ⟨Ab,cb,Ad,At,Ac,nd,nt,cs.length,cd,ct,cc,1,hh⟩
theorem ChkAt.other {w w':World} {cp q:Nat} {l l':List UInt8} {form form':Nat} {cs cs':List CellM} (h:ChkAt w cp l form cs) (hq:ChkAt w q l' form' cs') (hne:cp≠q) (hk:Keep1 q w w'):ChkAt w' cp l form cs:=by
 obtain ⟨Bb,cb',B3,B4,B8,m3,m4,m8,d3,d4,d8,on',hraw⟩:=hq.ckraw
 have hlt:=h.lt
 obtain ⟨Ab,cb,Ad,nd,cd,At,nt,ct,on,v8,hh,h1,h2,h3⟩:=h
 refine ⟨Ab,cb,Ad,nd,cd,At,nt,ct,on,v8,(hk.block cp hlt hne).trans hh,h1,C_keep1 sc_Kw h2 (hraw.off_u8 h2) hk,?_⟩
 rcases h3 with h3 | ⟨h3,Ac,cc,h4,h5,h6⟩
 ·exact .inl h3
 ·exact .inr ⟨h3,Ac,cc,h4,h5,C_keep1 kc_Kw h6 (hraw.off_kc h6) hk⟩
theorem ChkAt.off {w w':World} {cp q:Nat} {l:List UInt8} {form:Nat} {cs:List CellM} (h:ChkAt w cp l form cs) (hk:Keep1 q w w') (hne:cp≠q) (h8:∀ o x,w.cell? ⟨q,o,none⟩≠some (.int .u8 x)) (hc:∀ o s k,w.cell? ⟨q,o,none⟩=some (.string s)→w.cell? ⟨q,o+1,none⟩≠some (.int .i64 k)):ChkAt w' cp l form cs:=by
 have hlt:=h.lt
 obtain ⟨Ab,cb,Ad,nd,cd,At,nt,ct,on,v8,hh,h1,h2,h3⟩:=h
 have k8:∀ ad,Ab=some ad→0<l.length→ad.block≠q∧ad.block<w.heap.size:=by
  rintro ad rfl hn
  obtain ⟨b,o,e,hx⟩:=sc_open h2 hn
  cases e
  have h0:=hx 0 hn
  refine ⟨?_,World.block_lt_of_cell? w _ h0⟩
  rintro rfl
  exact h8 _ _ h0
 refine ⟨Ab,cb,Ad,nd,cd,At,nt,ct,on,v8,(hk.block cp hlt hne).trans hh,h1,C_keep1 sc_Kw h2 k8 hk,?_⟩
 rcases h3 with h3 | ⟨h3,Ac,cc,h4,h5,h6⟩
 ·exact .inl h3
 ·refine .inr ⟨h3,Ac,cc,h4,h5,C_keep1 kc_Kw h6 ?_ hk⟩
  rintro ad rfl hn
  obtain ⟨b,o,e,hx⟩:=kc_open h6 hn
  cases e
  have h0:=hx 0 hn
  refine ⟨?_,World.block_lt_of_cell? w _ h0.1⟩
  rintro rfl
  exact hc _ _ _ h0.1 h0.2.1
theorem C_same {α:Type} {d:Kd α} (hK:∀ w w' x cs,d.K w x cs→d.K w' x cs) {w w':World} {A:Option Addr} {n:Nat} {l:List α} (h:d.C w A n l) (hb:∀ ad,A=some ad→0<n→w'.heap[ad.block]?=w.heap[ad.block]?):d.C w' A n l:=by
 refine ⟨h.1,h.2.1,fun hn=>?_⟩
 obtain ⟨ad,e,hc⟩:=h.2.2 hn
 refine ⟨ad,e,fun j p hp=>?_⟩
 obtain ⟨cs,hl,hkk,hcell⟩:=hc j p hp
 refine ⟨cs,hl,hK _ _ _ _ hkk,fun q v hv=>?_⟩
 rw[← hcell q v hv]
 exact World.cell?_of_block (by rw[add_block];exact hb ad e hn)
theorem SubAt.self (w:World) (cp:Nat):SubAt w cp cp:=.inl rfl
theorem ChkAt.stay {w w':World} {cp:Nat} {l:List UInt8} {form:Nat} {cs:List CellM} (h:ChkAt w cp l form cs) (hs:∀ q,SubAt w cp q→q<w.heap.size→w'.heap[q]?=w.heap[q]?):ChkAt w' cp l form cs:=by
 have hlt:=h.lt
 obtain ⟨Ab,cb,Ad,nd,cd,At,nt,ct,on,v8,hh,h1,h2,h3⟩:=h
 refine ⟨Ab,cb,Ad,nd,cd,At,nt,ct,on,v8,(hs cp (.inl rfl) hlt).trans hh,h1,C_same sc_Kw h2 (fun ad e hn=>hs ad.block (.inr ⟨ad,_,_,hn,.inl ((cell_of_heap (i:=0) hh rfl).trans (by rw[e];rfl)),rfl⟩) (C_lt (by decide) h2 ad e hn)),?_⟩
 rcases h3 with h3 | ⟨h3,Ac,cc,h4,h5,h6⟩
 ·exact .inl h3
 ·exact .inr ⟨h3,Ac,cc,h4,h5,C_same kc_Kw h6 (fun ad e hn=>hs ad.block (.inr ⟨ad,_,_,hn,.inr ((cell_of_heap (i:=8) hh rfl).trans (by rw[← e,← h4];rfl)),rfl⟩) (C_lt (by decide) h6 ad e hn))⟩
theorem SubAt.lt {w:World} {cp q:Nat} {l:List UInt8} {form:Nat} {cs:List CellM} (h:ChkAt w cp l form cs) (hs:SubAt w cp q):q<w.heap.size:=by
 have hlt:=h.lt
 obtain ⟨Ab,cb,Ad,nd,cd,At,nt,ct,on,v8,hh,h1,h2,h3⟩:=h
 rcases hs.raw hh with rfl | ⟨ad,n,c,h0,h4 | h4,rfl⟩
 ·exact hlt
 ·injection h4 with h5 h6
  exact C_lt (by decide) h2 ad h5 (by omega)
 ·rcases h3 with ⟨_,h7⟩ | ⟨_,Ac,cc,h7,h8,h9⟩
  ·rw[h7] at h4
   cases h4
  ·rw[h7] at h4
   injection h4 with h5 h6
   exact C_lt (by decide) h9 ad h5 (by omega)
def Free (w:World) (ps:List PartM) (v:Value):Prop:=∀ p ∈ ps,∀ q,v.ownBlock=some q→¬ SubAt w p.cp q
structure ChksAt (w:World) (base:Nat) (ps:List PartM):Prop where
 at_:∀ p ∈ ps,ChkAt w p.cp p.l p.form p.cs
 nodup:(ps.map (·.cp)).Nodup
 old:∀ p ∈ ps,base≤p.cp
 fit:∀ p ∈ ps,p.cs=(readR p.l).cells∧p.l.length≤1073741824
theorem ChksAt.below {w w':World} {base:Nat} {ps:List PartM} (h:ChksAt w base ps) (hb:Below w.heap.size w w'):ChksAt w' base ps:=⟨fun p hp=>(h.at_ p hp).below hb,h.nodup,h.old,h.fit⟩
theorem nodup_cp {ps:List PartM} (h:(ps.map (·.cp)).Nodup) {p q:PartM} (hp:p ∈ ps) (hq:q ∈ ps) (he:p.cp=q.cp):p=q:=by
 induction ps with
 | nil=>simp at hp
 | cons x t ih=>
  rw[List.map_cons,List.nodup_cons] at h
  rcases List.mem_cons.1 hp with hp1 | hp1
  ·rcases List.mem_cons.1 hq with hq1 | hq1
   ·rw[hp1,hq1]
   ·exact absurd (by rw[← hp1,he];exact List.mem_map.2 ⟨q,hq1,rfl⟩) h.1
  ·rcases List.mem_cons.1 hq with hq1 | hq1
   ·exact absurd (by rw[← hq1,← he];exact List.mem_map.2 ⟨p,hp1,rfl⟩) h.1
   ·exact ih h.2 hp1 hq1
theorem ChksAt.grown {w w1:World} {base:Nat} {ps:List PartM} (h:ChksAt w base ps) {v:Value} (hg:w.grownBy w1 v.ownBlock) (hf:Free w ps v):ChksAt w1 base ps:=
 ⟨fun p hp=>(h.at_ p hp).stay (fun q hs hq=>hg.block q hq (fun e=>hf p hp q e.symm hs)),h.nodup,h.old,h.fit⟩
theorem Free.below {w w':World} {base:Nat} {ps:List PartM} {v:Value} (h:Free w ps v) (hk:ChksAt w base ps) (hb:Below w.heap.size w w'):Free w' ps v:=
 fun p hp q hq hs=>h p hp q hq (hs.same (hb.block _ (hk.at_ p hp).lt))
theorem Free.grown {w w1:World} {base:Nat} {ps:List PartM} {v v1 u:Value} (h:Free w ps u) (hk:ChksAt w base ps) (hf:Free w ps v) (hg:w.grownBy w1 v.ownBlock):Free w1 ps u:=
 fun p hp q hq hs=>h p hp q hq (hs.same (hg.block _ (hk.at_ p hp).lt (fun e=>hf p hp _ e.symm (SubAt.self w p.cp))))
theorem Free.next {w w1:World} {base:Nat} {ps:List PartM} {v v1:Value} (hk:ChksAt w base ps) (hf:Free w ps v) (hg:w.grownBy w1 v.ownBlock) (hat:v1.ownBlock=v.ownBlock∨∃ b,v1.ownBlock=some b∧w.heap.size≤b):Free w1 ps v1:=by
 intro p hp q hq hs
 have hs0:=hs.same (hg.block _ (hk.at_ p hp).lt (fun e=>hf p hp _ e.symm (SubAt.self w p.cp)))
 rcases hat with e | ⟨b,e,hb⟩
 ·exact hf p hp q (e ▸ hq) hs0
 ·rw[e] at hq
  injection hq with hq
  subst hq
  exact absurd (hs0.lt (hk.at_ p hp)) (by omega)
theorem Free.none (w:World) (ps:List PartM) (n c:Nat):Free w ps (.slice none n c):=fun p hp q hq=>by cases hq
theorem Free.snoc {w:World} {ps:List PartM} {q:PartM} {v:Value} (h:Free w ps v) (hq:∀ x,v.ownBlock=some x→¬ SubAt w q.cp x):Free w (ps++[q]) v:=by
 intro p hp
 rcases List.mem_append.1 hp with hp | hp
 ·exact h p hp
 ·rw[List.mem_singleton] at hp;subst hp;exact hq
theorem Free.turn {w w':World} {base:Nat} {ps:List PartM} {v:Value} (h:Free w ps v) (hk:ChksAt w base ps) {q:PartM} (hq:q ∈ ps) (hk1:Keep1 q.cp w w') (hs:∀ x,SubAt w' q.cp x→SubAt w q.cp x∨w.heap.size≤x) (hlt:∀ x,v.ownBlock=some x→x<w.heap.size):Free w' ps v:=by
 intro p hp x hx hsx
 by_cases he:p.cp=q.cp
 ·rw[he] at hsx
  rcases hs x hsx with h1 | h1
  ·exact h q hq x hx h1
  ·exact absurd (hlt x hx) (by omega)
 ·exact h p hp x hx (hsx.same (hk1.block _ (hk.at_ p hp).lt he))
theorem ChksAt.turn {w w':World} {base:Nat} {ps:List PartM} (h:ChksAt w base ps) {q:PartM} (hq:q ∈ ps) (hk:Keep1 q.cp w w') (hn:ChkAt w' q.cp q.l q.form q.cs):ChksAt w' base ps:=
 ⟨fun p hp=>by
  by_cases he:p.cp=q.cp
  ·have:=nodup_cp h.nodup hp hq he
   subst this
   exact hn
  ·exact (h.at_ p hp).other (h.at_ q hq) he hk,h.nodup,h.old,h.fit⟩
theorem ChksAt.nil (w:World) (base:Nat):ChksAt w base []:=⟨fun _ h=>by simp at h,by simp,fun _ h=>by simp at h,fun _ h=>by simp at h⟩
theorem ChksAt.snoc {w:World} {base:Nat} {ps:List PartM} (h:ChksAt w base ps) {q:PartM} (hn:ChkAt w q.cp q.l q.form q.cs) (hb:base≤q.cp) (hf:q.cs=(readR q.l).cells∧q.l.length≤1073741824) (hlt:∀ p ∈ ps,p.cp<q.cp):ChksAt w base (ps++[q]):=by
 refine ⟨fun p hp=>?_,?_,fun p hp=>?_,fun p hp=>?_⟩
 ·rcases List.mem_append.1 hp with hp | hp
  ·exact h.at_ p hp
  ·rw[List.mem_singleton] at hp;subst hp;exact hn
 ·rw[List.map_append,List.nodup_append]
  refine ⟨h.nodup,by simp,fun a ha b hb'=>?_⟩
  obtain ⟨p,hp,rfl⟩:=List.mem_map.1 ha
  simp only[List.map_cons,List.map_nil,List.mem_singleton] at hb'
  subst hb'
  exact Nat.ne_of_lt (hlt p hp)
 ·rcases List.mem_append.1 hp with hp | hp
  ·exact h.old p hp
  ·rw[List.mem_singleton] at hp;subst hp;exact hb
 ·rcases List.mem_append.1 hp with hp | hp
  ·exact h.fit p hp
  ·rw[List.mem_singleton] at hp;subst hp;exact hf
theorem openR_fit {l:List UInt8} {form:Nat} {cs:List CellM} (h:openR l=some (form,cs)):cs=(readR l).cells:=by
 unfold openR at h
 split at h
 ·split at h
  ·cases h
  ·injection h with h
   exact (congrArg Prod.snd h).symm
 ·cases h
structure PartQ where
 name:ByteArray
 l:List UInt8
 form:Nat
 cs:List CellM
def PartM.q (p:PartM):PartQ:=⟨p.name,p.l,p.form,p.cs⟩
def partsG (l:List UInt8):Nat→Int→List PartQ→Option (List PartQ × Int)
 | 0,a,acc=>some (acc,a)
 | m+1,a,acc=>
  if (getT l a 12).2.2≠0 then none else
  if (getT l (getT l a 12).2.1 65536).2.2≠0 then none else
  match openR (getT l (getT l a 12).2.1 65536).1 with
  | none=>none
  | some (form,cs)=>partsG l m (getT l (getT l a 12).2.1 65536).2.1 (acc++[⟨str (getT l a 12).1,(getT l (getT l a 12).2.1 65536).1,form,cs⟩])
section
attribute [local irreducible] getT openR
theorem partsG_succ (l:List UInt8) (m:Nat) (a:Int) (acc:List PartQ):partsG l (m+1) a acc=(if (getT l a 12).2.2≠0 then none else
  if (getT l (getT l a 12).2.1 65536).2.2≠0 then none else
  match openR (getT l (getT l a 12).2.1 65536).1 with
  | none=>none
  | some (form,cs)=>partsG l m (getT l (getT l a 12).2.1 65536).2.1 (acc++[⟨str (getT l a 12).1,(getT l (getT l a 12).2.1 65536).1,form,cs⟩])):=rfl
theorem partsG_zero (l:List UInt8) (a:Int) (acc:List PartQ):partsG l 0 a acc=some (acc,a):=rfl
end
def partsR (l:List UInt8) (a:Int):Option (List PartQ × Int):=
 if (getA l a).2.2≠0∨12<small (getA l a).1 then none else partsG l (small (getA l a).1) (endA a (getA l a)) []
theorem getT_len (l:List UInt8) (a:Int) (m:Nat) (ha:l.length≤1099511627776):(getT l a m).1.length≤m:=by
 unfold getT
 split
 ·simp
 ·split
  ·simp
  ·split
   ·simp
   ·rename_i h1 h2 h3
    have:=endA_ok (l:=l) (a:=a) (by simpa using h1)
    dsimp only
    rw[List.length_drop,List.length_take]
    omega
def PartsS (w:World) (l:List UInt8) (a:Int) (e:Ending) (w':World):Prop:=
 (partsR l a=none∧e = .returned (.tuple #[.slice none 0 0,.bool false])∧Below w.heap.size w w')∨
 (∃ ps q v,partsR l a=some (ps.map PartM.q,q)∧e = .returned (.tuple #[v,.bool (q==(l.length:Int))])∧kp.R 136 w' w.heap.size (fun _=>True) v ps∧ChksAt w' w.heap.size ps∧Below w.heap.size w w')
end Go.Proofs.YtpiobnfakmmpdaaGreat.Lib0
namespace Go.Proofs.YtpiobnfakmmpdaaGreat.Lib0
open Go.RowKit Go.Proofs.YtpiobnfakmmpdaaGreatW.PrintWords Go.ChangeMaps
theorem chunk_Open_text (w:World) (s:List UInt8) (c:Nat) (hc:c=grownCap w (str s).size 0 5) (hl:s.length≤1073741824) :
  Calls Tryz.prog 112 #[.slice (some ⟨w.heap.size,0,none⟩) (str s).size c] (Lib.bytesWorld w 5 (str s)) (fun e w'=>OpenS (Lib.bytesWorld w 5 (str s)) s e w'):=by
 have h:=u8_C_bytes w 5 (str s) (by rw[str_size];omega)
 rw[byt_str] at h
 rw[str_size] at hc ⊢
 exact chunk_Open _ c s _ h (by rw[hc];exact grownCap_ge _ _ _ _) hl
set_option maxHeartbeats 3200000 in
set_option maxRecDepth 100000 in
theorem group_parts (A:Option Addr) (c:Nat) (l:List UInt8) (a:Int) (w:World) (h:u8.C w A l.length l) (hc:l.length≤c) (hl:l.length≤1073741824) :
  Calls Tryz.prog 59 #[.slice A l.length c,.int .i64 a] w (PartsS w l a):=by
 have HC:=mk0 h
 have HCC:=mk0 hc
 have HL:=mk0 hl
 have HSM:=mk0 (v_Small A c l a w h hc (by omega))
 have HR:Aside0 (partsR l a=if (getA l a).2.2≠0∨12<small (getA l a).1 then none else partsG l (small (getA l a).1) (endA a (getA l a)) []):=⟨rfl⟩
 have HB0:=mk0 (Below.refl w.heap.size w)
 generalize (getA l a).2.2=gw at *
 generalize small (getA l a).1=n at *
 generalize endA a (getA l a)=a1 at *
 clear h hc hl
 go_enter Tryz.func59,Tryz.ntmps59
 go_wp2_with fail
 (with_reducible refine HSM.out.mono ?_)
 rintro e w' ⟨rfl,rfl⟩
 by_cases hgw:gw=0
 ·subst hgw
  by_cases hn:12<n
  ·have d1:decide ((12:Int)<n)=true:=decide_eq_true (by omega)
   have HR2:=mk0 (show partsR l a=none by rw[HR.out,if_pos (.inr hn)])
   go_wp2
   go_ret2
   exact .inl ⟨HR2.out,rfl,HB0.out⟩
  ·have d1:decide ((12:Int)<n)=false:=decide_eq_false (by omega)
   have HR2:=mk0 (show partsG l n a1 []=partsR l a by rw[HR.out,if_neg (by rintro (h | h);exact h rfl;exact hn h)])
   clear HR HSM
   go_wp2_with fail
   have hn12:n≤12:=by omega
   go_loopw[1,8,25] (fun v1 v8 v25 wr=>∃ (k:Nat) (ps:List PartM) (aa:Int),k≤n∧v1 = .int .i64 aa∧v25 = .int .i64 k∧Aside0 (ps.length=k)∧Aside0 (partsG l (n-k) aa (ps.map PartM.q)=partsR l a)∧Aside0 (kp.R 136 wr w.heap.size (fun _=>True) v8 ps)∧Aside0 (ChksAt wr w.heap.size ps∧Free wr ps v8)∧Aside0 (Below w.heap.size w wr)) (fun _ _ i _=>n-(intOf i).toNat)
   case atStart=>exact ⟨0,[],a1,by omega,rfl,rfl,⟨rfl⟩,HR2,⟨Kd.R_nil _ _ _ _ _⟩,⟨⟨ChksAt.nil _ _,Free.none _ _ _ _⟩⟩,HB0⟩
   case round=>
    clear HR2 HB0
    obtain ⟨k,ps,aa,hk,rfl,rfl,HLN,HE,HR,HKF,HB⟩:=hrel
    have HK:=mk0 HKF.out.1
    have HF:=mk0 HKF.out.2
    clear HKF
    obtain ⟨A8,c8,hv8⟩:=Kd.R_slice HR.out
    subst hv8
    by_cases hlt:k<n
    ·have hlt2:(k:Int)<n:=by omega
     obtain ⟨m,hm⟩:∃ m,n-k=m+1:=⟨n-k-1,by omega⟩
     have HM:=mk0 (show m=n-(k+1) by omega)
     rw[hm,partsG_succ] at HE
     clear hm
     have HT1:=mk0 (fun W hb=>v_GetText A c l aa 12 W (Kd.C_below HC.out hb) HCC.out (by have:=HL.out;omega) (by omega))
     have HT1:=mk0 (show ∀ W,Below w.heap.size w W→Calls Tryz.prog 111 #[.slice A l.length c,.int .i64 aa,.int .i64 12] W (fun e w'=>e = .returned (.tuple #[.string (str (getT l aa 12).1),.int .i64 (getT l aa 12).2.1,.int .i64 (getT l aa 12).2.2])∧W=w') from HT1.out)
     obtain ⟨s1,hs1⟩:∃ x,x=(getT l aa 12).1:=⟨_,rfl⟩
     obtain ⟨a2,ha2⟩:∃ x,x=(getT l aa 12).2.1:=⟨_,rfl⟩
     obtain ⟨w2,hw2'⟩:∃ x,x=(getT l aa 12).2.2:=⟨_,rfl⟩
     rw[← hs1,← ha2,← hw2'] at HT1
     rw[← ha2,← hw2',← hs1] at HE
     clear hs1 ha2 hw2'
     go_wp2_with fail
     (with_reducible refine (HT1.out _ (HB.out.trans ((below_alloc (Below.refl wr.heap.size wr) (.cells #[.string ⟨#[]⟩,.pointer none] 136)).mono HB.out.size))).mono ?_)
     rintro e w' ⟨rfl,rfl⟩
     clear HT1
     by_cases hw2:w2=0
     ·subst hw2
      rw[if_neg (by simp)] at HE
      have HT2:=mk0 (fun W hb=>v_GetText A c l a2 65536 W (Kd.C_below HC.out hb) HCC.out (by have:=HL.out;omega) (by omega))
      have HT2:=mk0 (show ∀ W,Below w.heap.size w W→Calls Tryz.prog 111 #[.slice A l.length c,.int .i64 a2,.int .i64 65536] W (fun e w'=>e = .returned (.tuple #[.string (str (getT l a2 65536).1),.int .i64 (getT l a2 65536).2.1,.int .i64 (getT l a2 65536).2.2])∧W=w') from HT2.out)
      have HSL:=mk0 (getT_len l a2 65536 (by have:=HL.out;omega))
      obtain ⟨s3,hs3⟩:∃ x,x=(getT l a2 65536).1:=⟨_,rfl⟩
      obtain ⟨a3,ha3⟩:∃ x,x=(getT l a2 65536).2.1:=⟨_,rfl⟩
      obtain ⟨w3,hw3'⟩:∃ x,x=(getT l a2 65536).2.2:=⟨_,rfl⟩
      rw[← hs3,← ha3,← hw3'] at HT2
      rw[← ha3,← hw3',← hs3] at HE
      rw[← hs3] at HSL
      clear hs3 ha3 hw3'
      go_wp2_with fail
      obtain ⟨W1,hW1⟩:∃ W,W=wr.alloc (.cells #[.string (str s1),.pointer none] 136):=⟨_,rfl⟩
      have hx1:=heap_alloc_new wr (.cells #[.string (str s1),.pointer none] 136)
      have hb1:=below_alloc (Below.refl wr.heap.size wr) (.cells #[.string (str s1),.pointer none] 136)
      rw[← hW1] at hx1 hb1 ⊢
      have HX1:=mk0 hx1
      have HB1:=mk0 hb1
      clear hW1 hx1 hb1
      (with_reducible refine (HT2.out _ (HB.out.trans (HB1.out.mono HB.out.size))).mono ?_)
      rintro e w' ⟨rfl,rfl⟩
      clear HT2
      by_cases hw3:w3=0
      ·subst hw3
       rw[if_neg (by simp)] at HE
       have hcv:=fun W=>Lib.run_convert_string_bytes (P:=Tryz.prog) (src:=9) (dst:=22) (e:=5) W (str s3) Tryz.underlying9 Tryz.underlying22 Tryz.underlying5
       have HOP:=mk0 (chunk_Open_text W1 s3 _ rfl (by have:=HSL.out;omega))
       go_wp2_with fail
       have HBY:=mk0 (below_bytes W1 5 (str s3))
       generalize grownCap W1 (str s3).size 0 5=cg at *
       generalize Lib.bytesWorld W1 5 (str s3)=W2 at *
       clear hcv
       (with_reducible refine HOP.out.mono ?_)
       rintro e w5 hop
       have hb5:Below W1.heap.size W1 w5:=by
        rcases hop with ⟨_,_,hb⟩ | ⟨_,_,_,_,_,_,_,hb,_⟩
        ·exact HBY.out.trans (hb.mono HBY.out.size)
        ·exact HBY.out.trans (hb.mono HBY.out.size)
       have hxl:wr.heap.size<W1.heap.size:=(Array.getElem?_eq_some_iff.1 HX1.out).1
       have hx5:=(hb5.block wr.heap.size hxl).trans HX1.out
       have x0:=cell_of_heap (i:=0) hx5 rfl
       have x1:=cell_of_heap (i:=1) hx5 rfl
       have xf:=frozen_of_heap (i:=1) hx5
       have HX5:=mk0 hx5
       have HB5:=mk0 (HB1.out.trans (hb5.mono HB1.out.size))
       clear hb5 hx5
       rcases hop with ⟨ho,rfl,_⟩ | ⟨form,cs,cp,ho,rfl,hcp,hck,_,hsb⟩
       ·rw[ho] at HE
        go_wp2
        go_ret2
        exact .inl ⟨HE.out.symm,rfl,(HB.out.trans (HB5.out.mono HB.out.size)).setCell (p:=⟨wr.heap.size,1,none⟩) HB.out.size _⟩
       ·rw[ho] at HE
        dsimp only at HE
        have hxp:cp≠wr.heap.size:=by have:=HBY.out.size;omega
        have HCK:=mk0 (hck.off ((Keep1.refl wr.heap.size w5).set 1 (.pointer (some ⟨cp,0,none⟩))) hxp (fun o x=>by
         unfold World.cell?
         simp only[HX5.out]
         rcases o with _ | _ | o<;>simp) (fun o s k=>by
         unfold World.cell?
         simp only[HX5.out]
         rcases o with _ | _ | o<;>simp))
        have HB6:=mk0 (HB5.out.setCell (p:=⟨wr.heap.size,1,none⟩) (Nat.le_refl _) (.pointer (some ⟨cp,0,none⟩)))
        have HSZ6:=mk0 (show (w5.setCell ⟨wr.heap.size,1,none⟩ (.pointer (some ⟨cp,0,none⟩))).heap.size=w5.heap.size by simp[World.setCell])
        have HCP:=mk0 (show wr.heap.size≤cp by have:=HBY.out.size;omega)
        have HR6:=mk0 (Kd.R_below HR.out HB6.out)
        have HK6:=mk0 ((HK.out.below HB6.out).snoc (q:=⟨str s1,cp,s3,form,cs⟩) HCK.out (Nat.le_trans HB.out.size HCP.out) ⟨openR_fit ho,by have:=HSL.out;show s3.length≤_;omega⟩ (fun p hp=>Nat.lt_of_lt_of_le (HK.out.at_ p hp).lt HCP.out))
        have HB7:=mk0 (HB.out.trans (HB6.out.mono HB.out.size))
        have HF6:=mk0 ((HF.out.below HK.out HB6.out).snoc (q:=⟨str s1,cp,s3,form,cs⟩) (fun x hx hs=>by
         have h1:=hsb x (hs.same (w:=w5) (Below.heap_setCell _ _ _ _ hxp))
         have h2:=Kd.R_lt HR.out x hx
         have h3:=HB1.out.size
         have h4:=HBY.out.size
         omega))
        have HLP:=mk0 (show ps.length≤1099511627776 by have:=HLN.out;omega)
        clear hcp hck ho hsb HCK HCP HSL HT1 HT2 HOP HBY HX1 HB1 HB5 HB6 HR HK HB HF
        go_wp2_with (at_builtin;go_loud (refine kp_append (W:=w5.setCell ⟨wr.heap.size,1,none⟩ (.pointer (some ⟨cp,0,none⟩))) (.tmp 55) (.tmp 57) 127 136 (.slice A8 ps.length c8) ps ⟨str s1,cp,s3,form,cs⟩ w.heap.size rfl rfl Tryz.underlying127 info_part rfl (by rw[HSZ6.out];rfl) HR6.out HB7.out.size HLP.out ?_))
        intro v1 w7 hr7 hb7 hg7 hat7
        have HR7:=mk0 hr7
        have HK7:=mk0 (And.intro (HK6.out.grown hg7 HF6.out) (Free.next HK6.out HF6.out hg7 (by rw[HSZ6.out];exact hat7)))
        have HB8:=mk0 (HB7.out.trans hb7)
        have HL7:=mk0 (show (ps++[(⟨str s1,cp,s3,form,cs⟩:PartM)]).length=k+1 by rw[List.length_append,HLN.out];rfl)
        have HE7:=mk0 (show partsG l (n-(k+1)) a3 ((ps++[(⟨str s1,cp,s3,form,cs⟩:PartM)]).map PartM.q)=partsR l a by rw[← HM.out,List.map_append];exact HE.out)
        generalize ps++[(⟨str s1,cp,s3,form,cs⟩:PartM)]=ps2 at *
        clear hr7 hb7 hg7 hat7 HR6 HK6 HF6 HE HLN x0 x1 xf
        go_wp2
        go_roundw
        case rel=>exact ⟨k+1,ps2,a3,by omega,rfl,by go_num,HL7,HE7,HR7,HK7,HB8⟩
        case measure=>simp[intOf];omega
      ·have hb3:(w3==0)=false:=by rw[beq_eq_false_iff_ne];exact hw3
       rw[if_pos hw3] at HE
       have HB5:=mk0 (HB.out.trans (HB1.out.mono HB.out.size))
       go_wp2
       go_ret2
       exact .inl ⟨HE.out.symm,rfl,HB5.out⟩
     ·have hb2:(w2==0)=false:=by rw[beq_eq_false_iff_ne];exact hw2
      rw[if_pos hw2] at HE
      have HB5:=mk0 (HB.out.trans ((below_alloc (Below.refl wr.heap.size wr) (.cells #[.string (str s1),.pointer none] 136)).mono HB.out.size))
      go_wp2
      go_ret2
      exact .inl ⟨HE.out.symm,rfl,HB5.out⟩
    ·have hk2:k=n:=by omega
     subst hk2
     rw[Nat.sub_self,partsG_zero] at HE
     go_wp2
     go_ret2
     exact .inr ⟨ps,aa,_,HE.out.symm,rfl,HR.out,HK.out,HB.out⟩
 ·have hb:(gw==0)=false:=by rw[beq_eq_false_iff_ne];exact hgw
  have HR2:=mk0 (show partsR l a=none by rw[HR.out,if_pos (.inl hgw)])
  go_wp2
  go_ret2
  exact .inl ⟨HR2.out,rfl,HB0.out⟩
end Go.Proofs.YtpiobnfakmmpdaaGreat.Lib0
namespace Go.Proofs.YtpiobnfakmmpdaaGreat.Lib0
open Go.RowKit Go.Proofs.YtpiobnfakmmpdaaGreatW.PrintWords Go.ChangeMaps
structure Fr (ps:List PartM) (w w':World):Prop where
 os:w'.os=w.os
 tape:w'.tape=w.tape
 output:w'.output=w.output
 size:w.heap.size≤w'.heap.size
 block:∀ k,k<w.heap.size→(∀ p ∈ ps,k≠p.cp)→w'.heap[k]?=w.heap[k]?
 sub:∀ p ∈ ps,∀ q,SubAt w' p.cp q→SubAt w p.cp q∨w.heap.size≤q
theorem Fr.refl (ps:List PartM) (w:World):Fr ps w w:=⟨rfl,rfl,rfl,Nat.le_refl _,fun _ _ _=>rfl,fun _ _ _ h=>.inl h⟩
theorem Fr.trans {ps:List PartM} {w w1 w2:World} (h:Fr ps w w1) (g:Fr ps w1 w2):Fr ps w w2:=
 ⟨g.os.trans h.os,g.tape.trans h.tape,g.output.trans h.output,Nat.le_trans h.size g.size,fun k hk hn=>(g.block k (Nat.lt_of_lt_of_le hk h.size) hn).trans (h.block k hk hn),fun p hp q hq=>by
  rcases g.sub p hp q hq with h1 | h1
  ·exact h.sub p hp q h1
  ·exact .inr (Nat.le_trans h.size h1)⟩
theorem Fr.more {ps:List PartM} {w w1 w2:World} {base:Nat} (h:Fr ps w w1) (hk:ChksAt w base ps) (hb:Below w.heap.size w1 w2):Fr ps w w2:=
 ⟨hb.os.trans h.os,hb.tape.trans h.tape,hb.output.trans h.output,Nat.le_trans h.size hb.size,fun k hk1 hn=>(hb.block k hk1).trans (h.block k hk1 hn),fun p hp q hq=>h.sub p hp q (hq.same (hb.block _ (hk.at_ p hp).lt))⟩
theorem Fr.of_below {ps:List PartM} {w w1:World} {base:Nat} (hk:ChksAt w base ps) (hb:Below w.heap.size w w1):Fr ps w w1:=(Fr.refl ps w).more hk hb
theorem Fr.turn {ps:List PartM} {w w1:World} {base:Nat} (hk:ChksAt w base ps) {q:PartM} (hq:q ∈ ps) (h:Keep1 q.cp w w1) (hs:∀ x,SubAt w1 q.cp x→SubAt w q.cp x∨w.heap.size≤x):Fr ps w w1:=
 ⟨h.os,h.tape,h.output,h.size,fun k hk1 hn=>h.block k hk1 (hn q hq),fun p hp x hx=>by
  by_cases he:p.cp=q.cp
  ·rw[he] at hx ⊢
   exact hs x hx
  ·exact .inl (hx.same (h.block _ (hk.at_ p hp).lt he))⟩
theorem Fr.below {ps:List PartM} {w w1:World} {base:Nat} (hk:ChksAt w base ps) (h:Fr ps w w1) (hb:base≤w.heap.size):Below base w w1:=
 ⟨h.os,h.tape,h.output,h.size,fun k hk1=>h.block k (by omega) (fun p hp e=>by have:=hk.old p hp;omega)⟩
theorem Free.fr {ps:List PartM} {w w1:World} {v:Value} (h:Free w ps v) (hf:Fr ps w w1) (hlt:∀ x,v.ownBlock=some x→x<w.heap.size):Free w1 ps v:=by
 intro p hp x hx hs
 rcases hf.sub p hp x hs with h1 | h1
 ·exact h p hp x hx h1
 ·exact absurd (hlt x hx) (by omega)
theorem chk_typed {w:World} {cp:Nat} {l:List UInt8} {form:Nat} {cs:List CellM} (h:ChkAt w cp l form cs):∃ c,w.heap[cp]?=some (.cells c 208 (0,0)):=by
 obtain ⟨Ab,cb,Ad,nd,cd,At,nt,ct,on,v8,hh,_⟩:=h
 exact ⟨_,hh⟩
theorem R_fr {α:Type} {d:Kd α} {e:Nat} {ok:Nat→Prop} {base b:Nat} {ps:List PartM} {w w1:World} {v:Value} {l:List α} (hE:d.E = []) (h:d.R e w base ok v l) (ht:208≠e) (hk:ChksAt w b ps) (hf:Fr ps w w1):d.R e w1 base ok v l:=
 R_moved hE h (fun k hv=>hf.block k (R_lt h k hv) (fun p hp he=>by
  obtain ⟨c,hc⟩:=chk_typed (hk.at_ p hp)
  subst he
  exact R_not_at h hc ht hv))
structure GrpAt (w:World) (g base:Nat) (vt vs vp:Value) (ts ss:List Int) (ps:List PartM):Prop where
 c0:w.cell? ⟨g,0,none⟩=some vt
 c1:w.cell? ⟨g,1,none⟩=some vs
 c2:w.cell? ⟨g,2,none⟩=some vp
 R0:(Kd.int .i64).R 2 w base (fun _=>True) vt ts
 R1:(Kd.int .i64).R 2 w base (fun _=>True) vs ss
 R2:kp.R 136 w base (fun _=>True) vp ps
 K:ChksAt w base ps
 ne:∀ p ∈ ps,g≠p.cp
theorem GrpAt.lt {w:World} {g base:Nat} {vt vs vp:Value} {ts ss:List Int} {ps:List PartM} (h:GrpAt w g base vt vs vp ts ss ps):g<w.heap.size:=World.block_lt_of_cell? w _ h.c0
theorem GrpAt.fr {w w1:World} {g base:Nat} {vt vs vp:Value} {ts ss:List Int} {ps:List PartM} (h:GrpAt w g base vt vs vp ts ss ps) (hf:Fr ps w w1) (hk:ChksAt w1 base ps):GrpAt w1 g base vt vs vp ts ss ps:=
 have hg:=hf.block g h.lt h.ne
 ⟨(World.cell?_of_block (a:=⟨g,0,none⟩) hg).trans h.c0,(World.cell?_of_block (a:=⟨g,1,none⟩) hg).trans h.c1,(World.cell?_of_block (a:=⟨g,2,none⟩) hg).trans h.c2,
  R_fr rfl h.R0 (by decide) h.K hf,R_fr rfl h.R1 (by decide) h.K hf,R_fr rfl h.R2 (by decide) h.K hf,hk,h.ne⟩
theorem RowsR.fr {w w1:World} {lo b:Nat} {H:List RowH} {L:List (List CellM)} {ps:List PartM} (h:RowsR w lo H L) (hk:ChksAt w b ps) (hf:Fr ps w w1):RowsR w1 lo H L:=
 ⟨h.1,fun i h1 h2=>⟨(h.2 i h1 h2).1,(h.2 i h1 h2).2.1,R_fr rfl (h.2 i h1 h2).2.2 (by decide) hk hf⟩⟩
end Go.Proofs.YtpiobnfakmmpdaaGreat.Lib0

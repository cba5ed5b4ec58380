import Derived.Deep.Upon
import Derived.Shelf.SlSortCmp.QuietGrown
import Derived.Shelf.Spec.SlicesInsert
import Derived.Lib.AppendZerosOnto
import Derived.Laws.NewBlocks
import Derived.Test.YtpiobnfakmmpdaaGreatP19
set_option linter.unusedVariables false
set_option linter.unusedSimpArgs false
namespace Go.Proofs.YtpiobnfakmmpdaaGreat.Lib0
open Go.RowKit Go.Proofs.YtpiobnfakmmpdaaGreatW.PrintWords Go.ChangeMaps
structure PredH where
 kind:Int
 col:ByteArray
 n:Int
 m:Int
 s:ByteArray
 As:Option Addr
 ns:Nat
 cs:Nat
 Ak:Option Addr
 nk:Nat
 ck:Nat
def kpr:Kd PredH:=Kd.iso (Kd.pair (Kd.int .i64) (Kd.pair Kd.string (Kd.pair (Kd.int .i64) (Kd.pair (Kd.int .i64) (Kd.pair Kd.string (Kd.pair kh kh)))))) (fun h=>(h.kind,h.col,h.n,h.m,h.s,⟨h.As,h.ns,h.cs⟩,⟨h.Ak,h.nk,h.ck⟩))
def PredH.cells (h:PredH):List Value:=[.int .i64 h.kind,.string h.col,.int .i64 h.n,.int .i64 h.m,.string h.s,.slice h.As h.ns h.cs,.slice h.Ak h.nk h.ck]
def PredH.val (h:PredH):Value:=.agg #[.int .i64 h.kind,.string h.col,.int .i64 h.n,.int .i64 h.m,.string h.s,.slice h.As h.ns h.cs,.slice h.Ak h.nk h.ck]
theorem kpr_K {w:World} {c:PredH} {cs:List Value} (h:kpr.K w c cs):cs=c.cells:=by
 obtain ⟨a0,b0,rfl,rfl,a1,b1,rfl,rfl,a2,b2,rfl,rfl,a3,b3,rfl,rfl,a4,b4,rfl,rfl,a5,b5,rfl,rfl,rfl⟩:=h
 rfl
theorem kpr_Kw:∀ w w' x cs,kpr.K w x cs→kpr.K w' x cs:=fun _ _ _ _ h=>h
theorem kpr_open {w:World} {A:Option Addr} {n:Nat} {l:List PredH} (h:kpr.C w A n l) (hn:0<l.length) :
  ∃ b o,A=some ⟨b,o,none⟩∧∀ k (hk:k<l.length),w.cell? ⟨b,o+k*7,none⟩=some (.int .i64 l[k].kind)∧w.cell? ⟨b,o+k*7+1,none⟩=some (.string l[k].col)∧w.cell? ⟨b,o+k*7+2,none⟩=some (.int .i64 l[k].n)∧w.cell? ⟨b,o+k*7+3,none⟩=some (.int .i64 l[k].m)∧w.cell? ⟨b,o+k*7+4,none⟩=some (.string l[k].s)∧w.cell? ⟨b,o+k*7+5,none⟩=some (.slice l[k].As l[k].ns l[k].cs)∧w.cell? ⟨b,o+k*7+6,none⟩=some (.slice l[k].Ak l[k].nk l[k].ck):=by
 obtain ⟨ad,rfl,hc⟩:=h.2.2 (by have:=h.1;omega)
 have hx:∀ k (hk:k<l.length) i u,l[k].cells[i]?=some u→w.cell? (ad.add (k*7+i))=some u:=fun k hk i u hu=>by
  obtain ⟨c,hl,hk',hcell⟩:=hc k _ (List.getElem?_eq_getElem hk)
  have hk2:=kpr_K hk'
  subst hk2
  exact hcell i u hu
 have hs:ad.spot=none:=by
  have:=hx 0 hn 0 _ rfl
  have e0:ad.add (0*7+0)=ad:=by simp[Addr.add]
  rw[e0] at this
  exact cell_plain this
 obtain ⟨b,o,sp⟩:=ad
 simp only at hs
 subst hs
 have e1:∀ k,(⟨b,o,none⟩:Addr).add k=⟨b,o+k,none⟩:=fun k=>by unfold Addr.add;split<;>simp_all
 refine ⟨b,o,rfl,fun k hk=>⟨?_,?_,?_,?_,?_,?_,?_⟩⟩
 ·have:=hx k hk 0 _ rfl
  rwa [e1,Nat.add_zero] at this
 all_goals rw[Nat.add_assoc,← e1]
 ·exact hx k hk 1 _ rfl
 ·exact hx k hk 2 _ rfl
 ·exact hx k hk 3 _ rfl
 ·exact hx k hk 4 _ rfl
 ·exact hx k hk 5 _ rfl
 ·exact hx k hk 6 _ rfl
inductive PredM where
 | mk (kind:Int) (col:ByteArray) (n m:Int) (s:ByteArray) (set:List ByteArray) (kids:List PredM)
namespace PredM
def kind:PredM→Int | .mk k _ _ _ _ _ _=>k
def col:PredM→ByteArray | .mk _ c _ _ _ _ _=>c
def n:PredM→Int | .mk _ _ n _ _ _ _=>n
def m:PredM→Int | .mk _ _ _ m _ _ _=>m
def s:PredM→ByteArray | .mk _ _ _ _ s _ _=>s
def set:PredM→List ByteArray | .mk _ _ _ _ _ l _=>l
def kids:PredM→List PredM | .mk _ _ _ _ _ _ l=>l
mutual
def deep:PredM→Nat
 | .mk _ _ _ _ _ _ l=>deeps l+1
def deeps:List PredM→Nat
 | []=>0
 | p :: l=>max (deep p) (deeps l)
end
mutual
def size:PredM→Nat
 | .mk _ _ _ _ _ _ l=>1+sizes l
def sizes:List PredM→Nat
 | []=>0
 | p :: l=>size p+sizes l
end
theorem deep_eq (p:PredM):p.deep=deeps p.kids+1:=by cases p;rfl
theorem size_eq (p:PredM):p.size=1+sizes p.kids:=by cases p;rfl
theorem deep_lt:∀ {l:List PredM} {k:PredM},k ∈ l→k.deep≤deeps l
 | p :: l,k,h=>by
  rw[deeps]
  rcases List.mem_cons.1 h with rfl | h
  ·omega
  ·have:=deep_lt h;omega
theorem deep_kid {p k:PredM} (h:k ∈ p.kids):k.deep<p.deep:=by
 rw[deep_eq p]
 have:=deep_lt h
 omega
theorem ind {P:PredM→Prop} (h:∀ p,(∀ k ∈ p.kids,P k)→P p) (p:PredM):P p:=by
 have:∀ d (p:PredM),p.deep≤d→P p:=by
  intro d
  induction d with
  | zero=>intro p hp;rw[deep_eq] at hp;omega
  | succ d ih=>intro p hp;exact h p (fun k hk=>ih k (by have:=deep_kid hk;omega))
 exact this _ p (Nat.le_refl _)
theorem size_pos (p:PredM):0<p.size:=by rw[size_eq];omega
theorem sizes_take:∀ (l:List PredM) (i:Nat) (h:i<l.length),sizes (l.take (i+1))=sizes (l.take i)+l[i].size
 | p :: l,0,h=>by simp[sizes]
 | p :: l,i+1,h=>by
  rw[List.take_succ_cons,List.take_succ_cons,sizes,sizes,sizes_take l i (by simpa using h),List.getElem_cons_succ]
  omega
theorem sizes_take_le (l:List PredM) (i:Nat):sizes (l.take i)≤sizes l:=by
 induction l generalizing i with
 | nil=>simp[sizes]
 | cons p l ih=>
  cases i with
  | zero=>simp[sizes]
  | succ i=>rw[List.take_succ_cons,sizes,sizes];have:=ih i;omega
theorem sizes_len:∀ (l:List PredM),l.length≤sizes l
 | []=>Nat.le_refl _
 | p :: l=>by rw[sizes,List.length_cons];have:=sizes_len l;have:=size_pos p;omega
end PredM
def InS (S:Nat→Prop) (A:Option Addr) (n:Nat):Prop:=∀ ad,A=some ad→0<n→S ad.block
mutual
def PredS (S:Nat→Prop) (w:World) (h:PredH):PredM→Prop
 | .mk k c n m s set kids=>h.kind=k∧h.col=c∧h.n=n∧h.m=m∧h.s=s∧h.ns=set.length∧set.length≤h.cs∧Kd.string.C w h.As set.length set∧InS S h.As set.length∧∃ K:List PredH,h.nk=K.length∧K.length≤h.ck∧kpr.C w h.Ak K.length K∧InS S h.Ak K.length∧KidsS S w K kids
def KidsS (S:Nat→Prop) (w:World):List PredH→List PredM→Prop
 | K,[]=>K = []
 | K,p :: l=>∃ h T,K=h :: T∧PredS S w h p∧KidsS S w T l
end
theorem KidsS.iff {S:Nat→Prop} {w:World}:∀ {K:List PredH} {l:List PredM},KidsS S w K l↔K.length=l.length∧∀ i (h1:i<K.length) (h2:i<l.length),PredS S w K[i] l[i]
 | K,[]=>by
  rw[KidsS]
  constructor
  ·rintro rfl
   exact ⟨rfl,fun i h1=>by simp at h1⟩
  ·rintro ⟨h,_⟩
   exact List.eq_nil_of_length_eq_zero h
 | K,p :: l=>by
  rw[KidsS]
  constructor
  ·rintro ⟨h,T,rfl,h1,h2⟩
   obtain ⟨e,hx⟩:=KidsS.iff.1 h2
   refine ⟨by simp[e],fun i k1 k2=>?_⟩
   cases i with
   | zero=>exact h1
   | succ i=>exact hx i (by simpa using k1) (by simpa using k2)
  ·rintro ⟨e,hx⟩
   match K,e with
   | h :: T,e=>
    exact ⟨h,T,rfl,hx 0 (by simp) (by simp),KidsS.iff.2 ⟨by simpa using e,fun i k1 k2=>hx (i+1) (by simpa using k1) (by simpa using k2)⟩⟩
structure PredQ (S:Nat→Prop) (w:World) (h:PredH) (p:PredM) (K:List PredH):Prop where
 kind:h.kind=p.kind
 col:h.col=p.col
 n:h.n=p.n
 m:h.m=p.m
 s:h.s=p.s
 ns:h.ns=p.set.length
 cs:p.set.length≤h.cs
 set:Kd.string.C w h.As p.set.length p.set
 inS:InS S h.As p.set.length
 nk:h.nk=p.kids.length
 ck:p.kids.length≤h.ck
 len:K.length=p.kids.length
 kids:kpr.C w h.Ak p.kids.length K
 inK:InS S h.Ak p.kids.length
 kid:∀ i (h1:i<K.length) (h2:i<p.kids.length),PredS S w K[i] p.kids[i]
theorem PredS.ex {S:Nat→Prop} {w:World} {h:PredH} {p:PredM} (hp:PredS S w h p):∃ K,PredQ S w h p K:=by
 obtain ⟨k,c,n,m,s,set,kids⟩:=p
 rw[PredS] at hp
 obtain ⟨h1,h2,h3,h4,h5,h6,h7,h8,h9,K,g1,g2,g3,g4,g5⟩:=hp
 obtain ⟨e,hx⟩:=KidsS.iff.1 g5
 rw[e] at g1 g2 g3 g4
 exact ⟨K,h1,h2,h3,h4,h5,h6,h7,h8,h9,g1,g2,e,g3,g4,hx⟩
theorem PredQ.to {S:Nat→Prop} {w:World} {h:PredH} {p:PredM} {K:List PredH} (q:PredQ S w h p K):PredS S w h p:=by
 obtain ⟨k,c,n,m,s,set,kids⟩:=p
 rw[PredS]
 have e:=q.len
 exact ⟨q.kind,q.col,q.n,q.m,q.s,q.ns,q.cs,q.set,q.inS,K,by rw[q.nk,e],by rw[e];exact q.ck,by rw[e];exact q.kids,by rw[e];exact q.inK,KidsS.iff.2 ⟨e,q.kid⟩⟩
theorem C_block {α:Type} {d:Kd α} (hK:∀ w w' x cs,d.K w x cs→d.K w' x cs) {w w':World} {A:Option Addr} {n:Nat} {l:List α} {S:Nat→Prop} (hs:0<d.sz) (h:d.C w A n l) (hS:InS S A n) (hb:∀ k,S k→k<w.heap.size→w'.heap[k]?=w.heap[k]?):d.C w' A n l:=by
 refine ⟨h.1,h.2.1,fun hn=>?_⟩
 obtain ⟨ad,e,hx⟩:=h.2.2 hn
 refine ⟨ad,e,fun j p hp=>?_⟩
 obtain ⟨cs,hl,hkk,hcell⟩:=hx j p hp
 refine ⟨cs,hl,hK _ _ _ _ hkk,fun i u hu=>?_⟩
 rw[← hcell i u hu]
 exact World.cell?_of_block (by rw[add_block];exact hb ad.block (hS ad e hn) (C_lt hs h ad e hn))
theorem PredS.stay {S:Nat→Prop} {w w':World} (hb:∀ k,S k→k<w.heap.size→w'.heap[k]?=w.heap[k]?):∀ (p:PredM) (h:PredH),PredS S w h p→PredS S w' h p:=by
 refine PredM.ind fun p ih h hp=>?_
 obtain ⟨K,q⟩:=hp.ex
 exact PredQ.to (K:=K) ⟨q.kind,q.col,q.n,q.m,q.s,q.ns,q.cs,C_block (fun _ _ _ _ h=>h) (by decide) q.set q.inS hb,q.inS,q.nk,q.ck,q.len,C_block kpr_Kw (by decide) q.kids q.inK hb,q.inK,fun i h1 h2=>ih _ (List.getElem_mem h2) _ (q.kid i h1 h2)⟩
theorem PredS.below {S:Nat→Prop} {w w':World} {h:PredH} {p:PredM} (hp:PredS S w h p) (hb:Below w.heap.size w w'):PredS S w' h p:=PredS.stay (fun k _ hk=>hb.block k hk) p h hp
theorem PredS.more {S T:Nat→Prop} {w:World} (hST:∀ k,k<w.heap.size→S k→T k):∀ (p:PredM) (h:PredH),PredS S w h p→PredS T w h p:=by
 refine PredM.ind fun p ih h hp=>?_
 obtain ⟨K,q⟩:=hp.ex
 exact PredQ.to (K:=K) ⟨q.kind,q.col,q.n,q.m,q.s,q.ns,q.cs,q.set,fun ad e hn=>hST _ (C_lt (by decide) q.set ad e hn) (q.inS ad e hn),q.nk,q.ck,q.len,q.kids,fun ad e hn=>hST _ (C_lt (by decide) q.kids ad e hn) (q.inK ad e hn),fun i h1 h2=>ih _ (List.getElem_mem h2) _ (q.kid i h1 h2)⟩
theorem PredS.any {S:Nat→Prop} {w:World} {h:PredH} {p:PredM} (hp:PredS S w h p):PredS (fun _=>True) w h p:=PredS.more (fun _ _ _=>trivial) p h hp
def AllB:Nat→Prop:=fun _=>True
theorem PredQ.row {S:Nat→Prop} {w wr:World} {h:PredH} {p:PredM} {K:List PredH} (q:PredQ S w h p K) (hb:Below w.heap.size w wr) (hn:0<p.kids.length) :
  ∃ b o,h.Ak=some ⟨b,o,none⟩∧∀ i (hi:i<p.kids.length),∃ d:PredH,PredS S wr d p.kids[i]∧wr.cell? ⟨b,o+i*7,none⟩=some (.int .i64 d.kind)∧wr.cell? ⟨b,o+i*7+1,none⟩=some (.string d.col)∧wr.cell? ⟨b,o+i*7+2,none⟩=some (.int .i64 d.n)∧wr.cell? ⟨b,o+i*7+3,none⟩=some (.int .i64 d.m)∧wr.cell? ⟨b,o+i*7+4,none⟩=some (.string d.s)∧wr.cell? ⟨b,o+i*7+5,none⟩=some (.slice d.As d.ns d.cs)∧wr.cell? ⟨b,o+i*7+6,none⟩=some (.slice d.Ak d.nk d.ck):=by
 obtain ⟨b,o,e,hx⟩:=kpr_open (Kd.C_below q.kids hb) (by rw[q.len];exact hn)
 exact ⟨b,o,e,fun i hi=>⟨K[i]'(by rw[q.len];exact hi),(q.kid i (by rw[q.len];exact hi) hi).below hb,hx i (by rw[q.len];exact hi)⟩⟩
end Go.Proofs.YtpiobnfakmmpdaaGreat.Lib0

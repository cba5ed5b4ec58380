import Derived.Test.YtcmffaejcnbheaaGreatProg
import Derived.Laws.BitsLemmas
import Derived.Outline
import Derived.StillTailTactics
import Derived.IntWalk
import Derived.Test.YtcmffaejcnbheaaGreatP01
set_option linter.unusedVariables false
set_option linter.unusedSimpArgs false
namespace Go.Proofs.YtcmffaejcnbheaaGreat.Lib0
open Go.RowKit Go.Proofs.YtcmffaejcnbheaaGreatW.PrintWords
def u8:Kd UInt8:=Kd.scalar (fun b:UInt8=>Value.int .u8 (b.toNat:Int)) (fun _=>rfl)
def encB (b:UInt8):Value:=.int .u8 (b.toNat:Int)
def bi (l:List UInt8):List Int:=l.map fun b=>(b.toNat:Int)
theorem bi_length (l:List UInt8):(bi l).length=l.length:=by simp[bi]
def str (l:List UInt8):ByteArray:=⟨l.toArray⟩
def byt (s:ByteArray):List UInt8:=s.data.toList
theorem byt_str (l:List UInt8):byt (str l)=l:=by simp[byt,str]
theorem str_byt (s:ByteArray):str (byt s)=s:=by simp[byt,str]
theorem byt_length (s:ByteArray):(byt s).length=s.size:=by simp[byt]
theorem str_size (l:List UInt8):(str l).size=l.length:=by rw[← byt_length,byt_str]
theorem str_inj {a b:List UInt8} (h:str a=str b):a=b:=by rw[← byt_str a,h,byt_str]
theorem u8_C_iff (w:World) (A:Option Addr) (n:Nat) (l:List UInt8):u8.C w A n l↔(Kd.int .u8).C w A n (bi l):=by
 unfold Kd.C ReadsRow
 simp only[bi_length]
 constructor
 ·rintro ⟨h1,h2,h3⟩
  refine ⟨h1,h2,fun hn=>?_⟩
  obtain ⟨ad,e,hc⟩:=h3 hn
  refine ⟨ad,e,fun j p hp=>?_⟩
  simp only[bi,List.getElem?_map,Option.map_eq_some_iff] at hp
  obtain ⟨b,hb,rfl⟩:=hp
  obtain ⟨c,hl,hk,hcell⟩:=hc j b hb
  exact ⟨c,hl,hk,hcell⟩
 ·rintro ⟨h1,h2,h3⟩
  refine ⟨h1,h2,fun hn=>?_⟩
  obtain ⟨ad,e,hc⟩:=h3 hn
  refine ⟨ad,e,fun j p hp=>?_⟩
  obtain ⟨c,hl,hk,hcell⟩:=hc j (p.toNat:Int) (by simp[bi,hp])
  exact ⟨c,hl,hk,hcell⟩
theorem u8_at {w:World} {A:Option Addr} {n:Nat} {l:List UInt8} (h:u8.C w A n l) (k:Nat) (hk:k<l.length) :
  ∃ ad,A=some ad∧w.cell? (ad.add k)=some (.int .u8 ((l[k]).toNat:Int)):=by
 obtain ⟨ad,e,hc⟩:=h.2.2 (by have:=h.1;omega)
 obtain ⟨c,hl,hk',hcell⟩:=hc k _ (List.getElem?_eq_getElem hk)
 refine ⟨ad,e,?_⟩
 have hk2:c = [.int .u8 ((l[k]).toNat:Int)]:=hk'
 subst hk2
 have:=hcell 0 _ rfl
 have e1:k*u8.sz+0=k:=by show k*1+0=k;omega
 rwa [e1] at this
theorem cell_plain {w:World} {a:Addr} {v:Value} (h:w.cell? a=some v):a.spot=none:=by
 unfold World.cell? at h
 split at h
 ·split at h
  ·simp at h
  ·rename_i h1;simpa using h1
 ·simp at h
theorem u8_open {w:World} {A:Option Addr} {n:Nat} {l:List UInt8} (h:u8.C w A n l) (hn:0<l.length) :
  ∃ b o,A=some ⟨b,o,none⟩∧∀ k (hk:k<l.length),w.cell? ⟨b,o+k,none⟩=some (.int .u8 ((l[k]).toNat:Int)):=by
 obtain ⟨ad,rfl,hx⟩:=u8_at h 0 hn
 have hs:ad.spot=none:=by
  have e0:ad.add 0=ad:=by simp[Addr.add]
  rw[e0] at hx
  exact cell_plain hx
 obtain ⟨b,o,sp⟩:=ad
 simp only at hs
 subst hs
 refine ⟨b,o,rfl,fun k hk=>?_⟩
 obtain ⟨ad,e,hx⟩:=u8_at h k hk
 cases e
 have e1:(⟨b,o,none⟩:Addr).add k=⟨b,o+k,none⟩:=by unfold Addr.add;split<;>simp_all
 rwa [e1] at hx
section
variable {P:Program} {ops:Array Oper} {rest:List Oper} {o:Oper} {a:Act} {Q:Exit→Act→World→Prop}
theorem u8_append {W:World} (s x:Operand) (t e:TypeId) (v:Value) (xs ys:List UInt8) (A:Option Addr) (m c:Nat) (base:Nat)
  (hgd:o.guard=none) (ho:o.op = .call { callee:=.builtin .append,args:=#[s,x],argTypes:=#[t,t] })
  (ht:P.underlying t=some (.slice e)) (hinfo:(P.info? e).map (fun i=>(i.zero,i.size,i.bytes))=some (some (.int .u8 0),1,1))
  (hs:a.eval s=v) (hx:a.eval x = .slice A m c)
  (HO:u8.R e W base (fun _=>True) v xs) (HR:u8.C W A m ys) (hbase:base≤W.heap.size) (hl:xs.length+m≤140737488355328)
  (h:∀ v1 w1,u8.R e w1 base (fun _=>True) v1 (xs++ys)→Below base W w1→W.grownBy w1 v.ownBlock→(v1.ownBlock=v.ownBlock∨∃ b,v1.ownBlock=some b∧W.heap.size≤b)→wpList P ops Q rest (a.put o.dst v1) w1) :
  wpList P ops Q (o :: rest) a W:=
 Kd.R_append_row encB 0 (w0:=W) base hgd s x t e (.int .u8 0) 1 ho ht hinfo rfl (by decide) v xs ys A m c (fun _=>True) hs hx (fun _ _=>trivial) HO HR (Below.refl _ _) hbase (by omega) h
end
theorem R_base {α:Type} {d:Kd α} {e:Nat} {w:World} {base:Nat} {ok:Nat→Prop} {v:Value} {l:List α} (h:d.R e w base ok v l):∀ k,v.ownBlock=some k→base≤k:=by
 obtain ⟨inner,ho⟩:=Kd.R_own h
 exact own_base ho
theorem sl_drop {α:Type} {P:Program} (d:Kd α) (t e:TypeId) {sz by_:Nat} {z:Option Value} (kl:IntKind) (ht:P.underlying t=some (.slice e)) (hinfo:(P.info? e).map (fun i=>(i.zero,i.size,i.bytes))=some (z,sz,by_)) (hsz:sz=d.sz) (A:Option Addr) (xs:List α) (c:Nat) (m:Int) (h0:0≤m) (hm:m≤xs.length) (hc:xs.length≤c) :
  ∃ A' c',(∀ W:World,(Instr.slice t (.slice A xs.length c) (some (.int kl m)) none none).run P W = .ok (.slice A' (xs.drop m.toNat).length c') W)∧(xs.drop m.toNat).length≤c'∧∀ W,d.C W A xs.length xs→d.C W A' (xs.drop m.toNat).length (xs.drop m.toNat):=by
 obtain ⟨i0,hi,hzz⟩:=Option.map_eq_some_iff.1 hinfo
 simp only[Prod.mk.injEq] at hzz
 obtain ⟨m,rfl⟩:=Int.eq_ofNat_of_zero_le h0
 simp only[Int.toNat_natCast]
 refine ⟨_,c-m,fun W=>?_,by rw[List.length_drop];omega,fun W h=>Kd.C_drop h (by omega) hc⟩
 have:=cut_from t e kl ht hi d.sz (hzz.2.1.trans hsz) A xs.length c (m:Int) (by omega) (by omega) W
 rw[this];simp
theorem sl_mid {α:Type} {P:Program} (d:Kd α) (t e:TypeId) {sz by_:Nat} {z:Option Value} (kl kh:IntKind) (ht:P.underlying t=some (.slice e)) (hinfo:(P.info? e).map (fun i=>(i.zero,i.size,i.bytes))=some (z,sz,by_)) (hsz:sz=d.sz) (A:Option Addr) (xs:List α) (c:Nat) (lo hi:Int) (h0:0≤lo) (h1:lo≤hi) (hm:hi≤xs.length) (hc:xs.length≤c) :
  ∃ A' c',(∀ W:World,(Instr.slice t (.slice A xs.length c) (some (.int kl lo)) (some (.int kh hi)) none).run P W = .ok (.slice A' ((xs.take hi.toNat).drop lo.toNat).length c') W)∧((xs.take hi.toNat).drop lo.toNat).length≤c'∧∀ W,d.C W A xs.length xs→d.C W A' ((xs.take hi.toNat).drop lo.toNat).length ((xs.take hi.toNat).drop lo.toNat):=by
 obtain ⟨i0,hi0,hzz⟩:=Option.map_eq_some_iff.1 hinfo
 simp only[Prod.mk.injEq] at hzz
 obtain ⟨lo,rfl⟩:=Int.eq_ofNat_of_zero_le h0
 obtain ⟨hi,rfl⟩:=Int.eq_ofNat_of_zero_le (Int.le_trans h0 h1)
 simp only[Int.toNat_natCast]
 refine ⟨_,c-lo,fun W=>?_,by rw[List.length_drop,List.length_take];omega,fun W h=>Kd.C_mid h (by omega) (by omega) hc⟩
 have:=cut_mid t e kl kh ht hi0 d.sz (hzz.2.1.trans hsz) A xs.length c (lo:Int) (hi:Int) (by omega) h1 hm hc W
 rw[this];simp;omega
theorem R_empty {α:Type} (d:Kd α) (e:Nat) (w:World):d.R e (w.alloc (.cells #[] e)) w.heap.size (fun _=>True) (.slice (some ⟨w.heap.size,0,none⟩) 0 0) []:=
 ⟨fun _ _=>trivial,[],⟨by simp,.inr ⟨w.heap.size,0,#[],rfl,Nat.le_refl _,heap_alloc_new w _,Nat.le_refl _,by simp[maxLen],by simp,by simp⟩⟩,Reps.none _ _⟩
theorem info_u8:(Tryz.prog.info? 5).map (fun i=>(i.zero,i.size,i.bytes))=some (some (.int .u8 0),1,1):=by kernel_rfl
theorem u8_R_len {e:Nat} {w:World} {base:Nat} {ok:Nat→Prop} {v:Value} {l:List UInt8} (h:u8.R e w base ok v l):∃ A c,v = .slice A l.length c∧l.length≤c∧u8.C w A l.length l:=Kd.R_reads h
end Go.Proofs.YtcmffaejcnbheaaGreat.Lib0
namespace Go.Proofs.YtcmffaejcnbheaaGreat.Lib0
open Go.RowKit Go.Proofs.YtcmffaejcnbheaaGreatW.PrintWords Go.ChangeMaps
theorem str_open {w:World} {A:Option Addr} {n:Nat} {l:List ByteArray} (h:Kd.string.C w A n l) (hn:0<l.length) :
  ∃ b o,A=some ⟨b,o,none⟩∧∀ k (hk:k<l.length),w.cell? ⟨b,o+k,none⟩=some (.string l[k]):=by
 obtain ⟨ad,rfl,hc⟩:=h.2.2 (by have:=h.1;omega)
 have hx:∀ k (hk:k<l.length),w.cell? (ad.add k)=some (.string l[k]):=fun k hk=>by
  obtain ⟨c,hl,hk',hcell⟩:=hc k _ (List.getElem?_eq_getElem hk)
  have hk2:c = [.string l[k]]:=hk'
  subst hk2
  have:=hcell 0 _ rfl
  have e1:k*Kd.string.sz+0=k:=by show k*1+0=k;omega
  rwa [e1] at this
 have hs:ad.spot=none:=by
  have e0:ad.add 0=ad:=by simp[Addr.add]
  have:=hx 0 hn
  rw[e0] at this
  exact cell_plain this
 obtain ⟨b,o,sp⟩:=ad
 simp only at hs
 subst hs
 refine ⟨b,o,rfl,fun k hk=>?_⟩
 have e1:(⟨b,o,none⟩:Addr).add k=⟨b,o+k,none⟩:=by unfold Addr.add;split<;>simp_all
 rw[← e1]
 exact hx k hk
theorem cell_of_heap {w:World} {b:Nat} {cs:Array Value} {e:TypeId} {fr:Nat × Nat} {i:Nat} {v:Value} (h:w.heap[b]?=some (.cells cs e fr)) (hv:cs[i]?=some v):w.cell? ⟨b,i,none⟩=some v:=by
 unfold World.cell?
 simp[h,hv]
theorem frozen_of_heap {w:World} {b i:Nat} {cs:Array Value} {e:TypeId} (h:w.heap[b]?=some (.cells cs e (0,0))):w.frozen? ⟨b,i,none⟩=false:=by
 unfold World.frozen?
 simp[h]
theorem heap_at_setCell {w:World} {b i:Nat} {cs:Array Value} {t:TypeId} {fr:Nat × Nat} {v:Value} (h:w.heap[b]?=some (.cells cs t fr)):(w.setCell ⟨b,i,none⟩ v).heap[b]?=some (.cells (cs.setIfInBounds i v) t fr):=by
 simp[World.setCell,Array.getElem?_modify,h]
theorem info_str:(Tryz.prog.info? 9).map (fun i=>(i.zero,i.size,i.bytes))=some (some (.string ByteArray.empty),1,16):=by kernel_rfl
section
variable {P:Program} {ops:Array Oper} {rest:List Oper} {o:Oper} {a:Act} {Q:Exit→Act→World→Prop}
theorem str_append {W:World} (s x:Operand) (t e:TypeId) (v:Value) (xs:List ByteArray) (p:ByteArray) (base:Nat)
  (hgd:o.guard=none) (ho:o.op = .call { callee:=.builtin .append,args:=#[s,x],argTypes:=#[t,t] })
  (ht:P.underlying t=some (.slice e)) (hinfo:(P.info? e).map (fun i=>(i.zero,i.size,i.bytes))=some (some (.string ByteArray.empty),1,16))
  (hs:a.eval s=v) (hx:a.eval x = .slice (some ⟨W.heap.size,0,none⟩) 1 1)
  (HO:Kd.string.R e W base (fun _=>True) v xs) (hbase:base≤W.heap.size) (hl:xs.length≤1099511627776)
  (h:∀ v1 w1,Kd.string.R e w1 base (fun _=>True) v1 (xs++[p])→Below base W w1→W.grownBy w1 v.ownBlock→(v1.ownBlock=v.ownBlock∨∃ b,v1.ownBlock=some b∧W.heap.size≤b)→wpList P ops Q rest (a.put o.dst v1) w1) :
  wpList P ops Q (o :: rest) a (W.alloc (.cells #[.string p] e)):=
 Kd.R_append Kd.string (w0:=W) base hgd s x t e (.string ByteArray.empty) 16 ho ht hinfo rfl (by decide) (by decide) v xs p [.string p] (fun _=>True) (fun _=>False) hs hx rfl (fun _ hk=>hk.elim) (fun _ _=>trivial)
  HO (Below.refl _ _) hbase (by omega) h
end
theorem u8_string {P:Program} {w:World} {src dst e:TypeId} {A:Option Addr} {c:Nat} {l:List UInt8} (hs:P.underlying src=some (.slice e)) (he:P.underlying e=some (.int .u8)) (hd:P.underlying dst=some .string)
  (h:u8.C w A l.length l):(convert src dst (.slice A l.length c)).run P w = .ok (.string (str l)) w:=by
 have h2:=(u8_C_iff _ _ _ _).1 h
 rw[Kd.C_string hs he hd h2]
 congr 2
 simp only[strOfNums,str,bi,List.map_map]
 congr 2
 conv=>rhs;rw[← List.map_id l]
 apply List.map_congr_left
 intro b _
 simp
theorem u8_inner {l:List UInt8} {inner:List Value} {w:World} {base:Nat} {ok:Nat→Prop} (h:Reps (u8.M w base ok) u8.sz l inner):inner=l.map encB:=by
 have hl:inner.length=l.length:=by have:=h.1;simpa [u8,Kd.scalar] using this
 refine List.ext_getElem (by simpa using hl) (fun i h1 h2=>?_)
 have h3:i<l.length:=by omega
 have:=h.2 i _ (List.getElem?_eq_getElem h3)
 have h4:((inner.drop (i*u8.sz)).take u8.sz) = [encB l[i]]:=this
 have h5:i*u8.sz=i:=by show i*1=i;omega
 rw[h5,show u8.sz=1 from rfl] at h4
 have h6:=congrArg (fun x:List Value=>x[0]?) h4
 simp only[List.getElem?_take,List.getElem?_drop] at h6
 simp at h6
 rw[List.getElem?_eq_getElem h1] at h6
 simp at h6
 simpa using h6
theorem u8_R_iff {e:Nat} {w:World} {base:Nat} {v:Value} {l:List UInt8}:u8.R e w base (fun _=>True) v l↔w.ownsRow base e 1 v l.length (l.map encB):=by
 constructor
 ·rintro ⟨_,inner,ho,hr⟩
  rw[u8_inner hr] at ho
  exact ho
 ·intro h
  refine ⟨fun _ _=>trivial,_,h,?_⟩
  refine ⟨by simp[u8,Kd.scalar],fun j p hp=>?_⟩
  show ((l.map encB).drop (j*1)).take 1 = [encB p]
  rw[Nat.mul_one]
  have hj:=(List.getElem?_eq_some_iff.1 hp).1
  rw[List.drop_eq_getElem_cons (by simpa using hj)]
  have:=(List.getElem?_eq_some_iff.1 hp).2
  simp[this]
theorem u8_R_set {e:Nat} {w:World} {base g n c:Nat} {l:List UInt8} (h:u8.R e w base (fun _=>True) (.slice (some ⟨g,0,none⟩) n c) l) (i:Nat) (hi:i<l.length) (x:UInt8) :
  u8.R e (w.setCell ⟨g,i,none⟩ (encB x)) base (fun _=>True) (.slice (some ⟨g,0,none⟩) n c) (l.set i x):=by
 rw[u8_R_iff] at h ⊢
 obtain ⟨h1,h2⟩:=h
 rcases h2 with ⟨h2,_⟩ | ⟨g',cap,cur,hv,hb,hh,r1,r2,r3,r4⟩
 ·cases h2
 ·simp only[Value.slice.injEq,Option.some.injEq,Addr.mk.injEq,and_true] at hv
  obtain ⟨rfl,rfl,rfl⟩:=hv
  refine ⟨by simp,.inr ⟨g,c,cur.setIfInBounds i (encB x),by simp,hb,heap_at_setCell hh,by simpa using r1,r2,by simpa using r3,?_⟩⟩
  simp only[List.length_set,Nat.mul_one] at r4 ⊢
  rw[Array.toList_setIfInBounds,List.take_set,r4,List.map_set]
theorem u8_row_open {e:Nat} {w:World} {base:Nat} {v:Value} {l:List UInt8} (h:u8.R e w base (fun _=>True) v l) (hn:0<l.length):∃ g c,v = .slice (some ⟨g,0,none⟩) l.length c∧base≤g∧l.length≤c∧∃ cur,w.heap[g]?=some (.cells cur e (0,0))∧∀ i (hi:i<l.length),cur[i]?=some (encB l[i]):=by
 obtain ⟨h1,h2⟩:=u8_R_iff.1 h
 rcases h2 with ⟨_,h2⟩ | ⟨g,cap,cur,hv,hb,hh,r1,r2,r3,r4⟩
 ·omega
 ·refine ⟨g,cap,hv,hb,r1,cur,hh,fun i hi=>?_⟩
  have:(cur.toList.take (l.length*1))[i]?=(l.map encB)[i]?:=by rw[r4]
  rw[List.getElem?_take_of_lt (by omega)] at this
  rw[← Array.getElem?_toList,this]
  simp[hi]
def Row (T:TypeId) (w:World) (r:List UInt8) (e:Ending) (w':World):Prop:=
 ∃ v,e = .returned v∧u8.R T w' w.heap.size (fun _=>True) v r∧Below w.heap.size w w'
theorem R_lit (w:World) (l:List UInt8) (e:TypeId) (hn:l.length≤1099511627776):u8.R e (w.alloc (.cells (l.map encB).toArray e)) w.heap.size (fun _=>True) (.slice (some ⟨w.heap.size,0,none⟩) l.length l.length) l:=by
 rw[u8_R_iff]
 exact ⟨by simp,.inr ⟨w.heap.size,l.length,(l.map encB).toArray,rfl,Nat.le_refl _,heap_alloc_new w _,Nat.le_refl _,by simp[maxLen];omega,by simp,by simp only[Nat.mul_one];rw[List.take_of_length_le (by simp)]⟩⟩
theorem below_bytes (w:World) (e:TypeId) (s:ByteArray):Below w.heap.size w (Lib.bytesWorld w e s):=
 ⟨rfl,rfl,rfl,by rw[Lib.bytesWorld_size];omega,fun k hk=>Lib.bytesWorld_at_old w e s k hk⟩
theorem u8_C_bytes (w:World) (e:TypeId) (s:ByteArray) (hs:s.size≤9223372036854775807):u8.C (Lib.bytesWorld w e s) (some ⟨w.heap.size,0,none⟩) (byt s).length (byt s):=by
 refine ⟨rfl,by rw[byt_length];exact hs,fun _=>⟨_,rfl,fun j p hp=>⟨[encB p],rfl,rfl,fun i u hu=>?_⟩⟩⟩
 have hi:i=0:=by
  rcases i with _ | i
  ·rfl
  ·simp at hu
 subst hi
 simp only[List.getElem?_cons_zero,Option.some.injEq] at hu
 subst hu
 have e1:(⟨w.heap.size,0,none⟩:Addr).add (j*u8.sz+0)=⟨w.heap.size,j,none⟩:=by
  rw[add_plain];show (⟨w.heap.size,j*1+0,none⟩:Addr)=_;simp
 rw[e1]
 have hj:j<s.size:=by rw[← byt_length];exact (List.getElem?_eq_some_iff.1 hp).1
 rw[Lib.bytesWorld_cell w e s j hj]
 simp only[byt] at hp
 simp only[List.getD,hp]
 rfl
theorem below_drew (B:Nat) (w:World):Below B w w.drew:=⟨rfl,rfl,rfl,Nat.le_refl _,fun _ _=>rfl⟩
theorem toList_inj {x y:ByteArray} (h:x.toList=y.toList):x=y:=by
 rw[ByteArray.toList_eq,ByteArray.toList_eq] at h
 have:=congrArg str h
 exact (str_byt x).symm.trans (this.trans (str_byt y))
theorem made_bytes (n:Nat):madeCells #[.int .u8 0] n=((List.replicate n (0:UInt8)).map encB).toArray:=by
 apply Array.ext
 ·simp[madeCells]
 ·intro i h1 h2
  simp[madeCells,encB,Nat.mod_one]
section
variable {P:Program} {ops:Array Oper} {rest:List Oper} {o:Oper} {a:Act} {Q:Exit→Act→World→Prop}
theorem str_append_row {W:World} (s x:Operand) (t e:TypeId) (v:Value) (xs ys:List ByteArray) (A:Option Addr) (m c:Nat) (base:Nat)
  (hgd:o.guard=none) (ho:o.op = .call { callee:=.builtin .append,args:=#[s,x],argTypes:=#[t,t] })
  (ht:P.underlying t=some (.slice e)) (hinfo:(P.info? e).map (fun i=>(i.zero,i.size,i.bytes))=some (some (.string ByteArray.empty),1,16))
  (hs:a.eval s=v) (hx:a.eval x = .slice A m c)
  (HO:Kd.string.R e W base (fun _=>True) v xs) (HR:Kd.string.C W A m ys) (hbase:base≤W.heap.size) (hl:xs.length+m≤1099511627776)
  (h:∀ v1 w1,Kd.string.R e w1 base (fun _=>True) v1 (xs++ys)→Below base W w1→W.grownBy w1 v.ownBlock→(v1.ownBlock=v.ownBlock∨∃ b,v1.ownBlock=some b∧W.heap.size≤b)→wpList P ops Q rest (a.put o.dst v1) w1) :
  wpList P ops Q (o :: rest) a W:=
 Kd.R_append_row Value.string ByteArray.empty (w0:=W) base hgd s x t e (.string ByteArray.empty) 16 ho ht hinfo rfl (by decide) v xs ys A m c (fun _=>True) hs hx (fun _ _=>trivial) HO HR (Below.refl _ _) hbase (by omega) h
end
theorem sc_open {α:Type} {enc:α→Value} {h1:∀ x,(enc x).oneCell'=true} {w:World} {A:Option Addr} {n:Nat} {l:List α} (h:(Kd.scalar enc h1).C w A n l) (hn:0<l.length) :
  ∃ b o,A=some ⟨b,o,none⟩∧∀ k (hk:k<l.length),w.cell? ⟨b,o+k,none⟩=some (enc l[k]):=by
 obtain ⟨ad,rfl,hc⟩:=h.2.2 (by have:=h.1;omega)
 have hx:∀ k (hk:k<l.length),w.cell? (ad.add k)=some (enc l[k]):=fun k hk=>by
  obtain ⟨c,hl,hk',hcell⟩:=hc k _ (List.getElem?_eq_getElem hk)
  have hk2:c = [enc l[k]]:=hk'
  subst hk2
  have:=hcell 0 _ rfl
  have e1:k*(Kd.scalar enc h1).sz+0=k:=by show k*1+0=k;omega
  rwa [e1] at this
 have hs:ad.spot=none:=by
  have e0:ad.add 0=ad:=by simp[Addr.add]
  have:=hx 0 hn
  rw[e0] at this
  exact cell_plain this
 obtain ⟨b,o,sp⟩:=ad
 simp only at hs
 subst hs
 refine ⟨b,o,rfl,fun k hk=>?_⟩
 have e1:(⟨b,o,none⟩:Addr).add k=⟨b,o+k,none⟩:=by unfold Addr.add;split<;>simp_all
 have:=hx k hk
 rwa [e1] at this
end Go.Proofs.YtcmffaejcnbheaaGreat.Lib0
namespace Go.Proofs.YtcmffaejcnbheaaGreat.Lib0
open Go.RowKit Go.Proofs.YtcmffaejcnbheaaGreatW.PrintWords Go.ChangeMaps
def putV (n:Nat):List UInt8:=if n≤127 then [UInt8.ofNat n] else (UInt8.ofNat n ||| 128) :: putV (n/128)
termination_by n
decreasing_by omega
theorem putV_small {n:Nat} (h:n≤127):putV n = [UInt8.ofNat n]:=by rw[putV,if_pos h]
theorem putV_great {n:Nat} (h:¬ n≤127):putV n=(UInt8.ofNat n ||| 128) :: putV (n/128):=by rw[putV,if_neg h]
theorem putV_len:∀ (k n:Nat),n<128 ^ (k+1)→(putV n).length≤k+1
 | 0,n,h=>by rw[putV_small (by omega)];simp
 | k+1,n,h=>by
  by_cases h1:n≤127
  ·rw[putV_small h1];simp
  ·rw[putV_great h1,List.length_cons]
   have:=putV_len k (n/128) (by rw[Nat.pow_succ] at h;omega)
   omega
theorem putV_len10 {n:Nat} (h:n<18446744073709551616):(putV n).length≤10:=by
 have h2:(128:Nat) ^ (9+1)=1180591620717411303424:=by decide
 exact putV_len 9 n (by omega)
theorem putV_pos (n:Nat):0<(putV n).length:=by
 by_cases h:n≤127
 ·rw[putV_small h];simp
 ·rw[putV_great h];simp
section
variable {P:Program} {ops:Array Oper} {rest:List Oper} {o:Oper} {a:Act} {Q:Exit→Act→World→Prop}
theorem u8_append1 {W:World} (s x:Operand) (t e:TypeId) (v:Value) (xs:List UInt8) (p:UInt8) (n:Int) (hn:n=(p.toNat:Int)) (base:Nat)
  (hgd:o.guard=none) (ho:o.op = .call { callee:=.builtin .append,args:=#[s,x],argTypes:=#[t,t] })
  (ht:P.underlying t=some (.slice e)) (hinfo:(P.info? e).map (fun i=>(i.zero,i.size,i.bytes))=some (some (.int .u8 0),1,1))
  (hs:a.eval s=v) (hx:a.eval x = .slice (some ⟨W.heap.size,0,none⟩) 1 1)
  (HO:u8.R e W base (fun _=>True) v xs) (hbase:base≤W.heap.size) (hl:xs.length≤1099511627776)
  (h:∀ v1 w1,u8.R e w1 base (fun _=>True) v1 (xs++[p])→Below base W w1→W.grownBy w1 v.ownBlock→(v1.ownBlock=v.ownBlock∨∃ b,v1.ownBlock=some b∧W.heap.size≤b)→wpList P ops Q rest (a.put o.dst v1) w1) :
  wpList P ops Q (o :: rest) a (W.alloc (.cells #[.int .u8 n] e)):=by
 subst hn
 exact Kd.R_append u8 (w0:=W) base hgd s x t e (.int .u8 0) 1 ho ht hinfo rfl (by decide) (by decide) v xs p [.int .u8 (p.toNat:Int)] (fun _=>True) (fun _=>False) hs hx rfl (fun _ hk=>hk.elim) (fun _ _=>trivial)
  HO (Below.refl _ _) hbase (by omega) h
end
theorem or_u8 (a b:UInt8):Go.bits .or .u8 (a.toNat:Int) (b.toNat:Int)=((a ||| b).toNat:Int):=by
 have ha:=a.toNat_lt
 have hb:=b.toNat_lt
 unfold Go.bits
 simp only[IntKind.wrap_u8]
 show (((BitVec.ofInt 8 (a.toNat:Int) ||| BitVec.ofInt 8 (b.toNat:Int)).toNat:Nat):Int)%256=_
 rw[BitVec.ofInt_natCast,BitVec.ofInt_natCast,BitVec.toNat_or,BitVec.toNat_ofNat,BitVec.toNat_ofNat,Nat.mod_eq_of_lt ha,Nat.mod_eq_of_lt hb,UInt8.toNat_or]
 have:a.toNat ||| b.toNat<2 ^ 8:=Nat.or_lt_two_pow ha hb
 omega
set_option maxHeartbeats 1600000 in
set_option maxRecDepth 100000 in
theorem v_Put (A:Option Addr) (c:Nat) (l:List UInt8) (n:Nat) (w:World) (h:u8.C w A l.length l) (hl:l.length≤1099511627000) (hn:n<18446744073709551616) :
  Calls Tryz.prog 26 #[.slice A l.length c,.int .u64 n] w (Row 5 w (l++putV n)):=by
 have HC:=mk0 h
 have HL:=mk0 hl
 have HP:=mk0 (putV_len10 hn)
 have HN:=mk0 hn
 clear h hl hn
 go_enter Tryz.func26,Tryz.ntmps26
 go_wp2_with (at_builtin;go_loud (refine u8_append (.tmp 6) (.tmp 7) 24 5 (.slice (some ⟨w.heap.size,0,none⟩) 0 0) [] l _ _ _ w.heap.size rfl rfl Tryz.underlying24 info_u8 rfl rfl (R_empty u8 5 w) (Kd.C_below HC.out (below_alloc (Below.refl _ _) _)) ?c1 ?c2 ?_))
 case c1=>simp
 case c2=>have:=HL.out;simp;omega
 intro v1 w1 hr1 hb1 hg1 ha1
 have R1:=mk0 hr1
 have B1:=mk0 ((below_alloc (Below.refl w.heap.size w) (.cells #[] 5)).trans hb1)
 clear hr1 hb1 hg1 ha1
 go_wp2_with fail
 go_loopw[1,5] (fun v1 v5 wr=>∃ (m:Nat) (acc:List UInt8),v1 = .int .u64 m∧Aside0 (m≤n)∧Aside0 (acc++putV m=l++putV n)∧Aside0 (u8.R 5 wr w.heap.size (fun _=>True) v5 acc)∧Aside0 (Below w.heap.size w wr)) (fun v _ _=>(intOf v).toNat)
 case atStart=>exact ⟨n,l,rfl,⟨Nat.le_refl _⟩,⟨rfl⟩,⟨by simpa using R1.out⟩,B1⟩
 case round=>
  obtain ⟨m,acc,rfl,HM,HA,HR,HB⟩:=hrel
  obtain ⟨A5,c5,rfl,_,_⟩:=u8_R_len HR.out
  have HLA:=mk0 (show acc.length≤1099511627776 by have:=congrArg List.length HA.out;rw[List.length_append,List.length_append] at this;have:=HL.out;have:=HP.out;omega)
  obtain ⟨y,hy⟩:∃ y,y=UInt8.ofNat m:=⟨_,rfl⟩
  have hyb:(m:Int)%256=(y.toNat:Int):=by rw[hy,UInt8.toNat_ofNat'];omega
  by_cases hm:m≤127
  ·have hm2:¬ (127:Int)<m:=by omega
   have hyb2:(m:Int)=(y.toNat:Int):=by omega
   have HE:=mk0 (show l++putV n=acc++[y] by rw[← HA.out,putV_small hm,hy])
   have HYB:=mk0 hyb
   have HYB2:=mk0 hyb2
   clear hy hyb hyb2
   go_wp2_with (at_builtin;go_loud (refine u8_append1 (.tmp 19) (.tmp 22) 24 5 (.slice A5 acc.length c5) acc y _ ?c3 w.heap.size rfl rfl Tryz.underlying24 info_u8 rfl rfl HR.out HB.out.size HLA.out ?_))
   case c3=>first | exact HYB.out | exact HYB2.out
   intro v2 w2 hr2 hb2 hg2 ha2
   go_wp2
   go_ret
   exact ⟨_,rfl,by rw[HE.out];exact hr2,HB.out.trans hb2⟩
  ·have hm2:(127:Int)<m:=by omega
   obtain ⟨z,hz⟩:∃ z,z=y ||| 128:=⟨_,rfl⟩
   have hor:Go.bits .or .u8 ((m:Int)%256) 128=(z.toNat:Int):=by rw[hyb,hz,← or_u8];rfl
   have HE:=mk0 (show (acc++[z])++putV (m/128)=l++putV n by rw[← HA.out,putV_great hm,hz,hy];simp)
   clear hy hyb hz
   go_wp2_with (at_builtin;go_loud (refine u8_append1 (.tmp 11) (.tmp 15) 24 5 (.slice A5 acc.length c5) acc z _ rfl w.heap.size rfl rfl Tryz.underlying24 info_u8 rfl rfl HR.out HB.out.size HLA.out ?_))
   intro v2 w2 hr2 hb2 hg2 ha2
   have R2:=mk0 hr2
   have B2:=mk0 (HB.out.trans hb2)
   clear hr2 hb2 hg2 ha2
   go_wp2
   go_roundw
   case rel=>exact ⟨m/128,acc++[z],by first | rfl | (simp;omega) | go_num,⟨by have:=HM.out;omega⟩,HE,R2,B2⟩
   case measure=>simp[intOf];omega
end Go.Proofs.YtcmffaejcnbheaaGreat.Lib0
namespace Go.Proofs.YtcmffaejcnbheaaGreat.Lib0
open Go.RowKit Go.Proofs.YtcmffaejcnbheaaGreatW.PrintWords Go.ChangeMaps
def I64 (n:Int):Prop:=-9223372036854775808≤n∧n≤9223372036854775807
def zig (n:Int):Nat:=if 0≤n then (2*n).toNat else (-2*n-1).toNat
def zag (n:Nat):Int:=if n%2=0 then (n/2:Nat) else -((n/2:Nat):Int)-1
theorem zag_zig (n:Int):zag (zig n)=n:=by
 unfold zag zig
 split<;>split<;>omega
theorem zig_lt {n:Int} (h:I64 n):zig n<18446744073709551616:=by
 unfold zig
 have:=h.1
 have:=h.2
 split<;>omega
theorem zag_in {n:Nat} (h:n<18446744073709551616):I64 (zag n):=by
 unfold zag I64
 split<;>omega
theorem bits_u64 (op:BinOp) (f:∀ {w:Nat},BitVec w→BitVec w→BitVec w) (hop:∀ a b:Int,Go.bits op .u64 a b=IntKind.u64.wrap ((f (BitVec.ofInt 64 a) (BitVec.ofInt 64 b)).toNat:Int)) (a b:Nat) (ha:a<18446744073709551616) (hb:b<18446744073709551616) :
  Go.bits op .u64 (a:Int) (b:Int)=((f (BitVec.ofNat 64 a) (BitVec.ofNat 64 b)).toNat:Int):=by
 rw[hop,BitVec.ofInt_natCast,BitVec.ofInt_natCast]
 have:=(f (BitVec.ofNat 64 a) (BitVec.ofNat 64 b)).isLt
 rw[IntKind.wrap_u64]
 omega
theorem xor_u64 (a b:Nat) (ha:a<18446744073709551616) (hb:b<18446744073709551616):Go.bits .xor .u64 (a:Int) (b:Int)=((a ^^^ b:Nat):Int):=by
 rw[bits_u64 .xor (fun x y=>x ^^^ y) (fun _ _=>rfl) a b ha hb,BitVec.toNat_xor,BitVec.toNat_ofNat,BitVec.toNat_ofNat,Nat.mod_eq_of_lt ha,Nat.mod_eq_of_lt hb]
theorem and_u64 (a b:Nat) (ha:a<18446744073709551616) (hb:b<18446744073709551616):Go.bits .and .u64 (a:Int) (b:Int)=((a &&& b:Nat):Int):=by
 rw[bits_u64 .and (fun x y=>x &&& y) (fun _ _=>rfl) a b ha hb,BitVec.toNat_and,BitVec.toNat_ofNat,BitVec.toNat_ofNat,Nat.mod_eq_of_lt ha,Nat.mod_eq_of_lt hb]
theorem or_u64 (a b:Nat) (ha:a<18446744073709551616) (hb:b<18446744073709551616):Go.bits .or .u64 (a:Int) (b:Int)=((a ||| b:Nat):Int):=by
 rw[bits_u64 .or (fun x y=>x ||| y) (fun _ _=>rfl) a b ha hb,BitVec.toNat_or,BitVec.toNat_ofNat,BitVec.toNat_ofNat,Nat.mod_eq_of_lt ha,Nat.mod_eq_of_lt hb]
theorem xor_ones (a:Nat) (ha:a<18446744073709551616):a ^^^ 18446744073709551615=18446744073709551615-a:=by
 have h:(BitVec.ofNat 64 a ^^^ BitVec.allOnes 64).toNat=(~~~ (BitVec.ofNat 64 a)).toNat:=by rw[BitVec.xor_allOnes]
 rw[BitVec.toNat_xor,BitVec.toNat_not,BitVec.toNat_ofNat,Nat.mod_eq_of_lt ha,BitVec.toNat_allOnes] at h
 have e:(2:Nat) ^ 64=18446744073709551616:=by decide
 rw[e] at h
 simpa using h
theorem zig_bits (n:Int) (h:I64 n):Go.bits .xor .u64 (IntKind.u64.wrap (IntKind.u64.wrap n*2)) (IntKind.u64.wrap (n/9223372036854775808))=(zig n:Int):=by
 have h1:=h.1
 have h2:=h.2
 by_cases h0:0≤n
 ·have e1:IntKind.u64.wrap (IntKind.u64.wrap n*2)=(((2*n).toNat:Nat):Int):=by rw[IntKind.wrap_u64,IntKind.wrap_u64];omega
  have e2:IntKind.u64.wrap (n/9223372036854775808)=((0:Nat):Int):=by rw[IntKind.wrap_u64];omega
  rw[e1,e2,xor_u64 _ _ (by omega) (by omega),Nat.xor_zero,zig,if_pos h0]
 ·have e1:IntKind.u64.wrap (IntKind.u64.wrap n*2)=(((2*n+18446744073709551616).toNat:Nat):Int):=by rw[IntKind.wrap_u64,IntKind.wrap_u64];omega
  have e2:IntKind.u64.wrap (n/9223372036854775808)=((18446744073709551615:Nat):Int):=by rw[IntKind.wrap_u64];omega
  rw[e1,e2,xor_u64 _ _ (by omega) (by omega),xor_ones _ (by omega),zig,if_neg h0]
  omega
theorem xor_i64_zero (n:Int) (h:I64 n):Go.bits .xor .i64 n 0=n:=by
 unfold Go.bits
 show IntKind.i64.wrap (((BitVec.ofInt 64 n ^^^ BitVec.ofInt 64 0).toNat:Nat):Int)=n
 have e:BitVec.ofInt 64 0=0#64:=by decide
 rw[e,BitVec.xor_zero,IntKind.wrap_i64,BitVec.toNat_ofInt]
 have:=h.1
 have:=h.2
 have e2:((2 ^ 64:Nat):Int)=18446744073709551616:=by decide
 rw[e2]
 omega
theorem xor_i64_ones (n:Int) (h:I64 n):Go.bits .xor .i64 n (-1) = -n-1:=by
 unfold Go.bits
 show IntKind.i64.wrap (((BitVec.ofInt 64 n ^^^ BitVec.ofInt 64 (-1)).toNat:Nat):Int) = -n-1
 have e:BitVec.ofInt 64 (-1)=BitVec.allOnes 64:=by decide
 rw[e,BitVec.xor_allOnes,IntKind.wrap_i64,BitVec.toNat_not,BitVec.toNat_ofInt]
 have:=h.1
 have:=h.2
 have e2:((2 ^ 64:Nat):Int)=18446744073709551616:=by decide
 have e3:(2:Nat) ^ 64=18446744073709551616:=by decide
 rw[e2,e3]
 omega
theorem zag_bits (n:Nat) (h:n<18446744073709551616):Go.bits .xor .i64 ((n:Int)/2) (wrap64 (-wrap64 (Go.bits .and .u64 (n:Int) 1)))=zag n:=by
 have e:Go.bits .and .u64 (n:Int) 1=((n%2:Nat):Int):=by
  have:=and_u64 n 1 h (by omega)
  rw[Nat.and_one_is_mod] at this
  exact this
 rw[e]
 unfold zag
 have hi:I64 ((n:Int)/2):=by unfold I64;omega
 by_cases h2:n%2=0
 ·rw[if_pos h2,h2]
  have:wrap64 (-wrap64 ((0:Nat):Int))=0:=by unfold wrap64;omega
  rw[this,xor_i64_zero _ hi]
  omega
 ·have h3:n%2=1:=by omega
  rw[if_neg h2,h3]
  have:wrap64 (-wrap64 ((1:Nat):Int)) = -1:=by unfold wrap64;omega
  rw[this,xor_i64_ones _ hi]
  omega
set_option maxHeartbeats 1600000 in
set_option maxRecDepth 100000 in
theorem v_Zig (n:Int) (hn:I64 n) (w:World) :
  Calls Tryz.prog 63 #[.int .i64 n] w fun e w'=>e = .returned (.int .u64 (zig n))∧w=w':=by
 go_enter Tryz.func63,Tryz.ntmps63
 go_wp2
 go_ret
 exact ⟨congrArg (fun x=>Ending.returned (.int .u64 x)) (zig_bits n hn),rfl⟩
set_option maxHeartbeats 1600000 in
set_option maxRecDepth 100000 in
theorem v_Zag (n:Nat) (hn:n<18446744073709551616) (w:World) :
  Calls Tryz.prog 111 #[.int .u64 n] w fun e w'=>e = .returned (.int .i64 (zag n))∧w=w':=by
 go_enter Tryz.func111,Tryz.ntmps111
 go_wp2
 go_ret
 exact ⟨congrArg (fun x=>Ending.returned (.int .i64 x)) (zag_bits n hn),rfl⟩
end Go.Proofs.YtcmffaejcnbheaaGreat.Lib0

import Derived.Test.YtpiobnfakmmpdaaGreatProg
import Derived.Laws.BitsLemmas
import Derived.Outline
import Derived.StillTailTactics
import Derived.IntWalk
import Derived.Test.YtpiobnfakmmpdaaGreatP01
set_option linter.unusedVariables false
set_option linter.unusedSimpArgs false
namespace Go.Proofs.YtpiobnfakmmpdaaGreat.Lib0
open Go.RowKit Go.Proofs.YtpiobnfakmmpdaaGreatW.PrintWords
def u8:Kd UInt8:=Kd.scalar (fun b:UInt8=>Value.int .u8 (b.toNat:Int)) (fun _=>rfl)
def encB (b:UInt8):Value:=.int .u8 (b.toNat:Int)
def bi (l:List UInt8):List Int:=l.map fun b=>(b.toNat:Int)
theorem bi_length (l:List UInt8):(bi l).length=l.length:=by simp[bi]
def str (l:List UInt8):ByteArray:=⟨l.toArray⟩
def byt (s:ByteArray):List UInt8:=s.data.toList
theorem byt_str (l:List UInt8):byt (str l)=l:=by simp[byt,str]
theorem str_byt (s:ByteArray):str (byt s)=s:=by simp[byt,str]
theorem byt_length (s:ByteArray):(byt s).length=s.size:=by simp[byt]
theorem str_size (l:List UInt8):(str l).size=l.length:=by rw[← byt_length,byt_str]
theorem str_inj {a b:List UInt8} (h:str a=str b):a=b:=by rw[← byt_str a,h,byt_str]
theorem u8_C_iff (w:World) (A:Option Addr) (n:Nat) (l:List UInt8):u8.C w A n l↔(Kd.int .u8).C w A n (bi l):=by
 unfold Kd.C ReadsRow
 simp only[bi_length]
 constructor
 ·rintro ⟨h1,h2,h3⟩
  refine ⟨h1,h2,fun hn=>?_⟩
  obtain ⟨ad,e,hc⟩:=h3 hn
  refine ⟨ad,e,fun j p hp=>?_⟩
  simp only[bi,List.getElem?_map,Option.map_eq_some_iff] at hp
  obtain ⟨b,hb,rfl⟩:=hp
  obtain ⟨c,hl,hk,hcell⟩:=hc j b hb
  exact ⟨c,hl,hk,hcell⟩
 ·rintro ⟨h1,h2,h3⟩
  refine ⟨h1,h2,fun hn=>?_⟩
  obtain ⟨ad,e,hc⟩:=h3 hn
  refine ⟨ad,e,fun j p hp=>?_⟩
  obtain ⟨c,hl,hk,hcell⟩:=hc j (p.toNat:Int) (by simp[bi,hp])
  exact ⟨c,hl,hk,hcell⟩
theorem u8_at {w:World} {A:Option Addr} {n:Nat} {l:List UInt8} (h:u8.C w A n l) (k:Nat) (hk:k<l.length) :
  ∃ ad,A=some ad∧w.cell? (ad.add k)=some (.int .u8 ((l[k]).toNat:Int)):=by
 obtain ⟨ad,e,hc⟩:=h.2.2 (by have:=h.1;omega)
 obtain ⟨c,hl,hk',hcell⟩:=hc k _ (List.getElem?_eq_getElem hk)
 refine ⟨ad,e,?_⟩
 have hk2:c = [.int .u8 ((l[k]).toNat:Int)]:=hk'
 subst hk2
 have:=hcell 0 _ rfl
 have e1:k*u8.sz+0=k:=by show k*1+0=k;omega
 rwa [e1] at this
theorem cell_plain {w:World} {a:Addr} {v:Value} (h:w.cell? a=some v):a.spot=none:=by
 unfold World.cell? at h
 split at h
 ·split at h
  ·simp at h
  ·rename_i h1;simpa using h1
 ·simp at h
theorem u8_open {w:World} {A:Option Addr} {n:Nat} {l:List UInt8} (h:u8.C w A n l) (hn:0<l.length) :
  ∃ b o,A=some ⟨b,o,none⟩∧∀ k (hk:k<l.length),w.cell? ⟨b,o+k,none⟩=some (.int .u8 ((l[k]).toNat:Int)):=by
 obtain ⟨ad,rfl,hx⟩:=u8_at h 0 hn
 have hs:ad.spot=none:=by
  have e0:ad.add 0=ad:=by simp[Addr.add]
  rw[e0] at hx
  exact cell_plain hx
 obtain ⟨b,o,sp⟩:=ad
 simp only at hs
 subst hs
 refine ⟨b,o,rfl,fun k hk=>?_⟩
 obtain ⟨ad,e,hx⟩:=u8_at h k hk
 cases e
 have e1:(⟨b,o,none⟩:Addr).add k=⟨b,o+k,none⟩:=by unfold Addr.add;split<;>simp_all
 rwa [e1] at hx
section
variable {P:Program} {ops:Array Oper} {rest:List Oper} {o:Oper} {a:Act} {Q:Exit→Act→World→Prop}
theorem u8_append {W:World} (s x:Operand) (t e:TypeId) (v:Value) (xs ys:List UInt8) (A:Option Addr) (m c:Nat) (base:Nat)
  (hgd:o.guard=none) (ho:o.op = .call { callee:=.builtin .append,args:=#[s,x],argTypes:=#[t,t] })
  (ht:P.underlying t=some (.slice e)) (hinfo:(P.info? e).map (fun i=>(i.zero,i.size,i.bytes))=some (some (.int .u8 0),1,1))
  (hs:a.eval s=v) (hx:a.eval x = .slice A m c)
  (HO:u8.R e W base (fun _=>True) v xs) (HR:u8.C W A m ys) (hbase:base≤W.heap.size) (hl:xs.length+m≤140737488355328)
  (h:∀ v1 w1,u8.R e w1 base (fun _=>True) v1 (xs++ys)→Below base W w1→W.grownBy w1 v.ownBlock→(v1.ownBlock=v.ownBlock∨∃ b,v1.ownBlock=some b∧W.heap.size≤b)→wpList P ops Q rest (a.put o.dst v1) w1) :
  wpList P ops Q (o :: rest) a W:=
 Kd.R_append_row encB 0 (w0:=W) base hgd s x t e (.int .u8 0) 1 ho ht hinfo rfl (by decide) v xs ys A m c (fun _=>True) hs hx (fun _ _=>trivial) HO HR (Below.refl _ _) hbase (by omega) h
end
theorem R_base {α:Type} {d:Kd α} {e:Nat} {w:World} {base:Nat} {ok:Nat→Prop} {v:Value} {l:List α} (h:d.R e w base ok v l):∀ k,v.ownBlock=some k→base≤k:=by
 obtain ⟨inner,ho⟩:=Kd.R_own h
 exact own_base ho
theorem sl_drop {α:Type} {P:Program} (d:Kd α) (t e:TypeId) {sz by_:Nat} {z:Option Value} (kl:IntKind) (ht:P.underlying t=some (.slice e)) (hinfo:(P.info? e).map (fun i=>(i.zero,i.size,i.bytes))=some (z,sz,by_)) (hsz:sz=d.sz) (A:Option Addr) (xs:List α) (c:Nat) (m:Int) (h0:0≤m) (hm:m≤xs.length) (hc:xs.length≤c) :
  ∃ A' c',(∀ W:World,(Instr.slice t (.slice A xs.length c) (some (.int kl m)) none none).run P W = .ok (.slice A' (xs.drop m.toNat).length c') W)∧(xs.drop m.toNat).length≤c'∧∀ W,d.C W A xs.length xs→d.C W A' (xs.drop m.toNat).length (xs.drop m.toNat):=by
 obtain ⟨i0,hi,hzz⟩:=Option.map_eq_some_iff.1 hinfo
 simp only[Prod.mk.injEq] at hzz
 obtain ⟨m,rfl⟩:=Int.eq_ofNat_of_zero_le h0
 simp only[Int.toNat_natCast]
 refine ⟨_,c-m,fun W=>?_,by rw[List.length_drop];omega,fun W h=>Kd.C_drop h (by omega) hc⟩
 have:=cut_from t e kl ht hi d.sz (hzz.2.1.trans hsz) A xs.length c (m:Int) (by omega) (by omega) W
 rw[this];simp
theorem sl_take {α:Type} {P:Program} (d:Kd α) (t e:TypeId) {sz by_:Nat} {z:Option Value} (kl:IntKind) (ht:P.underlying t=some (.slice e)) (hinfo:(P.info? e).map (fun i=>(i.zero,i.size,i.bytes))=some (z,sz,by_)) (hsz:sz=d.sz) (A:Option Addr) (xs:List α) (c:Nat) (m:Int) (h0:0≤m) (hm:m≤xs.length) (hc:xs.length≤c) :
  (∀ W:World,(Instr.slice t (.slice A xs.length c) none (some (.int kl m)) none).run P W = .ok (.slice A (xs.take m.toNat).length c) W)∧(xs.take m.toNat).length≤c∧∀ W,d.C W A xs.length xs→d.C W A (xs.take m.toNat).length (xs.take m.toNat):=by
 obtain ⟨i0,hi,hzz⟩:=Option.map_eq_some_iff.1 hinfo
 obtain ⟨m,rfl⟩:=Int.eq_ofNat_of_zero_le h0
 simp only[Int.toNat_natCast]
 refine ⟨fun W=>?_,by rw[List.length_take];omega,fun W h=>Kd.C_take h (by omega)⟩
 have:=cut_to t e kl ht hi A xs.length c (m:Int) (by omega) (by omega) hc W
 rw[this];simp;omega
theorem sl_mid {α:Type} {P:Program} (d:Kd α) (t e:TypeId) {sz by_:Nat} {z:Option Value} (kl kh:IntKind) (ht:P.underlying t=some (.slice e)) (hinfo:(P.info? e).map (fun i=>(i.zero,i.size,i.bytes))=some (z,sz,by_)) (hsz:sz=d.sz) (A:Option Addr) (xs:List α) (c:Nat) (lo hi:Int) (h0:0≤lo) (h1:lo≤hi) (hm:hi≤xs.length) (hc:xs.length≤c) :
  ∃ A' c',(∀ W:World,(Instr.slice t (.slice A xs.length c) (some (.int kl lo)) (some (.int kh hi)) none).run P W = .ok (.slice A' ((xs.take hi.toNat).drop lo.toNat).length c') W)∧((xs.take hi.toNat).drop lo.toNat).length≤c'∧∀ W,d.C W A xs.length xs→d.C W A' ((xs.take hi.toNat).drop lo.toNat).length ((xs.take hi.toNat).drop lo.toNat):=by
 obtain ⟨i0,hi0,hzz⟩:=Option.map_eq_some_iff.1 hinfo
 simp only[Prod.mk.injEq] at hzz
 obtain ⟨lo,rfl⟩:=Int.eq_ofNat_of_zero_le h0
 obtain ⟨hi,rfl⟩:=Int.eq_ofNat_of_zero_le (Int.le_trans h0 h1)
 simp only[Int.toNat_natCast]
 refine ⟨_,c-lo,fun W=>?_,by rw[List.length_drop,List.length_take];omega,fun W h=>Kd.C_mid h (by omega) (by omega) hc⟩
 have:=cut_mid t e kl kh ht hi0 d.sz (hzz.2.1.trans hsz) A xs.length c (lo:Int) (hi:Int) (by omega) h1 hm hc W
 rw[this];simp;omega
theorem R_empty {α:Type} (d:Kd α) (e:Nat) (w:World):d.R e (w.alloc (.cells #[] e)) w.heap.size (fun _=>True) (.slice (some ⟨w.heap.size,0,none⟩) 0 0) []:=
 ⟨fun _ _=>trivial,[],⟨by simp,.inr ⟨w.heap.size,0,#[],rfl,Nat.le_refl _,heap_alloc_new w _,Nat.le_refl _,by simp[maxLen],by simp,by simp⟩⟩,Reps.none _ _⟩
theorem u32_all:(if IntKind.u32.signed=true then (-1:Int) else IntKind.u32.max)=4294967295:=by rfl
theorem info_u8:(Tryz.prog.info? 5).map (fun i=>(i.zero,i.size,i.bytes))=some (some (.int .u8 0),1,1):=by kernel_rfl
theorem u8_R_len {e:Nat} {w:World} {base:Nat} {ok:Nat→Prop} {v:Value} {l:List UInt8} (h:u8.R e w base ok v l):∃ A c,v = .slice A l.length c∧l.length≤c∧u8.C w A l.length l:=Kd.R_reads h
end Go.Proofs.YtpiobnfakmmpdaaGreat.Lib0
namespace Go.Proofs.YtpiobnfakmmpdaaGreat.Lib0
open Go.RowKit Go.Proofs.YtpiobnfakmmpdaaGreatW.PrintWords Go.ChangeMaps
theorem str_open {w:World} {A:Option Addr} {n:Nat} {l:List ByteArray} (h:Kd.string.C w A n l) (hn:0<l.length) :
  ∃ b o,A=some ⟨b,o,none⟩∧∀ k (hk:k<l.length),w.cell? ⟨b,o+k,none⟩=some (.string l[k]):=by
 obtain ⟨ad,rfl,hc⟩:=h.2.2 (by have:=h.1;omega)
 have hx:∀ k (hk:k<l.length),w.cell? (ad.add k)=some (.string l[k]):=fun k hk=>by
  obtain ⟨c,hl,hk',hcell⟩:=hc k _ (List.getElem?_eq_getElem hk)
  have hk2:c = [.string l[k]]:=hk'
  subst hk2
  have:=hcell 0 _ rfl
  have e1:k*Kd.string.sz+0=k:=by show k*1+0=k;omega
  rwa [e1] at this
 have hs:ad.spot=none:=by
  have e0:ad.add 0=ad:=by simp[Addr.add]
  have:=hx 0 hn
  rw[e0] at this
  exact cell_plain this
 obtain ⟨b,o,sp⟩:=ad
 simp only at hs
 subst hs
 refine ⟨b,o,rfl,fun k hk=>?_⟩
 have e1:(⟨b,o,none⟩:Addr).add k=⟨b,o+k,none⟩:=by unfold Addr.add;split<;>simp_all
 rw[← e1]
 exact hx k hk
theorem cell_of_heap {w:World} {b:Nat} {cs:Array Value} {e:TypeId} {fr:Nat × Nat} {i:Nat} {v:Value} (h:w.heap[b]?=some (.cells cs e fr)) (hv:cs[i]?=some v):w.cell? ⟨b,i,none⟩=some v:=by
 unfold World.cell?
 simp[h,hv]
theorem frozen_of_heap {w:World} {b i:Nat} {cs:Array Value} {e:TypeId} (h:w.heap[b]?=some (.cells cs e (0,0))):w.frozen? ⟨b,i,none⟩=false:=by
 unfold World.frozen?
 simp[h]
theorem heap_at_setCell {w:World} {b i:Nat} {cs:Array Value} {t:TypeId} {fr:Nat × Nat} {v:Value} (h:w.heap[b]?=some (.cells cs t fr)):(w.setCell ⟨b,i,none⟩ v).heap[b]?=some (.cells (cs.setIfInBounds i v) t fr):=by
 simp[World.setCell,Array.getElem?_modify,h]
theorem info_str:(Tryz.prog.info? 9).map (fun i=>(i.zero,i.size,i.bytes))=some (some (.string ByteArray.empty),1,16):=by kernel_rfl
section
variable {P:Program} {ops:Array Oper} {rest:List Oper} {o:Oper} {a:Act} {Q:Exit→Act→World→Prop}
theorem str_append {W:World} (s x:Operand) (t e:TypeId) (v:Value) (xs:List ByteArray) (p:ByteArray) (base:Nat)
  (hgd:o.guard=none) (ho:o.op = .call { callee:=.builtin .append,args:=#[s,x],argTypes:=#[t,t] })
  (ht:P.underlying t=some (.slice e)) (hinfo:(P.info? e).map (fun i=>(i.zero,i.size,i.bytes))=some (some (.string ByteArray.empty),1,16))
  (hs:a.eval s=v) (hx:a.eval x = .slice (some ⟨W.heap.size,0,none⟩) 1 1)
  (HO:Kd.string.R e W base (fun _=>True) v xs) (hbase:base≤W.heap.size) (hl:xs.length≤1099511627776)
  (h:∀ v1 w1,Kd.string.R e w1 base (fun _=>True) v1 (xs++[p])→Below base W w1→W.grownBy w1 v.ownBlock→(v1.ownBlock=v.ownBlock∨∃ b,v1.ownBlock=some b∧W.heap.size≤b)→wpList P ops Q rest (a.put o.dst v1) w1) :
  wpList P ops Q (o :: rest) a (W.alloc (.cells #[.string p] e)):=
 Kd.R_append Kd.string (w0:=W) base hgd s x t e (.string ByteArray.empty) 16 ho ht hinfo rfl (by decide) (by decide) v xs p [.string p] (fun _=>True) (fun _=>False) hs hx rfl (fun _ hk=>hk.elim) (fun _ _=>trivial)
  HO (Below.refl _ _) hbase (by omega) h
end
theorem u8_string {P:Program} {w:World} {src dst e:TypeId} {A:Option Addr} {c:Nat} {l:List UInt8} (hs:P.underlying src=some (.slice e)) (he:P.underlying e=some (.int .u8)) (hd:P.underlying dst=some .string)
  (h:u8.C w A l.length l):(convert src dst (.slice A l.length c)).run P w = .ok (.string (str l)) w:=by
 have h2:=(u8_C_iff _ _ _ _).1 h
 rw[Kd.C_string hs he hd h2]
 congr 2
 simp only[strOfNums,str,bi,List.map_map]
 congr 2
 conv=>rhs;rw[← List.map_id l]
 apply List.map_congr_left
 intro b _
 simp
theorem u8_inner {l:List UInt8} {inner:List Value} {w:World} {base:Nat} {ok:Nat→Prop} (h:Reps (u8.M w base ok) u8.sz l inner):inner=l.map encB:=by
 have hl:inner.length=l.length:=by have:=h.1;simpa [u8,Kd.scalar] using this
 refine List.ext_getElem (by simpa using hl) (fun i h1 h2=>?_)
 have h3:i<l.length:=by omega
 have:=h.2 i _ (List.getElem?_eq_getElem h3)
 have h4:((inner.drop (i*u8.sz)).take u8.sz) = [encB l[i]]:=this
 have h5:i*u8.sz=i:=by show i*1=i;omega
 rw[h5,show u8.sz=1 from rfl] at h4
 have h6:=congrArg (fun x:List Value=>x[0]?) h4
 simp only[List.getElem?_take,List.getElem?_drop] at h6
 simp at h6
 rw[List.getElem?_eq_getElem h1] at h6
 simp at h6
 simpa using h6
theorem u8_R_iff {e:Nat} {w:World} {base:Nat} {v:Value} {l:List UInt8}:u8.R e w base (fun _=>True) v l↔w.ownsRow base e 1 v l.length (l.map encB):=by
 constructor
 ·rintro ⟨_,inner,ho,hr⟩
  rw[u8_inner hr] at ho
  exact ho
 ·intro h
  refine ⟨fun _ _=>trivial,_,h,?_⟩
  refine ⟨by simp[u8,Kd.scalar],fun j p hp=>?_⟩
  show ((l.map encB).drop (j*1)).take 1 = [encB p]
  rw[Nat.mul_one]
  have hj:=(List.getElem?_eq_some_iff.1 hp).1
  rw[List.drop_eq_getElem_cons (by simpa using hj)]
  have:=(List.getElem?_eq_some_iff.1 hp).2
  simp[this]
theorem u8_R_set {e:Nat} {w:World} {base g n c:Nat} {l:List UInt8} (h:u8.R e w base (fun _=>True) (.slice (some ⟨g,0,none⟩) n c) l) (i:Nat) (hi:i<l.length) (x:UInt8) :
  u8.R e (w.setCell ⟨g,i,none⟩ (encB x)) base (fun _=>True) (.slice (some ⟨g,0,none⟩) n c) (l.set i x):=by
 rw[u8_R_iff] at h ⊢
 obtain ⟨h1,h2⟩:=h
 rcases h2 with ⟨h2,_⟩ | ⟨g',cap,cur,hv,hb,hh,r1,r2,r3,r4⟩
 ·cases h2
 ·simp only[Value.slice.injEq,Option.some.injEq,Addr.mk.injEq,and_true] at hv
  obtain ⟨rfl,rfl,rfl⟩:=hv
  refine ⟨by simp,.inr ⟨g,c,cur.setIfInBounds i (encB x),by simp,hb,heap_at_setCell hh,by simpa using r1,r2,by simpa using r3,?_⟩⟩
  simp only[List.length_set,Nat.mul_one] at r4 ⊢
  rw[Array.toList_setIfInBounds,List.take_set,r4,List.map_set]
theorem u8_row_open {e:Nat} {w:World} {base:Nat} {v:Value} {l:List UInt8} (h:u8.R e w base (fun _=>True) v l) (hn:0<l.length):∃ g c,v = .slice (some ⟨g,0,none⟩) l.length c∧base≤g∧l.length≤c∧∃ cur,w.heap[g]?=some (.cells cur e (0,0))∧∀ i (hi:i<l.length),cur[i]?=some (encB l[i]):=by
 obtain ⟨h1,h2⟩:=u8_R_iff.1 h
 rcases h2 with ⟨_,h2⟩ | ⟨g,cap,cur,hv,hb,hh,r1,r2,r3,r4⟩
 ·omega
 ·refine ⟨g,cap,hv,hb,r1,cur,hh,fun i hi=>?_⟩
  have:(cur.toList.take (l.length*1))[i]?=(l.map encB)[i]?:=by rw[r4]
  rw[List.getElem?_take_of_lt (by omega)] at this
  rw[← Array.getElem?_toList,this]
  simp[hi]
def Row (T:TypeId) (w:World) (r:List UInt8) (e:Ending) (w':World):Prop:=
 ∃ v,e = .returned v∧u8.R T w' w.heap.size (fun _=>True) v r∧Below w.heap.size w w'
theorem R_lit (w:World) (l:List UInt8) (e:TypeId) (hn:l.length≤1099511627776):u8.R e (w.alloc (.cells (l.map encB).toArray e)) w.heap.size (fun _=>True) (.slice (some ⟨w.heap.size,0,none⟩) l.length l.length) l:=by
 rw[u8_R_iff]
 exact ⟨by simp,.inr ⟨w.heap.size,l.length,(l.map encB).toArray,rfl,Nat.le_refl _,heap_alloc_new w _,Nat.le_refl _,by simp[maxLen];omega,by simp,by simp only[Nat.mul_one];rw[List.take_of_length_le (by simp)]⟩⟩
theorem below_bytes (w:World) (e:TypeId) (s:ByteArray):Below w.heap.size w (Lib.bytesWorld w e s):=
 ⟨rfl,rfl,rfl,by rw[Lib.bytesWorld_size];omega,fun k hk=>Lib.bytesWorld_at_old w e s k hk⟩
theorem u8_C_bytes (w:World) (e:TypeId) (s:ByteArray) (hs:s.size≤9223372036854775807):u8.C (Lib.bytesWorld w e s) (some ⟨w.heap.size,0,none⟩) (byt s).length (byt s):=by
 refine ⟨rfl,by rw[byt_length];exact hs,fun _=>⟨_,rfl,fun j p hp=>⟨[encB p],rfl,rfl,fun i u hu=>?_⟩⟩⟩
 have hi:i=0:=by
  rcases i with _ | i
  ·rfl
  ·simp at hu
 subst hi
 simp only[List.getElem?_cons_zero,Option.some.injEq] at hu
 subst hu
 have e1:(⟨w.heap.size,0,none⟩:Addr).add (j*u8.sz+0)=⟨w.heap.size,j,none⟩:=by
  rw[add_plain];show (⟨w.heap.size,j*1+0,none⟩:Addr)=_;simp
 rw[e1]
 have hj:j<s.size:=by rw[← byt_length];exact (List.getElem?_eq_some_iff.1 hp).1
 rw[Lib.bytesWorld_cell w e s j hj]
 simp only[byt] at hp
 simp only[List.getD,hp]
 rfl
theorem below_drew (B:Nat) (w:World):Below B w w.drew:=⟨rfl,rfl,rfl,Nat.le_refl _,fun _ _=>rfl⟩
theorem str_C_lit (w:World) (l:List ByteArray) (e:TypeId) (hn:l.length≤9223372036854775807):Kd.string.C (w.alloc (.cells (l.map Value.string).toArray e)) (some ⟨w.heap.size,0,none⟩) l.length l:=by
 refine ⟨rfl,hn,fun _=>⟨_,rfl,fun j p hp=>⟨[.string p],rfl,rfl,fun i u hu=>?_⟩⟩⟩
 have hi:i=0:=by
  rcases i with _ | i
  ·rfl
  ·simp at hu
 subst hi
 simp only[List.getElem?_cons_zero,Option.some.injEq] at hu
 subst hu
 have e1:(⟨w.heap.size,0,none⟩:Addr).add (j*Kd.string.sz+0)=⟨w.heap.size,j,none⟩:=by
  rw[add_plain];show (⟨w.heap.size,j*1+0,none⟩:Addr)=_;simp
 rw[e1]
 have hh:=heap_alloc_new w (.cells (l.map Value.string).toArray e)
 unfold World.cell?
 simp only[hh]
 simp[hp]
theorem toList_inj {x y:ByteArray} (h:x.toList=y.toList):x=y:=by
 rw[ByteArray.toList_eq,ByteArray.toList_eq] at h
 have:=congrArg str h
 exact (str_byt x).symm.trans (this.trans (str_byt y))
theorem made_bytes (n:Nat):madeCells #[.int .u8 0] n=((List.replicate n (0:UInt8)).map encB).toArray:=by
 apply Array.ext
 ·simp[madeCells]
 ·intro i h1 h2
  simp[madeCells,encB,Nat.mod_one]
section
variable {P:Program} {ops:Array Oper} {rest:List Oper} {o:Oper} {a:Act} {Q:Exit→Act→World→Prop}
theorem str_append_row {W:World} (s x:Operand) (t e:TypeId) (v:Value) (xs ys:List ByteArray) (A:Option Addr) (m c:Nat) (base:Nat)
  (hgd:o.guard=none) (ho:o.op = .call { callee:=.builtin .append,args:=#[s,x],argTypes:=#[t,t] })
  (ht:P.underlying t=some (.slice e)) (hinfo:(P.info? e).map (fun i=>(i.zero,i.size,i.bytes))=some (some (.string ByteArray.empty),1,16))
  (hs:a.eval s=v) (hx:a.eval x = .slice A m c)
  (HO:Kd.string.R e W base (fun _=>True) v xs) (HR:Kd.string.C W A m ys) (hbase:base≤W.heap.size) (hl:xs.length+m≤1099511627776)
  (h:∀ v1 w1,Kd.string.R e w1 base (fun _=>True) v1 (xs++ys)→Below base W w1→W.grownBy w1 v.ownBlock→(v1.ownBlock=v.ownBlock∨∃ b,v1.ownBlock=some b∧W.heap.size≤b)→wpList P ops Q rest (a.put o.dst v1) w1) :
  wpList P ops Q (o :: rest) a W:=
 Kd.R_append_row Value.string ByteArray.empty (w0:=W) base hgd s x t e (.string ByteArray.empty) 16 ho ht hinfo rfl (by decide) v xs ys A m c (fun _=>True) hs hx (fun _ _=>trivial) HO HR (Below.refl _ _) hbase (by omega) h
end
theorem sc_open {α:Type} {enc:α→Value} {h1:∀ x,(enc x).oneCell'=true} {w:World} {A:Option Addr} {n:Nat} {l:List α} (h:(Kd.scalar enc h1).C w A n l) (hn:0<l.length) :
  ∃ b o,A=some ⟨b,o,none⟩∧∀ k (hk:k<l.length),w.cell? ⟨b,o+k,none⟩=some (enc l[k]):=by
 obtain ⟨ad,rfl,hc⟩:=h.2.2 (by have:=h.1;omega)
 have hx:∀ k (hk:k<l.length),w.cell? (ad.add k)=some (enc l[k]):=fun k hk=>by
  obtain ⟨c,hl,hk',hcell⟩:=hc k _ (List.getElem?_eq_getElem hk)
  have hk2:c = [enc l[k]]:=hk'
  subst hk2
  have:=hcell 0 _ rfl
  have e1:k*(Kd.scalar enc h1).sz+0=k:=by show k*1+0=k;omega
  rwa [e1] at this
 have hs:ad.spot=none:=by
  have e0:ad.add 0=ad:=by simp[Addr.add]
  have:=hx 0 hn
  rw[e0] at this
  exact cell_plain this
 obtain ⟨b,o,sp⟩:=ad
 simp only at hs
 subst hs
 refine ⟨b,o,rfl,fun k hk=>?_⟩
 have e1:(⟨b,o,none⟩:Addr).add k=⟨b,o+k,none⟩:=by unfold Addr.add;split<;>simp_all
 have:=hx k hk
 rwa [e1] at this
end Go.Proofs.YtpiobnfakmmpdaaGreat.Lib0

import Derived.Test.YtplnodcbbcdcgaaGreatProg
import Derived.Laws.BitsLemmas
import Derived.Outline
import Derived.Test.YtplnodcbbcdcgaaGreatP01
set_option linter.unusedVariables false
set_option linter.unusedSimpArgs false
namespace Go.Proofs.YtplnodcbbcdcgaaGreat.Lib0
open Go.RowKit Go.Proofs.YtplnodcbbcdcgaaGreatW.PrintWords
def u8:Kd UInt8:=Kd.scalar (fun b:UInt8=>Value.int .u8 (b.toNat:Int)) (fun _=>rfl)
def encB (b:UInt8):Value:=.int .u8 (b.toNat:Int)
def bi (l:List UInt8):List Int:=l.map fun b=>(b.toNat:Int)
theorem bi_length (l:List UInt8):(bi l).length=l.length:=by simp[bi]
def str (l:List UInt8):ByteArray:=⟨l.toArray⟩
def byt (s:ByteArray):List UInt8:=s.data.toList
theorem byt_str (l:List UInt8):byt (str l)=l:=by simp[byt,str]
theorem str_byt (s:ByteArray):str (byt s)=s:=by simp[byt,str]
theorem byt_length (s:ByteArray):(byt s).length=s.size:=by simp[byt]
theorem str_size (l:List UInt8):(str l).size=l.length:=by rw[← byt_length,byt_str]
theorem str_inj {a b:List UInt8} (h:str a=str b):a=b:=by rw[← byt_str a,h,byt_str]
theorem u8_C_iff (w:World) (A:Option Addr) (n:Nat) (l:List UInt8):u8.C w A n l↔(Kd.int .u8).C w A n (bi l):=by
 unfold Kd.C ReadsRow
 simp only[bi_length]
 constructor
 ·rintro ⟨h1,h2,h3⟩
  refine ⟨h1,h2,fun hn=>?_⟩
  obtain ⟨ad,e,hc⟩:=h3 hn
  refine ⟨ad,e,fun j p hp=>?_⟩
  simp only[bi,List.getElem?_map,Option.map_eq_some_iff] at hp
  obtain ⟨b,hb,rfl⟩:=hp
  obtain ⟨c,hl,hk,hcell⟩:=hc j b hb
  exact ⟨c,hl,hk,hcell⟩
 ·rintro ⟨h1,h2,h3⟩
  refine ⟨h1,h2,fun hn=>?_⟩
  obtain ⟨ad,e,hc⟩:=h3 hn
  refine ⟨ad,e,fun j p hp=>?_⟩
  obtain ⟨c,hl,hk,hcell⟩:=hc j (p.toNat:Int) (by simp[bi,hp])
  exact ⟨c,hl,hk,hcell⟩
theorem u8_at {w:World} {A:Option Addr} {n:Nat} {l:List UInt8} (h:u8.C w A n l) (k:Nat) (hk:k<l.length) :
  ∃ ad,A=some ad∧w.cell? (ad.add k)=some (.int .u8 ((l[k]).toNat:Int)):=by
 obtain ⟨ad,e,hc⟩:=h.2.2 (by have:=h.1;omega)
 obtain ⟨c,hl,hk',hcell⟩:=hc k _ (List.getElem?_eq_getElem hk)
 refine ⟨ad,e,?_⟩
 have hk2:c = [.int .u8 ((l[k]).toNat:Int)]:=hk'
 subst hk2
 have:=hcell 0 _ rfl
 have e1:k*u8.sz+0=k:=by show k*1+0=k;omega
 rwa [e1] at this
theorem cell_plain {w:World} {a:Addr} {v:Value} (h:w.cell? a=some v):a.spot=none:=by
 unfold World.cell? at h
 split at h
 ·split at h
  ·simp at h
  ·rename_i h1;simpa using h1
 ·simp at h
theorem u8_open {w:World} {A:Option Addr} {n:Nat} {l:List UInt8} (h:u8.C w A n l) (hn:0<l.length) :
  ∃ b o,A=some ⟨b,o,none⟩∧∀ k (hk:k<l.length),w.cell? ⟨b,o+k,none⟩=some (.int .u8 ((l[k]).toNat:Int)):=by
 obtain ⟨ad,rfl,hx⟩:=u8_at h 0 hn
 have hs:ad.spot=none:=by
  have e0:ad.add 0=ad:=by simp[Addr.add]
  rw[e0] at hx
  exact cell_plain hx
 obtain ⟨b,o,sp⟩:=ad
 simp only at hs
 subst hs
 refine ⟨b,o,rfl,fun k hk=>?_⟩
 obtain ⟨ad,e,hx⟩:=u8_at h k hk
 cases e
 have e1:(⟨b,o,none⟩:Addr).add k=⟨b,o+k,none⟩:=by unfold Addr.add;split<;>simp_all
 rwa [e1] at hx
theorem u8_len {w:World} {A:Option Addr} {n:Nat} {l:List UInt8} (h:u8.C w A n l):l.length≤9223372036854775807:=by have:=h.1;have:=h.2.1;omega
theorem u8_C_lit (w:World) (l:List UInt8) (e:TypeId) (hn:l.length≤9223372036854775807):u8.C (w.alloc (.cells (l.map encB).toArray e)) (some ⟨w.heap.size,0,none⟩) l.length l:=by
 refine ⟨rfl,hn,fun _=>⟨_,rfl,fun j p hp=>⟨[encB p],rfl,rfl,fun i u hu=>?_⟩⟩⟩
 have hi:i=0:=by
  rcases i with _ | i
  ·rfl
  ·simp at hu
 subst hi
 simp only[List.getElem?_cons_zero,Option.some.injEq] at hu
 subst hu
 have e1:(⟨w.heap.size,0,none⟩:Addr).add (j*u8.sz+0)=⟨w.heap.size,j,none⟩:=by
  rw[add_plain];show (⟨w.heap.size,j*1+0,none⟩:Addr)=_;simp
 rw[e1]
 have hh:=heap_alloc_new w (.cells (l.map encB).toArray e)
 unfold World.cell?
 simp only[hh]
 simp[hp]
section
variable {P:Program} {ops:Array Oper} {rest:List Oper} {o:Oper} {a:Act} {Q:Exit→Act→World→Prop}
theorem u8_append {W:World} (s x:Operand) (t e:TypeId) (v:Value) (xs ys:List UInt8) (A:Option Addr) (m c:Nat) (base:Nat)
  (hgd:o.guard=none) (ho:o.op = .call { callee:=.builtin .append,args:=#[s,x],argTypes:=#[t,t] })
  (ht:P.underlying t=some (.slice e)) (hinfo:(P.info? e).map (fun i=>(i.zero,i.size,i.bytes))=some (some (.int .u8 0),1,1))
  (hs:a.eval s=v) (hx:a.eval x = .slice A m c)
  (HO:u8.R e W base (fun _=>True) v xs) (HR:u8.C W A m ys) (hbase:base≤W.heap.size) (hl:xs.length+m≤140737488355328)
  (h:∀ v1 w1,u8.R e w1 base (fun _=>True) v1 (xs++ys)→Below base W w1→W.grownBy w1 v.ownBlock→(v1.ownBlock=v.ownBlock∨∃ b,v1.ownBlock=some b∧W.heap.size≤b)→wpList P ops Q rest (a.put o.dst v1) w1) :
  wpList P ops Q (o :: rest) a W:=
 Kd.R_append_row encB 0 (w0:=W) base hgd s x t e (.int .u8 0) 1 ho ht hinfo rfl (by decide) v xs ys A m c (fun _=>True) hs hx (fun _ _=>trivial) HO HR (Below.refl _ _) hbase (by omega) h
end
theorem R_base {α:Type} {d:Kd α} {e:Nat} {w:World} {base:Nat} {ok:Nat→Prop} {v:Value} {l:List α} (h:d.R e w base ok v l):∀ k,v.ownBlock=some k→base≤k:=by
 obtain ⟨inner,ho⟩:=Kd.R_own h
 exact own_base ho
theorem below_grew {α:Type} {d:Kd α} {e:Nat} {w0 w w1:World} {base:Nat} {ok:Nat→Prop} {v:Value} {l:List α} (hb:Below base w0 w) (h:d.R e w base ok v l) (hg:w.grownBy w1 v.ownBlock) (hs:base≤w.heap.size):Below base w0 w1:=
 hb.grown hg hs (R_base h)
theorem sl_drop {α:Type} {P:Program} (d:Kd α) (t e:TypeId) {sz by_:Nat} {z:Option Value} (kl:IntKind) (ht:P.underlying t=some (.slice e)) (hinfo:(P.info? e).map (fun i=>(i.zero,i.size,i.bytes))=some (z,sz,by_)) (hsz:sz=d.sz) (A:Option Addr) (xs:List α) (c:Nat) (m:Int) (h0:0≤m) (hm:m≤xs.length) (hc:xs.length≤c) :
  ∃ A' c',(∀ W:World,(Instr.slice t (.slice A xs.length c) (some (.int kl m)) none none).run P W = .ok (.slice A' (xs.drop m.toNat).length c') W)∧(xs.drop m.toNat).length≤c'∧∀ W,d.C W A xs.length xs→d.C W A' (xs.drop m.toNat).length (xs.drop m.toNat):=by
 obtain ⟨i0,hi,hzz⟩:=Option.map_eq_some_iff.1 hinfo
 simp only[Prod.mk.injEq] at hzz
 obtain ⟨m,rfl⟩:=Int.eq_ofNat_of_zero_le h0
 simp only[Int.toNat_natCast]
 refine ⟨_,c-m,fun W=>?_,by rw[List.length_drop];omega,fun W h=>Kd.C_drop h (by omega) hc⟩
 have:=cut_from t e kl ht hi d.sz (hzz.2.1.trans hsz) A xs.length c (m:Int) (by omega) (by omega) W
 rw[this];simp
theorem sl_mid {α:Type} {P:Program} (d:Kd α) (t e:TypeId) {sz by_:Nat} {z:Option Value} (kl kh:IntKind) (ht:P.underlying t=some (.slice e)) (hinfo:(P.info? e).map (fun i=>(i.zero,i.size,i.bytes))=some (z,sz,by_)) (hsz:sz=d.sz) (A:Option Addr) (xs:List α) (c:Nat) (lo hi:Int) (h0:0≤lo) (h1:lo≤hi) (hm:hi≤xs.length) (hc:xs.length≤c) :
  ∃ A' c',(∀ W:World,(Instr.slice t (.slice A xs.length c) (some (.int kl lo)) (some (.int kh hi)) none).run P W = .ok (.slice A' ((xs.take hi.toNat).drop lo.toNat).length c') W)∧((xs.take hi.toNat).drop lo.toNat).length≤c'∧∀ W,d.C W A xs.length xs→d.C W A' ((xs.take hi.toNat).drop lo.toNat).length ((xs.take hi.toNat).drop lo.toNat):=by
 obtain ⟨i0,hi0,hzz⟩:=Option.map_eq_some_iff.1 hinfo
 simp only[Prod.mk.injEq] at hzz
 obtain ⟨lo,rfl⟩:=Int.eq_ofNat_of_zero_le h0
 obtain ⟨hi,rfl⟩:=Int.eq_ofNat_of_zero_le (Int.le_trans h0 h1)
 simp only[Int.toNat_natCast]
 refine ⟨_,c-lo,fun W=>?_,by rw[List.length_drop,List.length_take];omega,fun W h=>Kd.C_mid h (by omega) (by omega) hc⟩
 have:=cut_mid t e kl kh ht hi0 d.sz (hzz.2.1.trans hsz) A xs.length c (lo:Int) (hi:Int) (by omega) h1 hm hc W
 rw[this];simp;omega
theorem R_empty {α:Type} (d:Kd α) (e:Nat) (w:World):d.R e (w.alloc (.cells #[] e)) w.heap.size (fun _=>True) (.slice (some ⟨w.heap.size,0,none⟩) 0 0) []:=
 ⟨fun _ _=>trivial,[],⟨by simp,.inr ⟨w.heap.size,0,#[],rfl,Nat.le_refl _,heap_alloc_new w _,Nat.le_refl _,by simp[maxLen],by simp,by simp⟩⟩,Reps.none _ _⟩
theorem u32_all:(if IntKind.u32.signed=true then (-1:Int) else IntKind.u32.max)=4294967295:=by rfl
theorem info_u8:(Tryz.prog.info? 5).map (fun i=>(i.zero,i.size,i.bytes))=some (some (.int .u8 0),1,1):=by kernel_rfl
theorem grown_alloc {w w1:World} {o:Obj} {row:Option Nat} (h:(w.alloc o).grownBy w1 row):w.grownBy w1 row:=World.grownBy.trans (World.grownBy_alloc w o row) h
theorem u8_R_len {e:Nat} {w:World} {base:Nat} {ok:Nat→Prop} {v:Value} {l:List UInt8} (h:u8.R e w base ok v l):∃ A c,v = .slice A l.length c∧l.length≤c∧u8.C w A l.length l:=Kd.R_reads h
end Go.Proofs.YtplnodcbbcdcgaaGreat.Lib0
namespace Go.Proofs.YtplnodcbbcdcgaaGreat.Lib0
open Go.RowKit Go.Proofs.YtplnodcbbcdcgaaGreatW.PrintWords
attribute [local go_sem] u32_all
def crcBit (c:Int):Int:=if (Go.bits .and .u32 c 1)=1 then Go.bits .xor .u32 (c/2) 2197175160 else c/2
def crcIter:Nat→Int→Int
 | 0,c=>c
 | n+1,c=>crcIter n (crcBit c)
def crcFold:List UInt8→Int→Int
 | [],c=>c
 | b :: l,c=>crcFold l (crcIter 8 (Go.bits .xor .u32 c (b.toNat:Int)))
def crc (l:List UInt8):Int:=Go.bits .xor .u32 4294967295 (crcFold l 4294967295)
theorem crcFold_snoc (l:List UInt8) (b:UInt8) (c:Int):crcFold (l++[b]) c=crcIter 8 (Go.bits .xor .u32 (crcFold l c) (b.toNat:Int)):=by
 induction l generalizing c with
 | nil=>rfl
 | cons x l ih=>exact ih _
theorem crcIter_succ (n:Nat) (c:Int):crcIter (n+1) c=crcBit (crcIter n c):=by
 induction n generalizing c with
 | zero=>rfl
 | succ n ih=>exact ih _
set_option maxHeartbeats 800000 in
theorem sum_Crc (A:Option Addr) (c:Nat) (l:List UInt8) (w:World) (h:u8.C w A l.length l) :
  Calls Tryz.prog 46 #[.slice A l.length c] w fun e w'=>e = .returned (.int .u32 (crc l))∧w=w':=by
 have hn:=u8_len h
 have HC:=mk0 h
 clear h
 go_enter Tryz.func46,Tryz.ntmps46
 go_wp2
 go_loop [3,9] (fun v3 v9=>∃ k:Nat,k≤l.length∧v9 = .int .i64 k∧v3 = .int .u32 (crcFold (l.take k) 4294967295)) (fun _ i=>l.length-(intOf i).toNat)
 case atStart=>exact ⟨0,by omega,rfl,rfl⟩
 case round=>
  obtain ⟨k,hk,rfl,rfl⟩:=hrel
  by_cases hlt:k<l.length
  ·obtain ⟨ad,hA,hx⟩:=u8_at HC.out k hlt
   subst hA
   have HT:=mk0 (show crcFold (l.take (k+1)) 4294967295=crcIter 8 (Go.bits .xor .u32 (crcFold (l.take k) 4294967295) (l[k].toNat:Int)) by
    rw[List.take_succ_eq_append_getElem hlt,crcFold_snoc])
   have hb:(l[k].toNat:Int)<256:=by have:=l[k].toNat_lt;omega
   have hb0:0≤(l[k].toNat:Int):=by omega
   generalize (l[k].toNat:Int)=x at *
   generalize crcFold (l.take k) 4294967295=c0 at *
   go_wp2
   go_loop [3,17] (fun v3 v17=>∃ j:Nat,j≤8∧v17 = .int .i64 j∧v3 = .int .u32 (crcIter j (Go.bits .xor .u32 c0 x))) (fun _ i=>8-(intOf i).toNat)
   case atStart=>exact ⟨0,by omega,rfl,by simp[crcIter]⟩
   case round=>
    obtain ⟨j,hj,rfl,rfl⟩:=hrel
    by_cases hlt2:j<8
    ·have HS:=mk0 (crcIter_succ j (Go.bits .xor .u32 c0 x))
     generalize crcIter j (Go.bits .xor .u32 c0 x)=c1 at *
     by_cases hb1:Go.bits .and .u32 c1 1=1
     ·have hb2:(Go.bits .and .u32 c1 1==1)=true:=by simp[hb1]
      have HB:=mk0 hb1
      clear hb1
      go_wp2
      go_round
      case rel=>exact ⟨j+1,by omega,by go_num,by rw[HS.out,crcBit,if_pos HB.out]⟩
      case measure=>simp[intOf];omega
     ·have hb2:(Go.bits .and .u32 c1 1==1)=false:=by simp[hb1]
      have HB:=mk0 hb1
      clear hb1
      go_wp2
      go_round
      case rel=>exact ⟨j+1,by omega,by go_num,by rw[HS.out,crcBit,if_neg HB.out]⟩
      case measure=>simp[intOf];omega
    ·obtain rfl:j=8:=by omega
     go_wp2
     go_round
     case rel=>exact ⟨k+1,by omega,by go_num,by rw[HT.out]⟩
     case measure=>simp[intOf];omega
  ·obtain rfl:k=l.length:=by omega
   go_wp2
   go_ret
   exact ⟨by simp[crc],rfl⟩
end Go.Proofs.YtplnodcbbcdcgaaGreat.Lib0
namespace Go.Proofs.YtplnodcbbcdcgaaGreat.Lib0
open Go.RowKit Go.Proofs.YtplnodcbbcdcgaaGreatW.PrintWords
attribute [local go_sem] u32_all
def le4 (n:Nat):List UInt8:=[UInt8.ofNat n,UInt8.ofNat (n/256),UInt8.ofNat (n/65536),UInt8.ofNat (n/16777216)]
def un4 (a b c d:UInt8):Nat:=a.toNat+256*b.toNat+65536*c.toNat+16777216*d.toNat
theorem le4_enc (n:Int) (h0:0≤n):(le4 n.toNat).map encB = [.int .u8 (n%256),.int .u8 (n/256%256),.int .u8 (n/65536%256),.int .u8 (n/16777216%256)]:=by
 obtain ⟨m,rfl⟩:=Int.eq_ofNat_of_zero_le h0
 simp[le4,encB,UInt8.toNat_ofNat]
def Appended (T:TypeId) (w:World) (base:Nat) (v:Value) (r:List UInt8) (e:Ending) (w':World):Prop:=
 ∃ v',e = .returned v'∧u8.R T w' base (fun _=>True) v' r∧w.grownBy w' v.ownBlock∧(v'.ownBlock=v.ownBlock∨∃ b,v'.ownBlock=some b∧w.heap.size≤b)
set_option maxHeartbeats 800000 in
set_option maxRecDepth 100000 in
theorem block_put (v:Value) (l:List UInt8) (n:Int) (base:Nat) (w:World) (h0:0≤n) (hv:u8.R 5 w base (fun _=>True) v l) (hb:base≤w.heap.size) (hl:l.length≤1099511627776) :
  Calls Tryz.prog 45 #[v,.int .u32 n] w (Appended 5 w base v (l++le4 n.toNat)):=by
 have HL:=mk0 hl
 have HV:=mk0 hv
 have HC:=mk0 (u8_C_lit w (le4 n.toNat) 5 (by simp[le4]))
 rw[le4_enc n h0] at HC
 clear hl hv
 go_enter Tryz.func45,Tryz.ntmps45
 go_wp2_with (at_builtin;refine u8_append (.tmp 5) (.tmp 17) 23 5 v l (le4 n.toNat) _ _ _ base rfl rfl Tryz.underlying23 info_u8 rfl rfl (Kd.R_below HV.out ?c1) HC.out ?c2 ?c3 ?_)
 case c1=>exact below_alloc (Below.refl _ _) _
 case c2=>simp;omega
 case c3=>have:=HL.out;omega
 intro v1 w1 hr hb1 hg hat
 have HR:=mk0 hr
 have HG:=mk0 (grown_alloc hg)
 have HA:=mk0 hat
 clear hr hb1 hg hat
 go_wp2
 go_ret
 refine ⟨_,rfl,HR.out,HG.out,HA.out.imp id ?_⟩
 rintro ⟨b,h1,h2⟩
 exact ⟨b,h1,by first | omega | (simp at h2;omega)⟩
theorem or_u32 (a b i:Nat) (ha:a<2 ^ i) (hb:2 ^ i*b<4294967296) (h32:2 ^ i≤4294967296):Go.bits .or .u32 (a:Int) ((2 ^ i*b:Nat):Int)=((a+2 ^ i*b:Nat):Int):=by
 have hk:∀ n:Int,0≤n→n<2 ^ 32→IntKind.u32.wrap n=n:=fun n h0 h1=>by rw[IntKind.wrap_u32];omega
 rw[(bits_nat .u32 32 (Nat.le_refl _) hk a (2 ^ i*b) (by omega) (by omega)).2]
 rw[Nat.or_comm,← Nat.two_pow_add_eq_or_of_lt ha]
 omega
theorem or4 (b0 b1 b2 b3:UInt8):Go.bits .or .u32 (Go.bits .or .u32 (Go.bits .or .u32 (b0.toNat:Int) ((b1.toNat:Int)*256)) ((b2.toNat:Int)*65536)) ((b3.toNat:Int)*16777216)=(un4 b0 b1 b2 b3:Int):=by
 have q0:=b0.toNat_lt
 have q1:=b1.toNat_lt
 have q2:=b2.toNat_lt
 have q3:=b3.toNat_lt
 have e1:=or_u32 b0.toNat b1.toNat 8 (by omega) (by omega) (by omega)
 have e2:=or_u32 (b0.toNat+2 ^ 8*b1.toNat) b2.toNat 16 (by omega) (by omega) (by omega)
 have e3:=or_u32 (b0.toNat+2 ^ 8*b1.toNat+2 ^ 16*b2.toNat) b3.toNat 24 (by omega) (by omega) (by omega)
 rw[show (b1.toNat:Int)*256=((2 ^ 8*b1.toNat:Nat):Int) by omega,e1,show (b2.toNat:Int)*65536=((2 ^ 16*b2.toNat:Nat):Int) by omega,e2,
  show (b3.toNat:Int)*16777216=((2 ^ 24*b3.toNat:Nat):Int) by omega,e3]
 unfold un4
 omega
set_option maxHeartbeats 800000 in
set_option maxRecDepth 100000 in
theorem block_get (A:Option Addr) (n c:Nat) (b0 b1 b2 b3:UInt8) (l:List UInt8) (w:World) (h:u8.C w A n (b0 :: b1 :: b2 :: b3 :: l)) :
  Calls Tryz.prog 74 #[.slice A n c] w fun e w'=>e = .returned (.int .u32 (un4 b0 b1 b2 b3))∧∃ k,w'=w.drewN k:=by
 obtain ⟨b,o,rfl,hx⟩:=u8_open h (by simp)
 have x0:=hx 0 (by simp)
 have x1:=hx 1 (by simp)
 have x2:=hx 2 (by simp)
 have x3:=hx 3 (by simp)
 simp only[List.getElem_cons_zero,List.getElem_cons_succ,Nat.add_zero] at x0 x1 x2 x3
 have hn:4≤n:=by have:=h.1;simp at this;omega
 have n1:(1:Int)<n:=by omega
 have n2:(2:Int)<n:=by omega
 have n3:(3:Int)<n:=by omega
 have m0:0<n:=by omega
 have m1:1<n:=by omega
 have m2:2<n:=by omega
 have m3:3<n:=by omega
 have p0:(0:Int)≤(b0.toNat:Int):=by omega
 have p1:(0:Int)≤(b1.toNat:Int):=by omega
 have p2:(0:Int)≤(b2.toNat:Int):=by omega
 have p3:(0:Int)≤(b3.toNat:Int):=by omega
 have q0:(b0.toNat:Int)<256:=by have:=b0.toNat_lt;omega
 have q1:(b1.toNat:Int)<256:=by have:=b1.toNat_lt;omega
 have q2:(b2.toNat:Int)<256:=by have:=b2.toNat_lt;omega
 have q3:(b3.toNat:Int)<256:=by have:=b3.toNat_lt;omega
 clear h hn hx
 go_enter Tryz.func74,Tryz.ntmps74
 go_wp2
 go_quiet (fail)
 go_wp2
 go_ret
 exact ⟨congrArg (fun x=>Ending.returned (.int .u32 x)) (or4 b0 b1 b2 b3),⟨_,rfl⟩⟩
def sealB (l:List UInt8):List UInt8:=le4 l.length++le4 (4294967295-l.length)++l++le4 (crc l).toNat
theorem crc_range (l:List UInt8):0≤crc l∧crc l<4294967296:=by
 unfold crc Go.bits
 simp only[IntKind.wrap_u32]
 omega
theorem not_u32 (n:Int) (h0:0≤n) (h1:n<4294967296):Go.bits .xor .u32 4294967295 n=4294967295-n:=by
 obtain ⟨m,rfl⟩:=Int.eq_ofNat_of_zero_le h0
 have hm:m<2 ^ 32:=by omega
 have h2:∀ x:BitVec 32,BitVec.allOnes 32 ^^^ x = ~~~ x:=fun x=>BitVec.allOnes_xor
 unfold Go.bits
 simp only[IntKind.wrap_u32]
 show (((BitVec.ofInt 32 4294967295 ^^^ BitVec.ofInt 32 (m:Int)).toNat:Nat):Int)%4294967296=_
 rw[show (BitVec.ofInt 32 4294967295)=BitVec.allOnes 32 from rfl,h2,BitVec.toNat_not,BitVec.ofInt_natCast,BitVec.toNat_ofNat,Nat.mod_eq_of_lt hm]
 omega
set_option maxHeartbeats 1600000 in
set_option maxRecDepth 100000 in
theorem block_Seal (A:Option Addr) (c:Nat) (l:List UInt8) (w:World) (h:u8.C w A l.length l) (hm:l.length≤1048576) :
  Calls Tryz.prog 26 #[.slice A l.length c] w fun e w'=>∃ v,e = .returned (.tuple #[v,.int .i64 0])∧u8.R 5 w' w.heap.size (fun _=>True) v (sealB l)∧Below w.heap.size w w':=by
 have HC:=mk0 h
 have hm1:(l.length:Int)≤1048576:=by omega
 have hm2:decide (1048576<(l.length:Int))=false:=by simp;omega
 have hm3:decide (1048576<l.length)=false:=by simp;omega
 clear h
 go_enter Tryz.func26,Tryz.ntmps26
 go_wp2_with fail
 refine (block_put (.slice none 0 0) [] l.length w.heap.size _ (by omega) (Kd.R_nil _ _ _ _ _) (Nat.le_refl _) (by simp)).mono ?_
 rintro e w1 ⟨v1,rfl,hr1,hg1,ha1⟩
 have B1:=mk0 (below_grew (Below.refl _ _) (Kd.R_nil u8 5 w w.heap.size (fun _=>True)) hg1 (Nat.le_refl _))
 have R1:=mk0 hr1
 have S1:=mk0 hg1.size
 clear hr1 hg1 ha1
 go_wp2_with fail
 have e1:=not_u32 (l.length:Int) (by omega) (by omega)
 simp only[e1]
 refine (block_put v1 _ _ w.heap.size _ (by omega) R1.out S1.out (by simp[le4])).mono ?_
 rintro e w2 ⟨v2,rfl,hr2,hg2,ha2⟩
 have B2:=mk0 (below_grew B1.out R1.out hg2 S1.out)
 have R2:=mk0 hr2
 have S2:=mk0 (Nat.le_trans S1.out hg2.size)
 clear hr2 hg2 ha2
 go_wp2_with (at_builtin;refine u8_append (.tmp 16) (.tmp 17) 23 5 v2 _ l _ _ _ w.heap.size rfl rfl Tryz.underlying23 info_u8 rfl rfl R2.out (Kd.C_below HC.out B2.out) S2.out (by simp[le4];omega) ?_)
 intro v3 w3 hr3 hb3 hg3 ha3
 have B3:=mk0 (below_grew B2.out R2.out hg3 S2.out)
 have R3:=mk0 hr3
 have S3:=mk0 (Nat.le_trans S2.out hg3.size)
 clear hr3 hb3 hg3 ha3
 go_wp2_with fail
 refine (sum_Crc A c l _ (Kd.C_below HC.out B3.out)).mono ?_
 rintro e w' ⟨rfl,rfl⟩
 go_wp2_with fail
 refine (block_put v3 _ _ w.heap.size _ (crc_range l).1 R3.out S3.out (by simp[le4];omega)).mono ?_
 rintro e w4 ⟨v4,rfl,hr4,hg4,ha4⟩
 have B4:=mk0 (below_grew B3.out R3.out hg4 S3.out)
 have R4:=mk0 hr4
 clear hr4 hg4 ha4
 go_wp2
 go_ret2
 refine ⟨v4,rfl,?_,B4.out⟩
 have e2:(4294967295-(l.length:Int)).toNat=4294967295-l.length:=by omega
 have:=R4.out
 simpa only[List.nil_append,Int.toNat_natCast,e2,sealB,List.append_assoc] using this
def openL (l:List UInt8) (at_:Int):List UInt8 × Int × Int:=
 match l with
 | b0 :: b1 :: b2 :: b3 :: c0 :: c1 :: c2 :: c3 :: t=>
  let n:=un4 b0 b1 b2 b3
  if (un4 c0 c1 c2 c3:Int)≠4294967295-n then ([],0,14)
  else if 1048576<n then ([],0,3)
  else if t.length<n+4 then ([],0,10)
  else match t.drop n with
   | d0 :: d1 :: d2 :: d3 :: _=>if (un4 d0 d1 d2 d3:Int)≠crc (t.take n) then ([],0,14) else (t.take n,at_+n+12,0)
   | _=>([],0,10)
 | _=>([],0,10)
def openB (b:List UInt8) (at_:Int):List UInt8 × Int × Int:=
 if at_<0∨(b.length:Int)<at_ then ([],0,1) else openL (b.drop at_.toNat) at_
theorem eight (l:List UInt8) (h:8≤l.length):∃ b0 b1 b2 b3 c0 c1 c2 c3 t,l=b0 :: b1 :: b2 :: b3 :: c0 :: c1 :: c2 :: c3 :: t:=by
 rcases l with _ | ⟨b0,_ | ⟨b1,_ | ⟨b2,_ | ⟨b3,_ | ⟨c0,_ | ⟨c1,_ | ⟨c2,_ | ⟨c3,t⟩⟩⟩⟩⟩⟩⟩⟩
 all_goals first | (simp at h;done) | exact ⟨_,_,_,_,_,_,_,_,_,rfl⟩
theorem four_ (l:List UInt8) (h:4≤l.length):∃ b0 b1 b2 b3 t,l=b0 :: b1 :: b2 :: b3 :: t:=by
 rcases l with _ | ⟨b0,_ | ⟨b1,_ | ⟨b2,_ | ⟨b3,t⟩⟩⟩⟩
 all_goals first | (simp at h;done) | exact ⟨_,_,_,_,_,rfl⟩
theorem openL_short (l:List UInt8) (at_:Int) (h:l.length<8):openL l at_=([],0,10):=by
 unfold openL
 split
 ·simp at h;omega
 ·rfl
def Told (T:TypeId) (w:World) (r:List UInt8 × Int × Int) (e:Ending) (w':World):Prop:=
 ∃ v,e = .returned (.tuple #[v,.int .i64 r.2.1,.int .i64 r.2.2])∧u8.R T w' w.heap.size (fun _=>True) v r.1∧Below w.heap.size w w'
theorem told_nil (T:TypeId) (w w':World) (hb:Below w.heap.size w w') (x y:Int):Told T w ([],x,y) (.returned (.tuple #[.slice none 0 0,.int .i64 x,.int .i64 y])) w':=
 ⟨_,rfl,Kd.R_nil _ _ _ _ _,hb⟩
theorem openL_eight (b0 b1 b2 b3 c0 c1 c2 c3:UInt8) (t:List UInt8) (at_:Int):openL (b0 :: b1 :: b2 :: b3 :: c0 :: c1 :: c2 :: c3 :: t) at_ =
  if (un4 c0 c1 c2 c3:Int)≠4294967295-(un4 b0 b1 b2 b3:Nat) then (([],0,14):List UInt8 × Int × Int) else if 1048576<un4 b0 b1 b2 b3 then ([],0,3) else if t.length<un4 b0 b1 b2 b3+4 then ([],0,10)
  else match t.drop (un4 b0 b1 b2 b3) with
   | d0 :: d1 :: d2 :: d3 :: _=>if (un4 d0 d1 d2 d3:Int)≠crc (t.take (un4 b0 b1 b2 b3)) then ([],0,14) else (t.take (un4 b0 b1 b2 b3),at_+((un4 b0 b1 b2 b3:Nat):Int)+12,0)
   | _=>([],0,10):=rfl
theorem un4_lt (a b c d:UInt8):un4 a b c d<4294967296:=by
 have:=a.toNat_lt
 have:=b.toNat_lt
 have:=c.toNat_lt
 have:=d.toNat_lt
 unfold un4
 omega
set_option maxHeartbeats 1600000 in
set_option maxRecDepth 100000 in
theorem block_Open_in (A:Option Addr) (c:Nat) (l:List UInt8) (at_:Int) (w:World) (h:u8.C w A l.length l) (hc:l.length≤c) (h0:0≤at_) (h1:at_≤l.length) :
  Calls Tryz.prog 51 #[.slice A l.length c,.int .i64 at_] w (Told 5 w (openB l at_)):=by
 rw[openB,if_neg (by omega)]
 obtain ⟨A1,c1,hs1,hc1,hC1⟩:=sl_drop (P:=Tryz.prog) u8 23 5 .i64 Tryz.underlying23 info_u8 rfl A l c at_ h0 h1 hc
 have C1:=mk0 (hC1 w h)
 have hl63:=u8_len h
 have HN:=mk0 (show ((l.drop at_.toNat).length:Int)+at_=l.length by rw[List.length_drop];omega)
 clear hC1 h
 have h2:¬ at_<0:=by omega
 have h3:¬ (l.length:Int)<at_:=by omega
 generalize l.drop at_.toNat=l1 at *
 by_cases h8:l1.length<8
 ·rw[openL_short l1 at_ h8]
  have h8':(l1.length:Int)<8:=by omega
  go_enter Tryz.func51,Tryz.ntmps51
  go_wp2_with fail
  go_ret3
  exact told_nil _ _ _ (Below.refl _ _) _ _
 ·obtain ⟨b0,b1,b2,b3,d0,d1,d2,d3,t,rfl⟩:=eight l1 (by omega)
  have hsz:=u8_len C1.out
  have h8':¬ ((b0 :: b1 :: b2 :: b3 :: d0 :: d1 :: d2 :: d3 :: t).length:Int)<8:=by omega
  obtain ⟨A2,c2,hs2,hc2,hC2⟩:=sl_drop (P:=Tryz.prog) u8 23 5 .i64 Tryz.underlying23 info_u8 rfl A1 (b0 :: b1 :: b2 :: b3 :: d0 :: d1 :: d2 :: d3 :: t) c1 4 (by omega) (by omega) hc1
  have C2:=mk0 (hC2 w C1.out)
  have hlen:(b0 :: b1 :: b2 :: b3 :: d0 :: d1 :: d2 :: d3 :: t).length=t.length+8:=by simp
  have hdr:List.drop (4:Int).toNat (b0 :: b1 :: b2 :: b3 :: d0 :: d1 :: d2 :: d3 :: t)=d0 :: d1 :: d2 :: d3 :: t:=rfl
  rw[hdr] at hs2 hc2 C2
  clear hC2 hdr
  generalize (b0 :: b1 :: b2 :: b3 :: d0 :: d1 :: d2 :: d3 :: t).length=n1 at *
  generalize (d0 :: d1 :: d2 :: d3 :: t).length=n2 at *
  have HLEN:=mk0 hlen
  clear hlen
  have hu:=un4_lt b0 b1 b2 b3
  go_enter Tryz.func51,Tryz.ntmps51
  go_wp2_with fail
  refine (block_get A1 n1 c1 b0 b1 b2 b3 _ _ C1.out).mono ?_
  rintro e w1 ⟨rfl,k1,rfl⟩
  go_wp2_with fail
  refine (block_get A2 n2 c2 d0 d1 d2 d3 t _ (Kd.C_below C2.out (Drawn0.below (Drawn0.step (Drawn0.refl _) _)))).mono ?_
  rintro e w2 ⟨rfl,k2,rfl⟩
  have e1:=not_u32 (un4 b0 b1 b2 b3:Int) (by omega) (by omega)
  have B2:=mk0 (Drawn0.below (Drawn0.step (Drawn0.step (Drawn0.refl w) k1) k2))
  clear C2 hs2 hc2
  generalize (w.drewN k1).drewN k2=w2 at *
  have C1':=mk0 (Kd.C_below C1.out B2.out)
  clear C1
  have HE:=openL_eight b0 b1 b2 b3 d0 d1 d2 d3 t at_
  have H1:=mk0 HE
  clear HE
  generalize openL (b0 :: b1 :: b2 :: b3 :: d0 :: d1 :: d2 :: d3 :: t) at_=r at *
  generalize un4 d0 d1 d2 d3=m at *
  generalize un4 b0 b1 b2 b3=n at *
  by_cases hne:(m:Int)=4294967295-(n:Nat)
  ·have H2:=H1.out
   rw[if_neg (by omega)] at H2
   replace H1:=mk0 H2
   clear H2
   have hb1:((m:Int) != 4294967295-(n:Nat))=false:=by simp[hne]
   clear hne
   by_cases hbig:1048576<n
   ·have H2:=H1.out
    rw[if_pos hbig] at H2
    replace H1:=mk0 H2
    clear H2
    have hbig':(1048576:Int)<n:=by omega
    go_wp2
    go_ret3
    rw[H1.out]
    exact told_nil _ _ _ B2.out _ _
   have H2:=H1.out
   rw[if_neg hbig] at H2
   replace H1:=mk0 H2
   clear H2
   have hbig':(n:Int)≤1048576:=by omega
   by_cases hsh:t.length<n+4
   ·have H2:=H1.out
    rw[if_pos hsh] at H2
    replace H1:=mk0 H2
    clear H2
    have hsh':(n1:Int)-8-4<n:=by have:=HLEN.out;omega
    clear hsh
    go_wp2
    go_ret3
    rw[H1.out]
    exact told_nil _ _ _ B2.out _ _
   have H2:=H1.out
   rw[if_neg hsh] at H2
   replace H1:=mk0 H2
   clear H2
   have hsh':¬ (n1:Int)-8-4<n:=by have:=HLEN.out;omega
   have hlen1:(b0 :: b1 :: b2 :: b3 :: d0 :: d1 :: d2 :: d3 :: t).length=n1:=C1'.out.1
   have hn8:n+12≤n1:=by have:=HLEN.out;omega
   obtain ⟨A3,c3,hs3,hc3,hC3⟩:=sl_drop (P:=Tryz.prog) u8 23 5 .i64 Tryz.underlying23 info_u8 rfl A1 (b0 :: b1 :: b2 :: b3 :: d0 :: d1 :: d2 :: d3 :: t) c1 (8+(n:Int)) (by omega) (by omega) (by omega)
   obtain ⟨A4,c4,hs4,hc4,hC4⟩:=sl_mid (P:=Tryz.prog) u8 23 5 .i64 .i64 Tryz.underlying23 info_u8 rfl A1 (b0 :: b1 :: b2 :: b3 :: d0 :: d1 :: d2 :: d3 :: t) c1 8 (8+(n:Int)) (by omega) (by omega) (by omega) (by omega)
   rw[hlen1] at hs3 hC3 hs4 hC4
   have C3:=mk0 (hC3 w2 C1'.out)
   have C4:=mk0 (hC4 w2 C1'.out)
   have et:(8+(n:Int)).toNat=n+8:=by omega
   have ed:(b0 :: b1 :: b2 :: b3 :: d0 :: d1 :: d2 :: d3 :: t).drop (n+8)=t.drop n:=rfl
   have em:((b0 :: b1 :: b2 :: b3 :: d0 :: d1 :: d2 :: d3 :: t).take (n+8)).drop (8:Int).toNat=t.take n:=rfl
   rw[et,ed] at hs3 C3 hc3
   rw[et,em] at hs4 C4 hc4
   clear hC3 hC4 et ed em hlen1
   obtain ⟨x0,x1,x2,x3,t2,ht2⟩:=four_ (t.drop n) (by rw[List.length_drop];omega)
   have H2:=H1.out
   rw[ht2] at H2 C3 hs3 hc3
   simp only[] at H2
   replace H1:=mk0 H2
   have HT:=mk0 (show t.length=n+(t2.length+4) by have:=congrArg List.length ht2;simp at this;omega)
   have HLT:=mk0 (show (t.take n).length=n by rw[List.length_take];omega)
   clear H2 ht2
   generalize t.take n=body at *
   generalize hn3:(x0 :: x1 :: x2 :: x3 :: t2).length=n3 at *
   clear hn3
   go_wp2_with fail
   go_quiet ((first | (go_at_call 74;refine Calls.quiet_of (block_get A3 n3 c3 x0 x1 x2 x3 t2 _ (Kd.C_below C3.out (Drawn0.below (Drawn0.step (Drawn0.refl _) _))))) | (go_at_call 46;refine Calls.quiet_of_same ((sum_Crc A4 c4 body _ (Kd.C_below C4.out (Drawn0.below (Drawn0.step (Drawn0.refl _) _)))).mono fun e w' h=>⟨h.1,h.2.symm⟩))))
   have B3:=mk0 (B2.out.trans ((Drawn0.below (Drawn0.step (Drawn0.refl w2) nq)).mono B2.out.size))
   have C4':=mk0 (Kd.C_below C4.out (Drawn0.below (Drawn0.step (Drawn0.refl w2) nq)))
   clear C4
   generalize w2.drewN nq=w3 at *
   generalize un4 x0 x1 x2 x3=mm at *
   generalize hcr:crc body=cr at *
   clear hcr
   by_cases hcc:(mm:Int)=cr
   ·have hb2:((mm:Int) != cr)=false:=by simp[hcc]
    have H2:=H1.out
    rw[if_neg (by omega)] at H2
    replace H1:=mk0 H2
    clear hcc H2
    have hz:at_+(8+(n:Int))+4≤l.length:=by have:=HN.out;omega
    go_wp2_with (at_builtin;refine u8_append (.tmp 56) (.tmp 59) 23 5 (.slice (some ⟨w3.heap.size,0,none⟩) 0 0) [] body _ _ _ w3.heap.size rfl rfl Tryz.underlying23 info_u8 rfl rfl (R_empty u8 5 w3) (Kd.C_below C4'.out (below_alloc (Below.refl _ _) _)) ?c1 ?c2 ?_)
    case c1=>simp
    case c2=>have:=HLT.out;simp;omega
    intro v1 w5 hr5 hb5 hg5 ha5
    have R5:=mk0 hr5
    have B5:=mk0 (B3.out.trans (((below_alloc (Below.refl w3.heap.size w3) (.cells #[] 5)).trans hb5).mono B3.out.size))
    have S5:=mk0 B3.out.size
    clear hr5 hb5 hg5 ha5
    go_wp2
    go_ret3
    rw[H1.out]
    refine ⟨v1,?_,Kd.R_lower R5.out S5.out,B5.out⟩
    rw[show at_+(8+(n:Int))+4=at_+n+12 by omega]
    rfl
   ·have hb2:((mm:Int) != cr)=true:=by simpa using hcc
    have H2:=H1.out
    rw[if_pos hcc] at H2
    replace H1:=mk0 H2
    clear hcc H2
    go_wp2
    go_ret3
    rw[H1.out]
    exact told_nil _ _ _ B3.out _ _
  ·have hb1:((m:Int) != 4294967295-(n:Nat))=true:=by simpa using hne
   have H2:=H1.out
   rw[if_pos hne] at H2
   replace H1:=mk0 H2
   clear hne H2
   go_wp2
   go_ret3
   rw[H1.out]
   exact told_nil _ _ _ B2.out _ _
end Go.Proofs.YtplnodcbbcdcgaaGreat.Lib0

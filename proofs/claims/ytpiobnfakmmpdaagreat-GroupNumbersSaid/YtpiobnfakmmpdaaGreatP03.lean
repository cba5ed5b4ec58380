import Derived.Test.YtpiobnfakmmpdaaGreatP02
set_option linter.unusedVariables false
set_option linter.unusedSimpArgs false
namespace Go.Proofs.YtpiobnfakmmpdaaGreat.Lib0
open Go.RowKit Go.Proofs.YtpiobnfakmmpdaaGreatW.PrintWords Go.ChangeMaps
def putV (n:Nat):List UInt8:=if n≤127 then [UInt8.ofNat n] else (UInt8.ofNat n ||| 128) :: putV (n/128)
termination_by n
decreasing_by omega
theorem putV_small {n:Nat} (h:n≤127):putV n = [UInt8.ofNat n]:=by rw[putV,if_pos h]
theorem putV_great {n:Nat} (h:¬ n≤127):putV n=(UInt8.ofNat n ||| 128) :: putV (n/128):=by rw[putV,if_neg h]
theorem putV_len:∀ (k n:Nat),n<128 ^ (k+1)→(putV n).length≤k+1
 | 0,n,h=>by rw[putV_small (by omega)];simp
 | k+1,n,h=>by
  by_cases h1:n≤127
  ·rw[putV_small h1];simp
  ·rw[putV_great h1,List.length_cons]
   have:=putV_len k (n/128) (by rw[Nat.pow_succ] at h;omega)
   omega
theorem putV_len10 {n:Nat} (h:n<18446744073709551616):(putV n).length≤10:=by
 have h2:(128:Nat) ^ (9+1)=1180591620717411303424:=by decide
 exact putV_len 9 n (by omega)
theorem putV_pos (n:Nat):0<(putV n).length:=by
 by_cases h:n≤127
 ·rw[putV_small h];simp
 ·rw[putV_great h];simp
section
variable {P:Program} {ops:Array Oper} {rest:List Oper} {o:Oper} {a:Act} {Q:Exit→Act→World→Prop}
theorem u8_append1 {W:World} (s x:Operand) (t e:TypeId) (v:Value) (xs:List UInt8) (p:UInt8) (n:Int) (hn:n=(p.toNat:Int)) (base:Nat)
  (hgd:o.guard=none) (ho:o.op = .call { callee:=.builtin .append,args:=#[s,x],argTypes:=#[t,t] })
  (ht:P.underlying t=some (.slice e)) (hinfo:(P.info? e).map (fun i=>(i.zero,i.size,i.bytes))=some (some (.int .u8 0),1,1))
  (hs:a.eval s=v) (hx:a.eval x = .slice (some ⟨W.heap.size,0,none⟩) 1 1)
  (HO:u8.R e W base (fun _=>True) v xs) (hbase:base≤W.heap.size) (hl:xs.length≤1099511627776)
  (h:∀ v1 w1,u8.R e w1 base (fun _=>True) v1 (xs++[p])→Below base W w1→W.grownBy w1 v.ownBlock→(v1.ownBlock=v.ownBlock∨∃ b,v1.ownBlock=some b∧W.heap.size≤b)→wpList P ops Q rest (a.put o.dst v1) w1) :
  wpList P ops Q (o :: rest) a (W.alloc (.cells #[.int .u8 n] e)):=by
 subst hn
 exact Kd.R_append u8 (w0:=W) base hgd s x t e (.int .u8 0) 1 ho ht hinfo rfl (by decide) (by decide) v xs p [.int .u8 (p.toNat:Int)] (fun _=>True) (fun _=>False) hs hx rfl (fun _ hk=>hk.elim) (fun _ _=>trivial)
  HO (Below.refl _ _) hbase (by omega) h
end
theorem or_u8 (a b:UInt8):Go.bits .or .u8 (a.toNat:Int) (b.toNat:Int)=((a ||| b).toNat:Int):=by
 have ha:=a.toNat_lt
 have hb:=b.toNat_lt
 unfold Go.bits
 simp only[IntKind.wrap_u8]
 show (((BitVec.ofInt 8 (a.toNat:Int) ||| BitVec.ofInt 8 (b.toNat:Int)).toNat:Nat):Int)%256=_
 rw[BitVec.ofInt_natCast,BitVec.ofInt_natCast,BitVec.toNat_or,BitVec.toNat_ofNat,BitVec.toNat_ofNat,Nat.mod_eq_of_lt ha,Nat.mod_eq_of_lt hb,UInt8.toNat_or]
 have:a.toNat ||| b.toNat<2 ^ 8:=Nat.or_lt_two_pow ha hb
 omega
set_option maxHeartbeats 1600000 in
set_option maxRecDepth 100000 in
theorem v_Put (A:Option Addr) (c:Nat) (l:List UInt8) (n:Nat) (w:World) (h:u8.C w A l.length l) (hl:l.length≤1099511627000) (hn:n<18446744073709551616) :
  Calls Tryz.prog 50 #[.slice A l.length c,.int .u64 n] w (Row 5 w (l++putV n)):=by
 have HC:=mk0 h
 have HL:=mk0 hl
 have HP:=mk0 (putV_len10 hn)
 have HN:=mk0 hn
 clear h hl hn
 go_enter Tryz.func50,Tryz.ntmps50
 go_wp2_with (at_builtin;go_loud (refine u8_append (.tmp 6) (.tmp 7) 22 5 (.slice (some ⟨w.heap.size,0,none⟩) 0 0) [] l _ _ _ w.heap.size rfl rfl Tryz.underlying22 info_u8 rfl rfl (R_empty u8 5 w) (Kd.C_below HC.out (below_alloc (Below.refl _ _) _)) ?c1 ?c2 ?_))
 case c1=>simp
 case c2=>have:=HL.out;simp;omega
 intro v1 w1 hr1 hb1 hg1 ha1
 have R1:=mk0 hr1
 have B1:=mk0 ((below_alloc (Below.refl w.heap.size w) (.cells #[] 5)).trans hb1)
 clear hr1 hb1 hg1 ha1
 go_wp2_with fail
 go_loopw[1,5] (fun v1 v5 wr=>∃ (m:Nat) (acc:List UInt8),v1 = .int .u64 m∧Aside0 (m≤n)∧Aside0 (acc++putV m=l++putV n)∧Aside0 (u8.R 5 wr w.heap.size (fun _=>True) v5 acc)∧Aside0 (Below w.heap.size w wr)) (fun v _ _=>(intOf v).toNat)
 case atStart=>exact ⟨n,l,rfl,⟨Nat.le_refl _⟩,⟨rfl⟩,⟨by simpa using R1.out⟩,B1⟩
 case round=>
  obtain ⟨m,acc,rfl,HM,HA,HR,HB⟩:=hrel
  obtain ⟨A5,c5,rfl,_,_⟩:=u8_R_len HR.out
  have HLA:=mk0 (show acc.length≤1099511627776 by have:=congrArg List.length HA.out;rw[List.length_append,List.length_append] at this;have:=HL.out;have:=HP.out;omega)
  obtain ⟨y,hy⟩:∃ y,y=UInt8.ofNat m:=⟨_,rfl⟩
  have hyb:(m:Int)%256=(y.toNat:Int):=by rw[hy,UInt8.toNat_ofNat'];omega
  by_cases hm:m≤127
  ·have hm2:¬ (127:Int)<m:=by omega
   have hyb2:(m:Int)=(y.toNat:Int):=by omega
   have HE:=mk0 (show l++putV n=acc++[y] by rw[← HA.out,putV_small hm,hy])
   have HYB:=mk0 hyb
   have HYB2:=mk0 hyb2
   clear hy hyb hyb2
   go_wp2_with (at_builtin;go_loud (refine u8_append1 (.tmp 19) (.tmp 22) 22 5 (.slice A5 acc.length c5) acc y _ ?c3 w.heap.size rfl rfl Tryz.underlying22 info_u8 rfl rfl HR.out HB.out.size HLA.out ?_))
   case c3=>first | exact HYB.out | exact HYB2.out
   intro v2 w2 hr2 hb2 hg2 ha2
   go_wp2
   go_ret
   exact ⟨_,rfl,by rw[HE.out];exact hr2,HB.out.trans hb2⟩
  ·have hm2:(127:Int)<m:=by omega
   obtain ⟨z,hz⟩:∃ z,z=y ||| 128:=⟨_,rfl⟩
   have hor:Go.bits .or .u8 ((m:Int)%256) 128=(z.toNat:Int):=by rw[hyb,hz,← or_u8];rfl
   have HE:=mk0 (show (acc++[z])++putV (m/128)=l++putV n by rw[← HA.out,putV_great hm,hz,hy];simp)
   clear hy hyb hz
   go_wp2_with (at_builtin;go_loud (refine u8_append1 (.tmp 11) (.tmp 15) 22 5 (.slice A5 acc.length c5) acc z _ rfl w.heap.size rfl rfl Tryz.underlying22 info_u8 rfl rfl HR.out HB.out.size HLA.out ?_))
   intro v2 w2 hr2 hb2 hg2 ha2
   have R2:=mk0 hr2
   have B2:=mk0 (HB.out.trans hb2)
   clear hr2 hb2 hg2 ha2
   go_wp2
   go_roundw
   case rel=>exact ⟨m/128,acc++[z],by first | rfl | (simp;omega) | go_num,⟨by have:=HM.out;omega⟩,HE,R2,B2⟩
   case measure=>simp[intOf];omega
end Go.Proofs.YtpiobnfakmmpdaaGreat.Lib0
namespace Go.Proofs.YtpiobnfakmmpdaaGreat.Lib0
open Go.RowKit Go.Proofs.YtpiobnfakmmpdaaGreatW.PrintWords Go.ChangeMaps
def I64 (n:Int):Prop:=-9223372036854775808≤n∧n≤9223372036854775807
def zig (n:Int):Nat:=if 0≤n then (2*n).toNat else (-2*n-1).toNat
def zag (n:Nat):Int:=if n%2=0 then (n/2:Nat) else -((n/2:Nat):Int)-1
theorem zag_zig (n:Int):zag (zig n)=n:=by
 unfold zag zig
 split<;>split<;>omega
theorem zig_lt {n:Int} (h:I64 n):zig n<18446744073709551616:=by
 unfold zig
 have:=h.1
 have:=h.2
 split<;>omega
theorem zag_in {n:Nat} (h:n<18446744073709551616):I64 (zag n):=by
 unfold zag I64
 split<;>omega
theorem bits_u64 (op:BinOp) (f:∀ {w:Nat},BitVec w→BitVec w→BitVec w) (hop:∀ a b:Int,Go.bits op .u64 a b=IntKind.u64.wrap ((f (BitVec.ofInt 64 a) (BitVec.ofInt 64 b)).toNat:Int)) (a b:Nat) (ha:a<18446744073709551616) (hb:b<18446744073709551616) :
  Go.bits op .u64 (a:Int) (b:Int)=((f (BitVec.ofNat 64 a) (BitVec.ofNat 64 b)).toNat:Int):=by
 rw[hop,BitVec.ofInt_natCast,BitVec.ofInt_natCast]
 have:=(f (BitVec.ofNat 64 a) (BitVec.ofNat 64 b)).isLt
 rw[IntKind.wrap_u64]
 omega
theorem xor_u64 (a b:Nat) (ha:a<18446744073709551616) (hb:b<18446744073709551616):Go.bits .xor .u64 (a:Int) (b:Int)=((a ^^^ b:Nat):Int):=by
 rw[bits_u64 .xor (fun x y=>x ^^^ y) (fun _ _=>rfl) a b ha hb,BitVec.toNat_xor,BitVec.toNat_ofNat,BitVec.toNat_ofNat,Nat.mod_eq_of_lt ha,Nat.mod_eq_of_lt hb]
theorem and_u64 (a b:Nat) (ha:a<18446744073709551616) (hb:b<18446744073709551616):Go.bits .and .u64 (a:Int) (b:Int)=((a &&& b:Nat):Int):=by
 rw[bits_u64 .and (fun x y=>x &&& y) (fun _ _=>rfl) a b ha hb,BitVec.toNat_and,BitVec.toNat_ofNat,BitVec.toNat_ofNat,Nat.mod_eq_of_lt ha,Nat.mod_eq_of_lt hb]
theorem or_u64 (a b:Nat) (ha:a<18446744073709551616) (hb:b<18446744073709551616):Go.bits .or .u64 (a:Int) (b:Int)=((a ||| b:Nat):Int):=by
 rw[bits_u64 .or (fun x y=>x ||| y) (fun _ _=>rfl) a b ha hb,BitVec.toNat_or,BitVec.toNat_ofNat,BitVec.toNat_ofNat,Nat.mod_eq_of_lt ha,Nat.mod_eq_of_lt hb]
theorem xor_ones (a:Nat) (ha:a<18446744073709551616):a ^^^ 18446744073709551615=18446744073709551615-a:=by
 have h:(BitVec.ofNat 64 a ^^^ BitVec.allOnes 64).toNat=(~~~ (BitVec.ofNat 64 a)).toNat:=by rw[BitVec.xor_allOnes]
 rw[BitVec.toNat_xor,BitVec.toNat_not,BitVec.toNat_ofNat,Nat.mod_eq_of_lt ha,BitVec.toNat_allOnes] at h
 have e:(2:Nat) ^ 64=18446744073709551616:=by decide
 rw[e] at h
 simpa using h
theorem zig_bits (n:Int) (h:I64 n):Go.bits .xor .u64 (IntKind.u64.wrap (IntKind.u64.wrap n*2)) (IntKind.u64.wrap (n/9223372036854775808))=(zig n:Int):=by
 have h1:=h.1
 have h2:=h.2
 by_cases h0:0≤n
 ·have e1:IntKind.u64.wrap (IntKind.u64.wrap n*2)=(((2*n).toNat:Nat):Int):=by rw[IntKind.wrap_u64,IntKind.wrap_u64];omega
  have e2:IntKind.u64.wrap (n/9223372036854775808)=((0:Nat):Int):=by rw[IntKind.wrap_u64];omega
  rw[e1,e2,xor_u64 _ _ (by omega) (by omega),Nat.xor_zero,zig,if_pos h0]
 ·have e1:IntKind.u64.wrap (IntKind.u64.wrap n*2)=(((2*n+18446744073709551616).toNat:Nat):Int):=by rw[IntKind.wrap_u64,IntKind.wrap_u64];omega
  have e2:IntKind.u64.wrap (n/9223372036854775808)=((18446744073709551615:Nat):Int):=by rw[IntKind.wrap_u64];omega
  rw[e1,e2,xor_u64 _ _ (by omega) (by omega),xor_ones _ (by omega),zig,if_neg h0]
  omega
theorem xor_i64_zero (n:Int) (h:I64 n):Go.bits .xor .i64 n 0=n:=by
 unfold Go.bits
 show IntKind.i64.wrap (((BitVec.ofInt 64 n ^^^ BitVec.ofInt 64 0).toNat:Nat):Int)=n
 have e:BitVec.ofInt 64 0=0#64:=by decide
 rw[e,BitVec.xor_zero,IntKind.wrap_i64,BitVec.toNat_ofInt]
 have:=h.1
 have:=h.2
 have e2:((2 ^ 64:Nat):Int)=18446744073709551616:=by decide
 rw[e2]
 omega
theorem xor_i64_ones (n:Int) (h:I64 n):Go.bits .xor .i64 n (-1) = -n-1:=by
 unfold Go.bits
 show IntKind.i64.wrap (((BitVec.ofInt 64 n ^^^ BitVec.ofInt 64 (-1)).toNat:Nat):Int) = -n-1
 have e:BitVec.ofInt 64 (-1)=BitVec.allOnes 64:=by decide
 rw[e,BitVec.xor_allOnes,IntKind.wrap_i64,BitVec.toNat_not,BitVec.toNat_ofInt]
 have:=h.1
 have:=h.2
 have e2:((2 ^ 64:Nat):Int)=18446744073709551616:=by decide
 have e3:(2:Nat) ^ 64=18446744073709551616:=by decide
 rw[e2,e3]
 omega
theorem zag_bits (n:Nat) (h:n<18446744073709551616):Go.bits .xor .i64 ((n:Int)/2) (wrap64 (-wrap64 (Go.bits .and .u64 (n:Int) 1)))=zag n:=by
 have e:Go.bits .and .u64 (n:Int) 1=((n%2:Nat):Int):=by
  have:=and_u64 n 1 h (by omega)
  rw[Nat.and_one_is_mod] at this
  exact this
 rw[e]
 unfold zag
 have hi:I64 ((n:Int)/2):=by unfold I64;omega
 by_cases h2:n%2=0
 ·rw[if_pos h2,h2]
  have:wrap64 (-wrap64 ((0:Nat):Int))=0:=by unfold wrap64;omega
  rw[this,xor_i64_zero _ hi]
  omega
 ·have h3:n%2=1:=by omega
  rw[if_neg h2,h3]
  have:wrap64 (-wrap64 ((1:Nat):Int)) = -1:=by unfold wrap64;omega
  rw[this,xor_i64_ones _ hi]
  omega
set_option maxHeartbeats 1600000 in
set_option maxRecDepth 100000 in
theorem v_Zig (n:Int) (hn:I64 n) (w:World) :
  Calls Tryz.prog 99 #[.int .i64 n] w fun e w'=>e = .returned (.int .u64 (zig n))∧w=w':=by
 go_enter Tryz.func99,Tryz.ntmps99
 go_wp2
 go_ret
 exact ⟨congrArg (fun x=>Ending.returned (.int .u64 x)) (zig_bits n hn),rfl⟩
set_option maxHeartbeats 1600000 in
set_option maxRecDepth 100000 in
theorem v_Zag (n:Nat) (hn:n<18446744073709551616) (w:World) :
  Calls Tryz.prog 163 #[.int .u64 n] w fun e w'=>e = .returned (.int .i64 (zag n))∧w=w':=by
 go_enter Tryz.func163,Tryz.ntmps163
 go_wp2
 go_ret
 exact ⟨congrArg (fun x=>Ending.returned (.int .i64 x)) (zag_bits n hn),rfl⟩
end Go.Proofs.YtpiobnfakmmpdaaGreat.Lib0
namespace Go.Proofs.YtpiobnfakmmpdaaGreat.Lib0
open Go.RowKit Go.Proofs.YtpiobnfakmmpdaaGreatW.PrintWords Go.ChangeMaps
def getN (k n:Nat) (c:UInt8):Nat:=if k<10 then n ||| ((c.toNat%128) <<< (7*k))%18446744073709551616 else n
def getF (k:Nat) (fine:Bool) (c:UInt8):Bool:=fine && (decide (k<9) || (decide (k=9) && decide (c.toNat%128<2)))
def getL:Nat→Nat→Bool→List UInt8→Nat × Nat × Int
 | _,_,_,[]=>(0,0,10)
 | k,n,fine,c :: t=>
  if 127<c.toNat then getL (k+1) (getN k n c) (getF k fine c) t
  else if getF k fine c=false∨(0<k∧c.toNat=0) then (0,0,12) else (getN k n c,k+1,0)
def Told3 (w:World) (a:Int) (r:Nat × Nat × Int) (e:Ending) (w':World):Prop:=
 e = .returned (.tuple #[.int .u64 r.1,.int .i64 (if r.2.2=0 then a+r.2.1 else 0),.int .i64 r.2.2])∧w=w'
set_option maxHeartbeats 3200000 in
set_option maxRecDepth 100000 in
theorem v_Get_arg (A:Option Addr) (c:Nat) (l:List UInt8) (a:Int) (w:World) (h:a<0∨l.length<a) :
  Calls Tryz.prog 108 #[.slice A l.length c,.int .i64 a] w (Told3 w a (0,0,1)):=by
 go_enter Tryz.func108,Tryz.ntmps108
 rcases h with h | h
 ·go_wp2
  go_ret3
  exact ⟨rfl,rfl⟩
 ·by_cases h0:a<0
  ·go_wp2
   go_ret3
   exact ⟨rfl,rfl⟩
  ·go_wp2
   go_ret3
   exact ⟨rfl,rfl⟩
theorem and_u8 (a b:UInt8):Go.bits .and .u8 (a.toNat:Int) (b.toNat:Int)=((a &&& b).toNat:Int):=by
 have ha:=a.toNat_lt
 have hb:=b.toNat_lt
 unfold Go.bits
 simp only[IntKind.wrap_u8]
 show (((BitVec.ofInt 8 (a.toNat:Int) &&& BitVec.ofInt 8 (b.toNat:Int)).toNat:Nat):Int)%256=_
 rw[BitVec.ofInt_natCast,BitVec.ofInt_natCast,BitVec.toNat_and,BitVec.toNat_ofNat,BitVec.toNat_ofNat,Nat.mod_eq_of_lt ha,Nat.mod_eq_of_lt hb,UInt8.toNat_and]
 have:a.toNat &&& b.toNat<2 ^ 8:=Nat.and_lt_two_pow _ hb
 omega
theorem getL_more (k n:Nat) (f:Bool) (y:UInt8) (t:List UInt8) (h:127<y.toNat):getL k n f (y :: t)=getL (k+1) (getN k n y) (getF k f y) t:=by rw[getL,if_pos h]
theorem getL_bad (k n:Nat) (f:Bool) (y:UInt8) (t:List UInt8) (h:¬ 127<y.toNat) (h2:getF k f y=false∨(0<k∧y.toNat=0)):getL k n f (y :: t)=(0,0,12):=by rw[getL,if_neg h,if_pos h2]
theorem getL_end (k n:Nat) (f:Bool) (y:UInt8) (t:List UInt8) (h:¬ 127<y.toNat) (h1:getF k f y=true) (h2:¬ (0<k∧y.toNat=0)):getL k n f (y :: t)=(getN k n y,k+1,0):=by rw[getL,if_neg h,if_neg (by rw[h1];simpa using h2)]
theorem getN_ten {k:Nat} (n:Nat) (y:UInt8) (h:¬ k<10):getN k n y=n:=by unfold getN;rw[if_neg h]
theorem told3_ok {w:World} {a:Int} {r:Nat × Nat × Int} {v j:Nat} (hr:r=(v,j,0)) (x:Int) (hx:x=a+j):Told3 w a r (.returned (.tuple #[.int .u64 v,.int .i64 x,.int .i64 0])) w:=by
 subst hr hx
 exact ⟨by simp,rfl⟩
theorem told3_no {w:World} {a e:Int} {r:Nat × Nat × Int} (hr:r=(0,0,e)) (he:e≠0):Told3 w a r (.returned (.tuple #[.int .u64 0,.int .i64 0,.int .i64 e])) w:=by
 subst hr
 exact ⟨by simp[he],rfl⟩
theorem getN_bits {k n:Nat} {y:UInt8} (hk:k<10) (hn:n<18446744073709551616):Go.bits .or .u64 (n:Int) (IntKind.u64.wrap ((y.toNat:Int)%128*2 ^ (7*k)))=((getN k n y:Nat):Int):=by
 have e:IntKind.u64.wrap ((y.toNat:Int)%128*2 ^ (7*k))=(((y.toNat%128) <<< (7*k)%18446744073709551616:Nat):Int):=by
  rw[IntKind.wrap_u64,Nat.shiftLeft_eq,Int.natCast_emod,Int.natCast_mul,Int.natCast_emod,Int.natCast_pow]
  rfl
 rw[e,or_u64 _ _ hn (Nat.mod_lt _ (by decide))]
 unfold getN
 rw[if_pos hk]
theorem getN_lt {k n:Nat} {c:UInt8} (h:n<18446744073709551616):getN k n c<18446744073709551616:=by
 unfold getN
 split
 ·have e:(18446744073709551616:Nat)=2 ^ 64:=by decide
  rw[e] at h ⊢
  exact Nat.or_lt_two_pow h (Nat.mod_lt _ (by decide))
 ·exact h
set_option maxHeartbeats 16000000 in
set_option maxRecDepth 100000 in
theorem v_Get (A:Option Addr) (c:Nat) (l:List UInt8) (a:Nat) (w:World) (h:u8.C w A l.length l) (hc:l.length≤c) (hl:l.length≤1099511627776) (ha:a≤l.length) :
  Calls Tryz.prog 108 #[.slice A l.length c,.int .i64 a] w (Told3 w a (getL 0 0 true (l.drop a))):=by
 have ha1:¬ (a:Int)<0:=by omega
 have ha2:¬ (l.length:Int)<a:=by omega
 go_enter Tryz.func108,Tryz.ntmps108
 obtain ⟨A2,c2,hs,hc2,hC2⟩:=sl_drop (P:=Tryz.prog) u8 22 5 .i64 Tryz.underlying22 info_u8 rfl A l c (a:Int) (by omega) (by omega) hc
 rw[Int.toNat_natCast] at hs hC2 hc2
 have HC:=mk0 (hC2 w h)
 have HD:=mk0 (show (l.drop a).length≤1099511627776 by rw[List.length_drop];omega)
 have HAL:=mk0 (show a+(l.drop a).length=l.length by rw[List.length_drop];omega)
 have HAN:=mk0 hl
 clear h hC2 hc2 hl
 generalize l.drop a=t at *
 go_wp2_with fail
 go_loopw[7,8,23] (fun v7 v8 v23 wr=>∃ (k n:Nat) (fine:Bool),k≤t.length∧v7 = .int .u64 n∧v8 = .bool fine∧v23 = .int .i64 k∧Aside0 (n<18446744073709551616)∧Aside0 (getL k n fine (t.drop k)=getL 0 0 true t)∧wr=w) (fun _ _ i _=>t.length-(intOf i).toNat)
 case atStart=>exact ⟨0,0,true,by omega,rfl,rfl,rfl,⟨by omega⟩,⟨rfl⟩,rfl⟩
 case round=>
  obtain ⟨k,n,fine,hk,rfl,rfl,rfl,HN,HG,rfl⟩:=hrel
  by_cases hlt:k<t.length
  ·obtain ⟨b,o,rfl,hx⟩:=u8_open HC.out (by omega)
   have hx1:=hx k hlt
   have hlt2:(k:Int)<t.length:=by omega
   have HDR:=mk0 (List.drop_eq_getElem_cons hlt)
   clear hx
   generalize t[k]=y at *
   have hy0:(0:Int)≤(y.toNat:Int):=by omega
   have hy1:(y.toNat:Int)<256:=by have:=y.toNat_lt;omega
   have hand:Go.bits .and .u8 (y.toNat:Int) 127=((y.toNat%128:Nat):Int):=by
    have:=and_u8 y 127
    rw[show ((127:UInt8).toNat:Int)=127 from rfl] at this
    rw[this,UInt8.toNat_and,show (127:UInt8).toNat=2 ^ 7-1 from rfl,Nat.and_two_pow_sub_one_eq_mod]
   have hak:(a:Int)+(k:Int)<1099511627777:=by have:=HAL.out;have:=HAN.out;omega
   have hak2:(k:Int)<1099511627777:=by have:=HD.out;omega
   cases fine
   ·skip
    by_cases hk10:k<10
    ·have hk10i:(k:Int)<10:=by omega
     have HFT:getF k false y=false:=rfl
     obtain ⟨n',hn'⟩:∃ n',n'=getN k n y:=⟨_,rfl⟩
     have HNP:=mk0 hn'
     have hor:Go.bits .or .u64 (n:Int) (IntKind.u64.wrap ((y.toNat:Int)%128*2 ^ (7*k)))=(n':Int):=by rw[hn'];exact getN_bits hk10 HN.out
     clear hn'
     by_cases hy:127<y.toNat
     ·have HF:=mk0 HFT
      have hyi:(127:Int)<(y.toNat:Int):=by omega
      have HS:=mk0 (show getL (k+1) n' false (t.drop (k+1))=getL 0 0 true t by rw[← HG.out,HDR.out,getL_more _ _ _ _ _ hy];rw[← HNP.out,HF.out])
      go_wp2
      go_roundw
      case rel=>exact ⟨k+1,n',false,by omega,by first | rfl | trivial,by first | rfl | trivial,by first | go_num | (simp;omega),⟨by rw[HNP.out];exact getN_lt HN.out⟩,HS,by first | rfl | trivial⟩
      case measure=>simp[intOf];omega
     ·have HF:=mk0 HFT
      have hyi:¬ (127:Int)<(y.toNat:Int):=by omega
      have HS:=mk0 (show getL 0 0 true t=(0,0,12) by rw[← HG.out,HDR.out,getL_bad _ _ _ _ _ hy (.inl HF.out)])
      go_wp2
      go_ret3
      exact told3_no HS.out (by decide)
    ·have hk10i:¬ (k:Int)<10:=by omega
     have HFT:getF k false y=false:=rfl
     by_cases hy:127<y.toNat
     ·have HF:=mk0 HFT
      have hyi:(127:Int)<(y.toNat:Int):=by omega
      have HS:=mk0 (show getL (k+1) n false (t.drop (k+1))=getL 0 0 true t by rw[← HG.out,HDR.out,getL_more _ _ _ _ _ hy];rw[getN_ten _ _ hk10,HF.out])
      go_wp2
      go_roundw
      case rel=>exact ⟨k+1,n,false,by omega,by first | rfl | trivial,by first | rfl | trivial,by first | go_num | (simp;omega),HN,HS,by first | rfl | trivial⟩
      case measure=>simp[intOf];omega
     ·have HF:=mk0 HFT
      have hyi:¬ (127:Int)<(y.toNat:Int):=by omega
      have HS:=mk0 (show getL 0 0 true t=(0,0,12) by rw[← HG.out,HDR.out,getL_bad _ _ _ _ _ hy (.inl HF.out)])
      go_wp2
      go_ret3
      exact told3_no HS.out (by decide)
   ·skip
    by_cases hk10:k<10
    ·have hk10i:(k:Int)<10:=by omega
     obtain ⟨n',hn'⟩:∃ n',n'=getN k n y:=⟨_,rfl⟩
     have HNP:=mk0 hn'
     have hor:Go.bits .or .u64 (n:Int) (IntKind.u64.wrap ((y.toNat:Int)%128*2 ^ (7*k)))=(n':Int):=by rw[hn'];exact getN_bits hk10 HN.out
     clear hn'
     by_cases hk9:k<9
     ·have hk9i:(k:Int)<9:=by omega
      have HFT:getF k true y=true:=by simp[getF,hk9]
      by_cases hy:127<y.toNat
      ·have HF:=mk0 HFT
       have hyi:(127:Int)<(y.toNat:Int):=by omega
       have HS:=mk0 (show getL (k+1) n' true (t.drop (k+1))=getL 0 0 true t by rw[← HG.out,HDR.out,getL_more _ _ _ _ _ hy];rw[← HNP.out,HF.out])
       go_wp2
       go_roundw
       case rel=>exact ⟨k+1,n',true,by omega,by first | rfl | trivial,by first | rfl | trivial,by first | go_num | (simp;omega),⟨by rw[HNP.out];exact getN_lt HN.out⟩,HS,by first | rfl | trivial⟩
       case measure=>simp[intOf];omega
      ·have HF:=mk0 HFT
       by_cases hz:0<k∧y.toNat=0
       ·have hz1:(0:Int)<k:=by omega
        have hz2:(y.toNat:Int)=0:=by omega
        have hz3:=hz.1
        have hz4:((y.toNat:Int)==0)=true:=by rw[hz2];rfl
        have HZ0:=mk0 hz
        clear hz2 hz
        have hyi:¬ (127:Int)<(y.toNat:Int):=by omega
        have HS:=mk0 (show getL 0 0 true t=(0,0,12) by rw[← HG.out,HDR.out,getL_bad _ _ _ _ _ hy (.inr HZ0.out)])
        go_wp2
        go_ret3
        exact told3_no HS.out (by decide)
       ·have HZ:=mk0 hz
        rcases (show (¬ (0:Int)<k∧¬ 0<k)∨(((0:Int)<k∧0<k)∧¬ y.toNat=0∧¬ (y.toNat:Int)=0) by omega) with ⟨hz1,hz2⟩ | ⟨⟨hz1,hz2⟩,hz3,hz4⟩
        ·have hyi:¬ (127:Int)<(y.toNat:Int):=by omega
         have HS:=mk0 (show getL 0 0 true t=(n',k+1,0) by rw[← HG.out,HDR.out,getL_end _ _ _ _ _ hy HF.out HZ.out,← HNP.out])
         go_wp2
         go_ret3
         exact told3_ok HS.out _ (by first | omega | (simp;omega))
        ·have hz5:((y.toNat:Int)==0)=false:=by rw[beq_eq_false_iff_ne];exact hz4
         have hyi:¬ (127:Int)<(y.toNat:Int):=by omega
         have HS:=mk0 (show getL 0 0 true t=(n',k+1,0) by rw[← HG.out,HDR.out,getL_end _ _ _ _ _ hy HF.out HZ.out,← HNP.out])
         go_wp2
         go_ret3
         exact told3_ok HS.out _ (by first | omega | (simp;omega))
     ·have hk9i:¬ (k:Int)<9:=by omega
      have hk9b:((k:Int)==9)=true:=by rw[beq_iff_eq];omega
      have hk9n:k=9:=by omega
      by_cases h2:y.toNat%128<2
      ·have h2i:(y.toNat:Int)%128<2:=by omega
       have HFT:getF k true y=true:=by simp[getF,hk9n,h2]
       clear hk9n
       by_cases hy:127<y.toNat
       ·have HF:=mk0 HFT
        have hyi:(127:Int)<(y.toNat:Int):=by omega
        have HS:=mk0 (show getL (k+1) n' true (t.drop (k+1))=getL 0 0 true t by rw[← HG.out,HDR.out,getL_more _ _ _ _ _ hy];rw[← HNP.out,HF.out])
        go_wp2
        go_roundw
        case rel=>exact ⟨k+1,n',true,by omega,by first | rfl | trivial,by first | rfl | trivial,by first | go_num | (simp;omega),⟨by rw[HNP.out];exact getN_lt HN.out⟩,HS,by first | rfl | trivial⟩
        case measure=>simp[intOf];omega
       ·have HF:=mk0 HFT
        by_cases hz:0<k∧y.toNat=0
        ·have hz1:(0:Int)<k:=by omega
         have hz2:(y.toNat:Int)=0:=by omega
         have hz3:=hz.1
         have hz4:((y.toNat:Int)==0)=true:=by rw[hz2];rfl
         have HZ0:=mk0 hz
         clear hz2 hz
         have hyi:¬ (127:Int)<(y.toNat:Int):=by omega
         have HS:=mk0 (show getL 0 0 true t=(0,0,12) by rw[← HG.out,HDR.out,getL_bad _ _ _ _ _ hy (.inr HZ0.out)])
         go_wp2
         go_ret3
         exact told3_no HS.out (by decide)
        ·have HZ:=mk0 hz
         rcases (show (¬ (0:Int)<k∧¬ 0<k)∨(((0:Int)<k∧0<k)∧¬ y.toNat=0∧¬ (y.toNat:Int)=0) by omega) with ⟨hz1,hz2⟩ | ⟨⟨hz1,hz2⟩,hz3,hz4⟩
         ·omega
         ·have hz5:((y.toNat:Int)==0)=false:=by rw[beq_eq_false_iff_ne];exact hz4
          have hyi:¬ (127:Int)<(y.toNat:Int):=by omega
          have HS:=mk0 (show getL 0 0 true t=(n',k+1,0) by rw[← HG.out,HDR.out,getL_end _ _ _ _ _ hy HF.out HZ.out,← HNP.out])
          go_wp2
          go_ret3
          exact told3_ok HS.out _ (by first | omega | (simp;omega))
      ·have h2i:¬ (y.toNat:Int)%128<2:=by omega
       have HFT:getF k true y=false:=by simp[getF,hk9n,h2]
       clear hk9n
       by_cases hy:127<y.toNat
       ·have HF:=mk0 HFT
        have hyi:(127:Int)<(y.toNat:Int):=by omega
        have HS:=mk0 (show getL (k+1) n' false (t.drop (k+1))=getL 0 0 true t by rw[← HG.out,HDR.out,getL_more _ _ _ _ _ hy];rw[← HNP.out,HF.out])
        go_wp2
        go_roundw
        case rel=>exact ⟨k+1,n',false,by omega,by first | rfl | trivial,by first | rfl | trivial,by first | go_num | (simp;omega),⟨by rw[HNP.out];exact getN_lt HN.out⟩,HS,by first | rfl | trivial⟩
        case measure=>simp[intOf];omega
       ·have HF:=mk0 HFT
        have hyi:¬ (127:Int)<(y.toNat:Int):=by omega
        have HS:=mk0 (show getL 0 0 true t=(0,0,12) by rw[← HG.out,HDR.out,getL_bad _ _ _ _ _ hy (.inl HF.out)])
        go_wp2
        go_ret3
        exact told3_no HS.out (by decide)
    ·have hk10i:¬ (k:Int)<10:=by omega
     have hk9i:¬ (k:Int)<9:=by omega
     have hk9e:¬ (k:Int)=9:=by omega
     have hk9b:((k:Int)==9)=false:=by rw[beq_eq_false_iff_ne];exact hk9e
     have HFT:getF k true y=false:=by simp[getF];omega
     by_cases hy:127<y.toNat
     ·have HF:=mk0 HFT
      have hyi:(127:Int)<(y.toNat:Int):=by omega
      have HS:=mk0 (show getL (k+1) n false (t.drop (k+1))=getL 0 0 true t by rw[← HG.out,HDR.out,getL_more _ _ _ _ _ hy];rw[getN_ten _ _ hk10,HF.out])
      go_wp2
      go_roundw
      case rel=>exact ⟨k+1,n,false,by omega,by first | rfl | trivial,by first | rfl | trivial,by first | go_num | (simp;omega),HN,HS,by first | rfl | trivial⟩
      case measure=>simp[intOf];omega
     ·have HF:=mk0 HFT
      have hyi:¬ (127:Int)<(y.toNat:Int):=by omega
      have HS:=mk0 (show getL 0 0 true t=(0,0,12) by rw[← HG.out,HDR.out,getL_bad _ _ _ _ _ hy (.inl HF.out)])
      go_wp2
      go_ret3
      exact told3_no HS.out (by decide)
  ·obtain rfl:k=t.length:=by omega
   have HS:=mk0 (show getL 0 0 true t=(0,0,10) by rw[← HG.out,List.drop_length];rfl)
   go_wp2
   go_ret3
   exact told3_no HS.out (by decide)
end Go.Proofs.YtpiobnfakmmpdaaGreat.Lib0

import Derived.Test.YtpiobnfakmmpdaaGreatP03
set_option linter.unusedVariables false
set_option linter.unusedSimpArgs false
namespace Go.Proofs.YtpiobnfakmmpdaaGreat.Lib0
open Go.RowKit Go.Proofs.YtpiobnfakmmpdaaGreatW.PrintWords Go.ChangeMaps
section
variable {P:Program} {ops:Array Oper} {rest:List Oper} {o:Oper} {a:Act} {Q:Exit→Act→World→Prop}
theorem u8_append_str {W:World} (s x:Operand) (t u e:TypeId) (v:Value) (xs:List UInt8) (y:ByteArray) (base:Nat)
  (hgd:o.guard=none) (ho:o.op = .call { callee:=.builtin .append,args:=#[s,x],argTypes:=#[t,u] })
  (ht:P.underlying t=some (.slice e)) (hu:P.underlying u=some .string) (hinfo:(P.info? e).map (fun i=>(i.zero,i.size,i.bytes))=some (some (.int .u8 0),1,1))
  (hs:a.eval s=v) (hx:a.eval x = .string y)
  (HO:u8.R e W base (fun _=>True) v xs) (hbase:base≤W.heap.size) (hl:xs.length+y.size≤140737488355328)
  (h:∀ v1 w1,u8.R e w1 base (fun _=>True) v1 (xs++byt y)→Below base W w1→W.grownBy w1 v.ownBlock→wpList P ops Q rest (a.put o.dst v1) w1) :
  wpList P ops Q (o :: rest) a W:=by
 have e1:∀ l:List UInt8,nums .u8 (bi l)=l.map encB:=fun l=>by simp[nums,bi,encB]
 have e2:bi xs++bytesOf y=bi (xs++byt y):=by simp[bi,bytesOf,byt]
 refine print_append_str (w0:=W) base hgd s x t u e ho ht hu hinfo v (bi xs) y hs hx (by rw[bi_length,e1];exact u8_R_iff.1 HO) (Below.refl _ _) hbase (by rw[bi_length];exact hl) ?_
 intro v1 w1 hown hb hg
 rw[e2,bi_length,e1] at hown
 exact h v1 w1 (u8_R_iff.2 hown) hb hg
end
set_option maxHeartbeats 1600000 in
set_option maxRecDepth 100000 in
theorem v_PutText (A:Option Addr) (c:Nat) (l:List UInt8) (s:ByteArray) (w:World) (h:u8.C w A l.length l) (hl:l.length≤1099511627000) (hs:s.size≤1099511627776) :
  Calls Tryz.prog 57 #[.slice A l.length c,.string s] w (Row 5 w (l++putV s.size++byt s)):=by
 have HP:=mk0 (v_Put A c l s.size w h hl (by omega))
 have HL:=mk0 (show (l++putV s.size).length+s.size≤140737488355328 by have:=putV_len10 (n:=s.size) (by omega);rw[List.length_append];omega)
 have hs64:IntKind.u64.wrap (s.size:Int)=(s.size:Int):=by rw[IntKind.wrap_u64];omega
 clear h hl hs
 go_enter Tryz.func57,Tryz.ntmps57
 go_wp2_with fail
 refine HP.out.mono ?_
 rintro e w1 ⟨v1,rfl,hr1,hb1⟩
 go_wp2_with (at_builtin;go_loud (refine u8_append_str (.tmp 9) (.tmp 10) 22 9 5 v1 _ s w.heap.size rfl rfl Tryz.underlying22 Tryz.underlying9 info_u8 rfl rfl hr1 hb1.size HL.out ?_))
 intro v2 w2 hr2 hb2 hg2
 go_wp2
 go_ret
 exact ⟨_,rfl,by rw[List.append_assoc];exact hr2,hb1.trans hb2⟩
def small (n:Nat):Nat:=if n≤1099511627776 then n else 1099511627776
set_option maxHeartbeats 1600000 in
set_option maxRecDepth 100000 in
theorem getL_lt:∀ (l:List UInt8) (k n:Nat) (f:Bool),n<18446744073709551616→(getL k n f l).1<18446744073709551616∧((getL k n f l).2.2=0→k<(getL k n f l).2.1∧(getL k n f l).2.1≤k+l.length)
 | [],k,n,f,h=>by simp[getL]
 | c :: t,k,n,f,h=>by
  rw[getL]
  split
  ·have:=getL_lt t (k+1) _ (getF k f c) (getN_lt (k:=k) (c:=c) h)
   refine ⟨this.1,fun h0=>?_⟩
   have:=this.2 h0
   rw[List.length_cons]
   omega
  ·split
   ·simp
   ·exact ⟨getN_lt h,fun _=>by simp⟩
def getA (l:List UInt8) (a:Int):Nat × Nat × Int:=if a<0∨l.length<a then (0,0,1) else getL 0 0 true (l.drop a.toNat)
theorem v_GetA (A:Option Addr) (c:Nat) (l:List UInt8) (a:Int) (w:World) (h:u8.C w A l.length l) (hc:l.length≤c) (hl:l.length≤1099511627776) :
  Calls Tryz.prog 108 #[.slice A l.length c,.int .i64 a] w (Told3 w a (getA l a)):=by
 unfold getA
 split
 ·rename_i h1
  exact v_Get_arg A c l a w h1
 ·have:=v_Get A c l a.toNat w h hc hl (by omega)
  rwa [show ((a.toNat:Nat):Int)=a by omega] at this
theorem getA_lt (l:List UInt8) (a:Int):(getA l a).1<18446744073709551616∧((getA l a).2.2=0→0≤a∧0<(getA l a).2.1∧a+(getA l a).2.1≤l.length):=by
 unfold getA
 split
 ·simp
 ·have:=getL_lt (l.drop a.toNat) 0 0 true (by omega)
  refine ⟨this.1,fun h0=>?_⟩
  have:=this.2 h0
  rw[List.length_drop] at this
  omega
def endA (a:Int) (r:Nat × Nat × Int):Int:=if r.2.2=0 then a+r.2.1 else 0
set_option maxHeartbeats 1600000 in
set_option maxRecDepth 100000 in
theorem v_Small (A:Option Addr) (c:Nat) (l:List UInt8) (a:Int) (w:World) (h:u8.C w A l.length l) (hc:l.length≤c) (hl:l.length≤1099511627776) :
  Calls Tryz.prog 110 #[.slice A l.length c,.int .i64 a] w fun e w'=>e = .returned (.tuple #[.int .i64 (small (getA l a).1),.int .i64 (endA a (getA l a)),.int .i64 (getA l a).2.2])∧w=w':=by
 have HG:=mk0 (v_GetA A c l a w h hc hl)
 have HB:=mk0 (getA_lt l a).1
 clear h hc hl
 unfold Told3 at HG
 change Aside0 (Calls _ _ _ _ fun e w'=>e = .returned (.tuple #[.int .u64 (getA l a).1,.int .i64 (endA a (getA l a)),.int .i64 (getA l a).2.2])∧w=w') at HG
 generalize (getA l a).1=n at *
 generalize endA a (getA l a)=en at *
 generalize (getA l a).2.2=why at *
 have hn:=HB.out
 obtain ⟨q,hq⟩:∃ q,q=small n:=⟨_,rfl⟩
 rw[← hq]
 go_enter Tryz.func110,Tryz.ntmps110
 go_wp2_with fail
 refine HG.out.mono ?_
 rintro e w' ⟨rfl,rfl⟩
 by_cases h1:n≤1099511627776
 ·have h2:(n:Int)≤1099511627776:=by omega
  have hqn:q=n:=by rw[hq,small,if_pos h1]
  clear hq
  subst hqn
  go_wp2
  go_ret3
  exact ⟨rfl,rfl⟩
 ·have h2:¬ (n:Int)≤1099511627776:=by omega
  have hqn:q=1099511627776:=by rw[hq,small,if_neg h1]
  clear hq
  subst hqn
  go_wp2
  go_ret3
  exact ⟨rfl,rfl⟩
set_option maxHeartbeats 1600000 in
set_option maxRecDepth 100000 in
theorem v_GetZag (A:Option Addr) (c:Nat) (l:List UInt8) (a:Int) (w:World) (h:u8.C w A l.length l) (hc:l.length≤c) (hl:l.length≤1099511627776) :
  Calls Tryz.prog 109 #[.slice A l.length c,.int .i64 a] w fun e w'=>e = .returned (.tuple #[.int .i64 (zag (getA l a).1),.int .i64 (endA a (getA l a)),.int .i64 (getA l a).2.2])∧w=w':=by
 have HG:=mk0 (v_GetA A c l a w h hc hl)
 have HZ:=mk0 (v_Zag (getA l a).1 (getA_lt l a).1 w)
 clear h hc hl
 unfold Told3 at HG
 change Aside0 (Calls _ _ _ _ fun e w'=>e = .returned (.tuple #[.int .u64 (getA l a).1,.int .i64 (endA a (getA l a)),.int .i64 (getA l a).2.2])∧w=w') at HG
 generalize endA a (getA l a)=en at *
 generalize (getA l a).2.2=why at *
 generalize zag (getA l a).1=z at *
 generalize (getA l a).1=n at *
 go_enter Tryz.func109,Tryz.ntmps109
 go_wp2_with fail
 refine HG.out.mono ?_
 rintro e w' ⟨rfl,rfl⟩
 go_wp2_with fail
 refine HZ.out.mono ?_
 rintro e w' ⟨rfl,rfl⟩
 go_wp2
 go_ret3
 exact ⟨rfl,rfl⟩
def getT (l:List UInt8) (a:Int) (most:Nat):List UInt8 × Int × Int:=
 if (getA l a).2.2≠0 then ([],0,(getA l a).2.2)
 else if most<(getA l a).1 then ([],0,3)
 else if l.length<endA a (getA l a)+(getA l a).1 then ([],0,10)
 else ((l.take (endA a (getA l a)+(getA l a).1).toNat).drop (endA a (getA l a)).toNat,endA a (getA l a)+(getA l a).1,0)
set_option maxHeartbeats 3200000 in
set_option maxRecDepth 100000 in
theorem v_GetText (A:Option Addr) (c:Nat) (l:List UInt8) (a:Int) (most:Nat) (w:World) (h:u8.C w A l.length l) (hc:l.length≤c) (hl:l.length≤1099511627776) (hm:most≤1099511627776) :
  Calls Tryz.prog 111 #[.slice A l.length c,.int .i64 a,.int .i64 most] w fun e w'=>e = .returned (.tuple #[.string (str (getT l a most).1),.int .i64 (getT l a most).2.1,.int .i64 (getT l a most).2.2])∧w=w':=by
 have HG:=mk0 (v_GetA A c l a w h hc hl)
 have hlt:=getA_lt l a
 have HT:=mk0 (show getT l a most=_ from rfl)
 unfold Told3 at HG
 change Aside0 (Calls _ _ _ _ fun e w'=>e = .returned (.tuple #[.int .u64 (getA l a).1,.int .i64 (endA a (getA l a)),.int .i64 (getA l a).2.2])∧w=w') at HG
 have hend:(getA l a).2.2=0→0≤endA a (getA l a)∧endA a (getA l a)≤l.length:=by
  intro h0
  have:=hlt.2 h0
  unfold endA
  rw[if_pos h0]
  omega
 have hn:=hlt.1
 clear hlt
 unfold getT at HT ⊢
 generalize endA a (getA l a)=en at *
 generalize (getA l a).2.2=why at *
 generalize (getA l a).1=n at *
 clear HT
 by_cases h0:why=0
 ·subst h0
  have hend:=hend rfl
  obtain ⟨m,rfl⟩:=Int.eq_ofNat_of_zero_le hend.1
  have hm1:(m:Int)≤l.length:=hend.2
  have hmost0:(0:Int)≤most:=Int.natCast_nonneg _
  have hwm:IntKind.u64.wrap (most:Int)=(most:Int):=by rw[IntKind.wrap_u64];omega
  have hwl:IntKind.u64.wrap ((l.length:Int)-(m:Int))=(l.length:Int)-(m:Int):=by rw[IntKind.wrap_u64];omega
  clear hend
  rw[if_neg (by simp)]
  by_cases h1:most<n
  ·have h1i:(most:Int)<n:=by omega
   rw[if_pos h1]
   go_enter Tryz.func111,Tryz.ntmps111
   go_wp2_with fail
   refine HG.out.mono ?_
   rintro e w' ⟨rfl,rfl⟩
   go_wp2
   go_ret3
   exact ⟨rfl,rfl⟩
  ·have h1i:¬ (most:Int)<n:=by omega
   rw[if_neg h1]
   by_cases h2:(l.length:Int)<(m:Int)+n
   ·have h2i:(l.length:Int)-(m:Int)<n:=by omega
    rw[if_pos h2]
    go_enter Tryz.func111,Tryz.ntmps111
    go_wp2_with fail
    refine HG.out.mono ?_
    rintro e w' ⟨rfl,rfl⟩
    go_wp2
    go_ret3
    exact ⟨rfl,rfl⟩
   ·have h2i:¬ (l.length:Int)-(m:Int)<n:=by omega
    rw[if_neg h2]
    have hwn:wrap64 (n:Int)=(n:Int):=by unfold wrap64;omega
    have hwn2:IntKind.i64.wrap (n:Int)=(n:Int):=IntWalk.i64_in _ (by omega)
    obtain ⟨A2,c2,hs,hc2,hC2⟩:=sl_mid (P:=Tryz.prog) u8 22 5 .i64 .i64 Tryz.underlying22 info_u8 rfl A l c (m:Int) ((m:Int)+n) (by omega) (by omega) (by omega) hc
    have hcv:=u8_string (P:=Tryz.prog) (c:=c2) Tryz.underlying22 Tryz.underlying5 Tryz.underlying9 (hC2 w h)
    clear hC2
    generalize (l.take ((m:Int)+n).toNat).drop (m:Int).toNat=t at *
    go_enter Tryz.func111,Tryz.ntmps111
    go_wp2_with fail
    refine HG.out.mono ?_
    rintro e w' ⟨rfl,rfl⟩
    go_wp2
    go_ret3
    exact ⟨rfl,rfl⟩
 ·rw[if_pos h0]
  have h0b:(why==0)=false:=by rw[beq_eq_false_iff_ne];exact h0
  have h0c:(why != 0)=true:=by simp[bne,h0b]
  go_enter Tryz.func111,Tryz.ntmps111
  go_wp2_with fail
  refine HG.out.mono ?_
  rintro e w' ⟨rfl,rfl⟩
  go_wp2
  go_ret3
  exact ⟨rfl,rfl⟩
end Go.Proofs.YtpiobnfakmmpdaaGreat.Lib0
namespace Go.Proofs.YtpiobnfakmmpdaaGreat.Lib0
open Go.RowKit Go.Proofs.YtpiobnfakmmpdaaGreatW.PrintWords Go.ChangeMaps
theorem wrap64_in (n:Int):I64 (wrap64 n):=by unfold wrap64 I64;omega
def delD (i:Nat) (last n:Int):Int:=if i=0 then n else wrap64 (n-last)
def delX (i:Nat) (step d:Int):Int:=if 1<i then wrap64 (d-step) else d
def delS (i:Nat) (step d:Int):Int:=if 0<i then d else step
def encD:Nat→Int→Int→List Int→List UInt8
 | _,_,_,[]=>[]
 | i,last,step,n :: t=>putV (zig (delX i step (delD i last n)))++encD (i+1) n (delS i step (delD i last n)) t
def deltaB (l:List Int):List UInt8:=putV l.length++encD 0 0 0 l
theorem info_i64:(Tryz.prog.info? 2).map (fun i=>(i.zero,i.size,i.bytes))=some (some (.int .i64 0),1,8):=by kernel_rfl
theorem u8_nil (w:World):u8.C w none 0 []:=⟨rfl,by simp,fun h=>absurd h (by simp)⟩
set_option maxHeartbeats 6400000 in
set_option maxRecDepth 100000 in
theorem delta_Encode (A:Option Addr) (c:Nat) (l:List Int) (w:World) (h:(Kd.int .i64).C w A l.length l) (hl:l.length≤1073741824) (hi:∀ n ∈ l,I64 n) :
  Calls Tryz.prog 54 #[.slice A l.length c] w (Row 5 w (deltaB l)):=by
 have HC:=mk0 h
 have HI:=mk0 hi
 have HL:=mk0 hl
 have HP:=mk0 (v_Put none 0 [] l.length w (u8_nil w) (by simp) (by omega))
 rw[List.nil_append] at HP
 have hw:IntKind.u64.wrap (l.length:Int)=(l.length:Int):=by rw[IntKind.wrap_u64];omega
 clear h hi hl
 go_enter Tryz.func54,Tryz.ntmps54
 go_wp2_with fail
 refine HP.out.mono ?_
 rintro e w1 ⟨v1,rfl,hr1,hb1⟩
 have R1:=mk0 hr1
 have B1:=mk0 hb1
 clear hr1 hb1 HP hw
 go_wp2_with fail
 go_loopw[3,4,5,16] (fun v3 v4 v5 v16 wr=>∃ (k:Nat) (last step:Int) (out:List UInt8),k≤l.length∧v4 = .int .i64 last∧v5 = .int .i64 step∧v16 = .int .i64 k∧Aside0 (I64 step)∧Aside0 (out++encD k last step (l.drop k)=deltaB l)∧Aside0 (out.length≤10*(k+1))∧Aside0 (u8.R 5 wr w.heap.size (fun _=>True) v3 out)∧Aside0 (Below w.heap.size w wr)) (fun _ _ _ i _=>l.length-(intOf i).toNat)
 case atStart=>exact ⟨0,0,0,putV l.length,by omega,rfl,rfl,rfl,⟨by unfold I64;omega⟩,⟨rfl⟩,⟨by have:=putV_len10 (n:=l.length) (by have:=HL.out;omega);omega⟩,R1,B1⟩
 case round=>
  obtain ⟨k,last,step,out,hk,rfl,rfl,rfl,HS,HE,HO,HR,HB⟩:=hrel
  obtain ⟨A3,c3,rfl,_,_⟩:=u8_R_len HR.out
  by_cases hlt:k<l.length
  ·obtain ⟨b,o,rfl,hx⟩:=sc_open (Kd.C_below HC.out HB.out) (by omega)
   have hx1:=hx k hlt
   have hlt2:(k:Int)<l.length:=by omega
   have hkb:(k:Int)<1073741824:=by have:=HL.out;omega
   have HN:=mk0 (HI.out l[k] (List.getElem_mem hlt))
   rw[List.drop_eq_getElem_cons hlt,encD] at HE
   clear hx
   generalize l[k]=n at *
   obtain ⟨d,hd⟩:∃ d,d=delD k last n:=⟨_,rfl⟩
   obtain ⟨x,hxx⟩:∃ x,x=delX k step d:=⟨_,rfl⟩
   obtain ⟨st,hst⟩:∃ st,st=delS k step d:=⟨_,rfl⟩
   rw[← hd,← hxx,← hst] at HE
   have hdi:I64 d:=by rw[hd,delD];split;exact HN.out;exact wrap64_in _
   have HSX:=mk0 (show I64 st by rw[hst,delS];split;exact hdi;exact HS.out)
   have hxi:I64 x:=by rw[hxx,delX];split;exact wrap64_in _;exact hdi
   have HZ:=mk0 (fun W=>v_Zig x hxi W)
   have HPZ:=mk0 (fun W=>v_Put none 0 [] (zig x) W (u8_nil W) (by simp) (zig_lt hxi))
   simp only[List.nil_append] at HPZ
   have HZL:=mk0 (putV_len10 (zig_lt hxi))
   clear hxi hdi
   generalize zig x=z at *
   have hcase:(k=0∧d=n∧x=d∧st=step)∨(k=1∧d=wrap64 (n-last)∧x=d∧st=d)∨(1<k∧d=wrap64 (n-last)∧x=wrap64 (d-step)∧st=d):=by
    rcases (show k=0∨k=1∨1<k by omega) with h | h | h
    ·left;subst h;exact ⟨rfl,hd,hxx,hst⟩
    ·right;left;subst h;exact ⟨rfl,hd,hxx,hst⟩
    ·right;right
     exact ⟨h,by rw[hd,delD,if_neg (by omega)],by rw[hxx,delX,if_pos h],by rw[hst,delS,if_pos (by omega)]⟩
   clear hd hxx hst
   rcases hcase with ⟨hk0,hd,hxx,hst⟩ | ⟨hk0,hd,hxx,hst⟩ | ⟨hk0,hd,hxx,hst⟩
   ·subst hk0 hst hxx hd
    have hl0:(0:Int)<l.length:=by omega
    have hl1:0<l.length:=hlt
    rw[Nat.add_zero] at hx1
    clear hlt2 hkb
    go_wp2_with fail
    refine (HZ.out wr).mono ?_
    rintro e w' ⟨rfl,rfl⟩
    go_wp2_with fail
    refine (HPZ.out wr).mono ?_
    rintro e w4 ⟨v4,rfl,hr4,hb4⟩
    have R4:=mk0 (Kd.R_below HR.out hb4)
    have B4:=mk0 (HB.out.trans (hb4.mono HB.out.size))
    obtain ⟨A4,c4,rfl,_,hC4⟩:=u8_R_len hr4
    have C4:=mk0 hC4
    clear hr4 hb4 hC4
    go_wp2_with (at_builtin;go_loud (refine u8_append (.tmp 37) (.tmp 40) 22 5 (.slice A3 out.length c3) out (putV z) _ _ _ w.heap.size rfl rfl Tryz.underlying22 info_u8 rfl rfl R4.out C4.out B4.out.size ?c1 ?_))
    case c1=>have:=HO.out;have:=HZL.out;have:=HL.out;omega
    intro v5 w5 hr5 hb5 hg5 ha5
    have R5:=mk0 hr5
    have B5:=mk0 (B4.out.trans hb5)
    clear hr5 hb5 hg5 ha5
    go_wp2
    go_roundw
    case rel=>exact ⟨0+1,_,_,out++putV z,by omega,rfl,rfl,by go_num,HSX,⟨by rw[List.append_assoc];exact HE.out⟩,⟨by rw[List.length_append];have:=HO.out;have:=HZL.out;omega⟩,R5,B5⟩
    case measure=>simp[intOf];omega
   ·subst hk0
    have hd2:wrap64 (n-last)=d:=hd.symm
    have hl1:(1:Int)<l.length:=by omega
    clear hlt2 hkb hd
    subst hst hxx
    go_wp2_with fail
    refine (HZ.out wr).mono ?_
    rintro e w' ⟨rfl,rfl⟩
    go_wp2_with fail
    refine (HPZ.out wr).mono ?_
    rintro e w4 ⟨v4,rfl,hr4,hb4⟩
    have R4:=mk0 (Kd.R_below HR.out hb4)
    have B4:=mk0 (HB.out.trans (hb4.mono HB.out.size))
    obtain ⟨A4,c4,rfl,_,hC4⟩:=u8_R_len hr4
    have C4:=mk0 hC4
    clear hr4 hb4 hC4
    go_wp2_with (at_builtin;go_loud (refine u8_append (.tmp 37) (.tmp 40) 22 5 (.slice A3 out.length c3) out (putV z) _ _ _ w.heap.size rfl rfl Tryz.underlying22 info_u8 rfl rfl R4.out C4.out B4.out.size ?c1 ?_))
    case c1=>have:=HO.out;have:=HZL.out;have:=HL.out;omega
    intro v5 w5 hr5 hb5 hg5 ha5
    have R5:=mk0 hr5
    have B5:=mk0 (B4.out.trans hb5)
    clear hr5 hb5 hg5 ha5
    go_wp2
    go_roundw
    case rel=>exact ⟨1+1,_,_,out++putV z,by omega,rfl,rfl,by go_num,HSX,⟨by rw[List.append_assoc];exact HE.out⟩,⟨by rw[List.length_append];have:=HO.out;have:=HZL.out;omega⟩,R5,B5⟩
    case measure=>simp[intOf];omega
   ·have k1:((k:Int)==0)=false:=by rw[beq_eq_false_iff_ne];omega
    have k2:(1:Int)<k:=by omega
    have k3:(0:Int)<k:=by omega
    have k4:0<k:=by omega
    have k5:¬ k=0:=by omega
    have k6:¬ (k:Int)=0:=by omega
    have hd2:wrap64 (n-last)=d:=hd.symm
    have hd3:wrap64 (d-step)=x:=hxx.symm
    clear hd hxx
    subst hst
    go_wp2_with fail
    refine (HZ.out wr).mono ?_
    rintro e w' ⟨rfl,rfl⟩
    go_wp2_with fail
    refine (HPZ.out wr).mono ?_
    rintro e w4 ⟨v4,rfl,hr4,hb4⟩
    have R4:=mk0 (Kd.R_below HR.out hb4)
    have B4:=mk0 (HB.out.trans (hb4.mono HB.out.size))
    obtain ⟨A4,c4,rfl,_,hC4⟩:=u8_R_len hr4
    have C4:=mk0 hC4
    clear hr4 hb4 hC4
    go_wp2_with (at_builtin;go_loud (refine u8_append (.tmp 37) (.tmp 40) 22 5 (.slice A3 out.length c3) out (putV z) _ _ _ w.heap.size rfl rfl Tryz.underlying22 info_u8 rfl rfl R4.out C4.out B4.out.size ?c1 ?_))
    case c1=>have:=HO.out;have:=HZL.out;have:=HL.out;omega
    intro v5 w5 hr5 hb5 hg5 ha5
    have R5:=mk0 hr5
    have B5:=mk0 (B4.out.trans hb5)
    clear hr5 hb5 hg5 ha5
    go_wp2
    go_roundw
    case rel=>exact ⟨k+1,_,_,out++putV z,by omega,rfl,rfl,by go_num,HSX,⟨by rw[List.append_assoc];exact HE.out⟩,⟨by rw[List.length_append];have:=HO.out;have:=HZL.out;omega⟩,R5,B5⟩
    case measure=>simp[intOf];omega
  ·obtain rfl:k=l.length:=by omega
   have HRE:=HE.out
   rw[List.drop_length,encD,List.append_nil] at HRE
   have HRE':=mk0 HRE
   clear HRE
   go_wp2
   go_ret
   exact ⟨_,rfl,by rw[← HRE'.out];exact HR.out,HB.out⟩
end Go.Proofs.YtpiobnfakmmpdaaGreat.Lib0

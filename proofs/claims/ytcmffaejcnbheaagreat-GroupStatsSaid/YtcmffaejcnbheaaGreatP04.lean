import Derived.Test.YtcmffaejcnbheaaGreatP03
set_option linter.unusedVariables false
set_option linter.unusedSimpArgs false
namespace Go.Proofs.YtcmffaejcnbheaaGreat.Lib0
open Go.RowKit Go.Proofs.YtcmffaejcnbheaaGreatW.PrintWords Go.ChangeMaps
theorem wrap64_in (n:Int):I64 (wrap64 n):=by unfold wrap64 I64;omega
def delD (i:Nat) (last n:Int):Int:=if i=0 then n else wrap64 (n-last)
def delX (i:Nat) (step d:Int):Int:=if 1<i then wrap64 (d-step) else d
def delS (i:Nat) (step d:Int):Int:=if 0<i then d else step
def encD:Nat→Int→Int→List Int→List UInt8
 | _,_,_,[]=>[]
 | i,last,step,n :: t=>putV (zig (delX i step (delD i last n)))++encD (i+1) n (delS i step (delD i last n)) t
def deltaB (l:List Int):List UInt8:=putV l.length++encD 0 0 0 l
theorem info_i64:(Tryz.prog.info? 2).map (fun i=>(i.zero,i.size,i.bytes))=some (some (.int .i64 0),1,8):=by kernel_rfl
theorem u8_nil (w:World):u8.C w none 0 []:=⟨rfl,by simp,fun h=>absurd h (by simp)⟩
set_option maxHeartbeats 6400000 in
set_option maxRecDepth 100000 in
theorem delta_Encode (A:Option Addr) (c:Nat) (l:List Int) (w:World) (h:(Kd.int .i64).C w A l.length l) (hl:l.length≤1073741824) (hi:∀ n ∈ l,I64 n) :
  Calls Tryz.prog 27 #[.slice A l.length c] w (Row 5 w (deltaB l)):=by
 have HC:=mk0 h
 have HI:=mk0 hi
 have HL:=mk0 hl
 have HP:=mk0 (v_Put none 0 [] l.length w (u8_nil w) (by simp) (by omega))
 rw[List.nil_append] at HP
 have hw:IntKind.u64.wrap (l.length:Int)=(l.length:Int):=by rw[IntKind.wrap_u64];omega
 clear h hi hl
 go_enter Tryz.func27,Tryz.ntmps27
 go_wp2_with fail
 refine HP.out.mono ?_
 rintro e w1 ⟨v1,rfl,hr1,hb1⟩
 have R1:=mk0 hr1
 have B1:=mk0 hb1
 clear hr1 hb1 HP hw
 go_wp2_with fail
 go_loopw[3,4,5,16] (fun v3 v4 v5 v16 wr=>∃ (k:Nat) (last step:Int) (out:List UInt8),k≤l.length∧v4 = .int .i64 last∧v5 = .int .i64 step∧v16 = .int .i64 k∧Aside0 (I64 step)∧Aside0 (out++encD k last step (l.drop k)=deltaB l)∧Aside0 (out.length≤10*(k+1))∧Aside0 (u8.R 5 wr w.heap.size (fun _=>True) v3 out)∧Aside0 (Below w.heap.size w wr)) (fun _ _ _ i _=>l.length-(intOf i).toNat)
 case atStart=>exact ⟨0,0,0,putV l.length,by omega,rfl,rfl,rfl,⟨by unfold I64;omega⟩,⟨rfl⟩,⟨by have:=putV_len10 (n:=l.length) (by have:=HL.out;omega);omega⟩,R1,B1⟩
 case round=>
  obtain ⟨k,last,step,out,hk,rfl,rfl,rfl,HS,HE,HO,HR,HB⟩:=hrel
  obtain ⟨A3,c3,rfl,_,_⟩:=u8_R_len HR.out
  by_cases hlt:k<l.length
  ·obtain ⟨b,o,rfl,hx⟩:=sc_open (Kd.C_below HC.out HB.out) (by omega)
   have hx1:=hx k hlt
   have hlt2:(k:Int)<l.length:=by omega
   have hkb:(k:Int)<1073741824:=by have:=HL.out;omega
   have HN:=mk0 (HI.out l[k] (List.getElem_mem hlt))
   rw[List.drop_eq_getElem_cons hlt,encD] at HE
   clear hx
   generalize l[k]=n at *
   obtain ⟨d,hd⟩:∃ d,d=delD k last n:=⟨_,rfl⟩
   obtain ⟨x,hxx⟩:∃ x,x=delX k step d:=⟨_,rfl⟩
   obtain ⟨st,hst⟩:∃ st,st=delS k step d:=⟨_,rfl⟩
   rw[← hd,← hxx,← hst] at HE
   have hdi:I64 d:=by rw[hd,delD];split;exact HN.out;exact wrap64_in _
   have HSX:=mk0 (show I64 st by rw[hst,delS];split;exact hdi;exact HS.out)
   have hxi:I64 x:=by rw[hxx,delX];split;exact wrap64_in _;exact hdi
   have HZ:=mk0 (fun W=>v_Zig x hxi W)
   have HPZ:=mk0 (fun W=>v_Put none 0 [] (zig x) W (u8_nil W) (by simp) (zig_lt hxi))
   simp only[List.nil_append] at HPZ
   have HZL:=mk0 (putV_len10 (zig_lt hxi))
   clear hxi hdi
   generalize zig x=z at *
   have hcase:(k=0∧d=n∧x=d∧st=step)∨(k=1∧d=wrap64 (n-last)∧x=d∧st=d)∨(1<k∧d=wrap64 (n-last)∧x=wrap64 (d-step)∧st=d):=by
    rcases (show k=0∨k=1∨1<k by omega) with h | h | h
    ·left;subst h;exact ⟨rfl,hd,hxx,hst⟩
    ·right;left;subst h;exact ⟨rfl,hd,hxx,hst⟩
    ·right;right
     exact ⟨h,by rw[hd,delD,if_neg (by omega)],by rw[hxx,delX,if_pos h],by rw[hst,delS,if_pos (by omega)]⟩
   clear hd hxx hst
   rcases hcase with ⟨hk0,hd,hxx,hst⟩ | ⟨hk0,hd,hxx,hst⟩ | ⟨hk0,hd,hxx,hst⟩
   ·subst hk0 hst hxx hd
    have hl0:(0:Int)<l.length:=by omega
    have hl1:0<l.length:=hlt
    rw[Nat.add_zero] at hx1
    clear hlt2 hkb
    go_wp2_with fail
    refine (HZ.out wr).mono ?_
    rintro e w' ⟨rfl,rfl⟩
    go_wp2_with fail
    refine (HPZ.out wr).mono ?_
    rintro e w4 ⟨v4,rfl,hr4,hb4⟩
    have R4:=mk0 (Kd.R_below HR.out hb4)
    have B4:=mk0 (HB.out.trans (hb4.mono HB.out.size))
    obtain ⟨A4,c4,rfl,_,hC4⟩:=u8_R_len hr4
    have C4:=mk0 hC4
    clear hr4 hb4 hC4
    go_wp2_with (at_builtin;go_loud (refine u8_append (.tmp 37) (.tmp 40) 24 5 (.slice A3 out.length c3) out (putV z) _ _ _ w.heap.size rfl rfl Tryz.underlying24 info_u8 rfl rfl R4.out C4.out B4.out.size ?c1 ?_))
    case c1=>have:=HO.out;have:=HZL.out;have:=HL.out;omega
    intro v5 w5 hr5 hb5 hg5 ha5
    have R5:=mk0 hr5
    have B5:=mk0 (B4.out.trans hb5)
    clear hr5 hb5 hg5 ha5
    go_wp2
    go_roundw
    case rel=>exact ⟨0+1,_,_,out++putV z,by omega,rfl,rfl,by go_num,HSX,⟨by rw[List.append_assoc];exact HE.out⟩,⟨by rw[List.length_append];have:=HO.out;have:=HZL.out;omega⟩,R5,B5⟩
    case measure=>simp[intOf];omega
   ·subst hk0
    have hd2:wrap64 (n-last)=d:=hd.symm
    have hl1:(1:Int)<l.length:=by omega
    clear hlt2 hkb hd
    subst hst hxx
    go_wp2_with fail
    refine (HZ.out wr).mono ?_
    rintro e w' ⟨rfl,rfl⟩
    go_wp2_with fail
    refine (HPZ.out wr).mono ?_
    rintro e w4 ⟨v4,rfl,hr4,hb4⟩
    have R4:=mk0 (Kd.R_below HR.out hb4)
    have B4:=mk0 (HB.out.trans (hb4.mono HB.out.size))
    obtain ⟨A4,c4,rfl,_,hC4⟩:=u8_R_len hr4
    have C4:=mk0 hC4
    clear hr4 hb4 hC4
    go_wp2_with (at_builtin;go_loud (refine u8_append (.tmp 37) (.tmp 40) 24 5 (.slice A3 out.length c3) out (putV z) _ _ _ w.heap.size rfl rfl Tryz.underlying24 info_u8 rfl rfl R4.out C4.out B4.out.size ?c1 ?_))
    case c1=>have:=HO.out;have:=HZL.out;have:=HL.out;omega
    intro v5 w5 hr5 hb5 hg5 ha5
    have R5:=mk0 hr5
    have B5:=mk0 (B4.out.trans hb5)
    clear hr5 hb5 hg5 ha5
    go_wp2
    go_roundw
    case rel=>exact ⟨1+1,_,_,out++putV z,by omega,rfl,rfl,by go_num,HSX,⟨by rw[List.append_assoc];exact HE.out⟩,⟨by rw[List.length_append];have:=HO.out;have:=HZL.out;omega⟩,R5,B5⟩
    case measure=>simp[intOf];omega
   ·have k1:((k:Int)==0)=false:=by rw[beq_eq_false_iff_ne];omega
    have k2:(1:Int)<k:=by omega
    have k3:(0:Int)<k:=by omega
    have k4:0<k:=by omega
    have k5:¬ k=0:=by omega
    have k6:¬ (k:Int)=0:=by omega
    have hd2:wrap64 (n-last)=d:=hd.symm
    have hd3:wrap64 (d-step)=x:=hxx.symm
    clear hd hxx
    subst hst
    go_wp2_with fail
    refine (HZ.out wr).mono ?_
    rintro e w' ⟨rfl,rfl⟩
    go_wp2_with fail
    refine (HPZ.out wr).mono ?_
    rintro e w4 ⟨v4,rfl,hr4,hb4⟩
    have R4:=mk0 (Kd.R_below HR.out hb4)
    have B4:=mk0 (HB.out.trans (hb4.mono HB.out.size))
    obtain ⟨A4,c4,rfl,_,hC4⟩:=u8_R_len hr4
    have C4:=mk0 hC4
    clear hr4 hb4 hC4
    go_wp2_with (at_builtin;go_loud (refine u8_append (.tmp 37) (.tmp 40) 24 5 (.slice A3 out.length c3) out (putV z) _ _ _ w.heap.size rfl rfl Tryz.underlying24 info_u8 rfl rfl R4.out C4.out B4.out.size ?c1 ?_))
    case c1=>have:=HO.out;have:=HZL.out;have:=HL.out;omega
    intro v5 w5 hr5 hb5 hg5 ha5
    have R5:=mk0 hr5
    have B5:=mk0 (B4.out.trans hb5)
    clear hr5 hb5 hg5 ha5
    go_wp2
    go_roundw
    case rel=>exact ⟨k+1,_,_,out++putV z,by omega,rfl,rfl,by go_num,HSX,⟨by rw[List.append_assoc];exact HE.out⟩,⟨by rw[List.length_append];have:=HO.out;have:=HZL.out;omega⟩,R5,B5⟩
    case measure=>simp[intOf];omega
  ·obtain rfl:k=l.length:=by omega
   have HRE:=HE.out
   rw[List.drop_length,encD,List.append_nil] at HRE
   have HRE':=mk0 HRE
   clear HRE
   go_wp2
   go_ret
   exact ⟨_,rfl,by rw[← HRE'.out];exact HR.out,HB.out⟩
end Go.Proofs.YtcmffaejcnbheaaGreat.Lib0
namespace Go.Proofs.YtcmffaejcnbheaaGreat.Lib0
open Go.RowKit Go.Proofs.YtcmffaejcnbheaaGreatW.PrintWords Go.ChangeMaps
section
variable {P:Program} {ops:Array Oper} {rest:List Oper} {o:Oper} {a:Act} {Q:Exit→Act→World→Prop}
theorem int_append {W:World} (s x:Operand) (t e:TypeId) (v:Value) (xs:List Int) (p:Int) (base:Nat)
  (hgd:o.guard=none) (ho:o.op = .call { callee:=.builtin .append,args:=#[s,x],argTypes:=#[t,t] })
  (ht:P.underlying t=some (.slice e)) (hinfo:(P.info? e).map (fun i=>(i.zero,i.size,i.bytes))=some (some (.int .i64 0),1,8))
  (hs:a.eval s=v) (hx:a.eval x = .slice (some ⟨W.heap.size,0,none⟩) 1 1)
  (HO:(Kd.int .i64).R e W base (fun _=>True) v xs) (hbase:base≤W.heap.size) (hl:xs.length≤1099511627776)
  (h:∀ v1 w1,(Kd.int .i64).R e w1 base (fun _=>True) v1 (xs++[p])→Below base W w1→W.grownBy w1 v.ownBlock→(v1.ownBlock=v.ownBlock∨∃ b,v1.ownBlock=some b∧W.heap.size≤b)→wpList P ops Q rest (a.put o.dst v1) w1) :
  wpList P ops Q (o :: rest) a (W.alloc (.cells #[.int .i64 p] e)):=
 Kd.R_append (Kd.int .i64) (w0:=W) base hgd s x t e (.int .i64 0) 8 ho ht hinfo rfl (by decide) (by decide) v xs p [.int .i64 p] (fun _=>True) (fun _=>False) hs hx rfl (fun _ hk=>hk.elim) (fun _ _=>trivial)
  HO (Below.refl _ _) hbase (by omega) h
end
def decX (i:Nat) (step x:Int):Int:=if 1<i then wrap64 (x+step) else x
def decL (l:List UInt8):Nat→Nat→Int→Int→Int→List Int→List Int × Int × Int
 | 0,_,_,_,en,acc=>(acc,en,0)
 | m+1,i,last,step,en,acc=>
  if (getA l en).2.2≠0 then ([],0,(getA l en).2.2)
  else decL l m (i+1) (wrap64 (last+decX i step (zag (getA l en).1))) (delS i step (decX i step (zag (getA l en).1))) (endA en (getA l en)) (acc++[wrap64 (last+decX i step (zag (getA l en).1))])
def deltaR (l:List UInt8) (a:Int) (most:Nat):List Int × Int × Int:=
 if (getA l a).2.2≠0 then ([],0,(getA l a).2.2)
 else if most<(getA l a).1 then ([],0,4)
 else decL l (getA l a).1 0 0 0 (endA a (getA l a)) []
def ToldInts (T:TypeId) (w:World) (r:List Int × Int × Int) (e:Ending) (w':World):Prop:=
 ∃ v,e = .returned (.tuple #[v,.int .i64 r.2.1,.int .i64 r.2.2])∧(Kd.int .i64).R T w' w.heap.size (fun _=>True) v r.1∧Below w.heap.size w w'
set_option maxHeartbeats 16000000 in
set_option maxRecDepth 100000 in
theorem delta_Decode (A:Option Addr) (c:Nat) (l:List UInt8) (a:Int) (most:Nat) (w:World) (h:u8.C w A l.length l) (hc:l.length≤c) (hl:l.length≤1073741824) (hm:most≤1073741824) :
  Calls Tryz.prog 36 #[.slice A l.length c,.int .i64 a,.int .i64 most] w (ToldInts 2 w (deltaR l a most)):=by
 have HG:=mk0 (v_GetA A c l a w h hc (by omega))
 have HGZ:=mk0 (fun (W:World) (hb:Below w.heap.size w W) (en:Int)=>v_GetZag A c l en W (Kd.C_below h hb) hc (by omega))
 have HLT:=mk0 (getA_lt l)
 unfold Told3 at HG
 change Aside0 (Calls _ _ _ _ fun e w'=>e = .returned (.tuple #[.int .u64 (getA l a).1,.int .i64 (endA a (getA l a)),.int .i64 (getA l a).2.2])∧w=w') at HG
 have hmost0:(0:Int)≤most:=Int.natCast_nonneg _
 have hwm:IntKind.u64.wrap (most:Int)=(most:Int):=by rw[IntKind.wrap_u64];omega
 have HM:=mk0 hm
 clear h hc hl hm
 unfold deltaR
 obtain ⟨en0,hen0⟩:∃ x,x=endA a (getA l a):=⟨_,rfl⟩
 obtain ⟨n,hn⟩:∃ x,x=(getA l a).1:=⟨_,rfl⟩
 obtain ⟨why,hwhy⟩:∃ x,x=(getA l a).2.2:=⟨_,rfl⟩
 rw[← hen0,← hn,← hwhy] at HG ⊢
 clear hen0 hn hwhy
 by_cases h0:why=0
 ·subst h0
  rw[if_neg (by simp)]
  by_cases h1:most<n
  ·have h1i:(most:Int)<n:=by omega
   rw[if_pos h1]
   go_enter Tryz.func36,Tryz.ntmps36
   go_wp2_with fail
   refine HG.out.mono ?_
   rintro e w' ⟨rfl,rfl⟩
   go_wp2
   go_ret3
   exact ⟨_,rfl,Kd.R_nil _ _ _ _ _,Below.refl _ _⟩
  ·have h1i:¬ (most:Int)<n:=by omega
   rw[if_neg h1]
   have HNB:=mk0 (show n≤1073741824 by have:=HM.out;omega)
   obtain ⟨R,hR⟩:∃ R,R=decL l n 0 0 0 en0 []:=⟨_,rfl⟩
   rw[← hR]
   have HRR:=mk0 hR.symm
   clear hR
   go_enter Tryz.func36,Tryz.ntmps36
   go_wp2_with fail
   refine HG.out.mono ?_
   rintro e w' ⟨rfl,rfl⟩
   go_wp2_with fail
   go_loopw[10,12,13,14,37] (fun v10 v12 v13 v14 v37 wr=>∃ (k m:Nat) (en last step:Int) (out:List Int),Aside0 (k+m=n)∧v10 = .int .i64 en∧v13 = .int .i64 last∧v14 = .int .i64 step∧v37 = .int .u64 k∧Aside0 (decL l m k last step en out=R)∧Aside0 (out.length≤k)∧Aside0 ((Kd.int .i64).R 2 wr w.heap.size (fun _=>True) v12 out)∧Aside0 (Below w.heap.size w wr)) (fun _ _ _ _ i _=>n-(intOf i).toNat)
   case atStart=>exact ⟨0,n,en0,0,0,[],⟨by omega⟩,rfl,rfl,rfl,rfl,HRR,⟨by simp⟩,⟨Kd.R_nil _ _ _ _ _⟩,⟨Below.refl _ _⟩⟩
   case round=>
    obtain ⟨k,m,en,last,step,out,HK,rfl,rfl,rfl,rfl,HE,HO,HR,HB⟩:=hrel
    obtain ⟨A12,c12,rfl,_,_⟩:=Kd.R_reads HR.out
    rcases m with _ | m
    ·have hkn:¬ (k:Int)<n:=by have:=HK.out;omega
     have hkn2:¬ k<n:=by have:=HK.out;omega
     have HS:=mk0 (show R=(out,en,0) by rw[← HE.out,decL])
     go_wp2
     go_ret3
     rw[HS.out]
     exact ⟨_,rfl,HR.out,HB.out⟩
    ·have hkn:(k:Int)<n:=by have:=HK.out;omega
     have hkb:(k:Int)<1073741824:=by have:=HK.out;have:=HNB.out;omega
     have HZ:=mk0 (HGZ.out wr HB.out en)
     rw[decL] at HE
     have HZB:=mk0 (zag_in (HLT.out en).1)
     generalize zag (getA l en).1=z at *
     generalize endA en (getA l en)=en2 at *
     generalize (getA l en).2.2=why at *
     by_cases hw0:why=0
     ·subst hw0
      rw[if_neg (by simp)] at HE
      obtain ⟨x,hxx⟩:∃ x,x=decX k step z:=⟨_,rfl⟩
      obtain ⟨st,hst⟩:∃ st,st=delS k step x:=⟨_,rfl⟩
      obtain ⟨la,hla⟩:∃ la,la=wrap64 (last+x):=⟨_,rfl⟩
      rw[← hxx,← hla,← hst] at HE
      have hcase:(k=0∧x=z∧st=step)∨(k=1∧x=z∧st=x)∨(1<k∧x=wrap64 (z+step)∧st=x):=by
       rcases (show k=0∨k=1∨1<k by omega) with h | h | h
       ·left;subst h;exact ⟨rfl,hxx,hst⟩
       ·right;left;subst h;exact ⟨rfl,hxx,hst⟩
       ·right;right
        exact ⟨h,by rw[hxx,decX,if_pos h],by rw[hst,delS,if_pos (by omega)]⟩
      clear hxx hst
      have hla2:wrap64 (last+x)=la:=hla.symm
      clear hla
      rcases hcase with ⟨hk0,hxx,hst⟩ | ⟨hk0,hxx,hst⟩ | ⟨hk0,hxx,hst⟩
      ·subst hk0 hst hxx
       have hn1:(0:Int)<n:=by omega
       have hn2:0<n:=by omega
       clear hkn hkb
       go_wp2_with fail
       refine HZ.out.mono ?_
       rintro e w' ⟨rfl,rfl⟩
       go_wp2_with (at_builtin;go_loud (refine int_append (.tmp 62) (.tmp 64) 52 2 (.slice A12 out.length c12) out la w.heap.size rfl rfl Tryz.underlying52 info_i64 rfl rfl HR.out HB.out.size ?c1 ?_))
       case c1=>have:=HO.out;have:=HK.out;have:=HNB.out;omega
       intro v5 w5 hr5 hb5 hg5 ha5
       have R5:=mk0 hr5
       have B5:=mk0 (HB.out.trans hb5)
       clear hr5 hb5 hg5 ha5
       go_wp2
       go_roundw
       case rel=>exact ⟨0+1,m,_,_,_,out++[la],⟨by have:=HK.out;omega⟩,rfl,rfl,rfl,by go_num,HE,⟨by rw[List.length_append,List.length_singleton];have:=HO.out;omega⟩,R5,B5⟩
       case measure=>have:=HK.out;simp[intOf];omega
      ·subst hk0 hst hxx
       have hn1:(1:Int)<n:=by omega
       clear hkn hkb
       go_wp2_with fail
       refine HZ.out.mono ?_
       rintro e w' ⟨rfl,rfl⟩
       go_wp2_with (at_builtin;go_loud (refine int_append (.tmp 62) (.tmp 64) 52 2 (.slice A12 out.length c12) out la w.heap.size rfl rfl Tryz.underlying52 info_i64 rfl rfl HR.out HB.out.size ?c1 ?_))
       case c1=>have:=HO.out;have:=HK.out;have:=HNB.out;omega
       intro v5 w5 hr5 hb5 hg5 ha5
       have R5:=mk0 hr5
       have B5:=mk0 (HB.out.trans hb5)
       clear hr5 hb5 hg5 ha5
       go_wp2
       go_roundw
       case rel=>exact ⟨1+1,m,_,_,_,out++[la],⟨by have:=HK.out;omega⟩,rfl,rfl,rfl,by go_num,HE,⟨by rw[List.length_append,List.length_singleton];have:=HO.out;omega⟩,R5,B5⟩
       case measure=>have:=HK.out;simp[intOf];omega
      ·have k1:((k:Int)==0)=false:=by rw[beq_eq_false_iff_ne];omega
       have k2:(1:Int)<k:=by omega
       have k3:(0:Int)<k:=by omega
       have k4:0<k:=by omega
       have k5:¬ k=0:=by omega
       have k6:¬ (k:Int)=0:=by omega
       have hx2:wrap64 (z+step)=x:=hxx.symm
       clear hxx
       subst hst
       go_wp2_with fail
       refine HZ.out.mono ?_
       rintro e w' ⟨rfl,rfl⟩
       go_wp2_with (at_builtin;go_loud (refine int_append (.tmp 62) (.tmp 64) 52 2 (.slice A12 out.length c12) out la w.heap.size rfl rfl Tryz.underlying52 info_i64 rfl rfl HR.out HB.out.size ?c1 ?_))
       case c1=>have:=HO.out;have:=HK.out;have:=HNB.out;omega
       intro v5 w5 hr5 hb5 hg5 ha5
       have R5:=mk0 hr5
       have B5:=mk0 (HB.out.trans hb5)
       clear hr5 hb5 hg5 ha5
       go_wp2
       go_roundw
       case rel=>exact ⟨k+1,m,_,_,_,out++[la],⟨by have:=HK.out;omega⟩,rfl,rfl,rfl,by go_num,HE,⟨by rw[List.length_append,List.length_singleton];have:=HO.out;omega⟩,R5,B5⟩
       case measure=>have:=HK.out;simp[intOf];omega
     ·have h0b:(why==0)=false:=by rw[beq_eq_false_iff_ne];exact hw0
      have h0c:(why != 0)=true:=by simp[bne,h0b]
      rw[if_pos hw0] at HE
      have HS:=mk0 HE.out.symm
      clear hw0 HE
      go_wp2_with fail
      refine HZ.out.mono ?_
      rintro e w' ⟨rfl,rfl⟩
      go_wp2
      go_ret3
      rw[HS.out]
      exact ⟨_,rfl,Kd.R_nil _ _ _ _ _,HB.out⟩
 ·rw[if_pos h0]
  have h0b:(why==0)=false:=by rw[beq_eq_false_iff_ne];exact h0
  have h0c:(why != 0)=true:=by simp[bne,h0b]
  clear h0
  go_enter Tryz.func36,Tryz.ntmps36
  go_wp2_with fail
  refine HG.out.mono ?_
  rintro e w' ⟨rfl,rfl⟩
  go_wp2
  go_ret3
  exact ⟨_,rfl,Kd.R_nil _ _ _ _ _,Below.refl _ _⟩
end Go.Proofs.YtcmffaejcnbheaaGreat.Lib0

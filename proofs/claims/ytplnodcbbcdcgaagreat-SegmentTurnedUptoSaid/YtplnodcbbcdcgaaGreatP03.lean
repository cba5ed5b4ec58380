import Derived.StillTailTactics
import Derived.IntWalk
import Derived.Test.YtplnodcbbcdcgaaGreatP02
set_option linter.unusedVariables false
set_option linter.unusedSimpArgs false
namespace Go.Proofs.YtplnodcbbcdcgaaGreat.Lib0
open Go.RowKit Go.Proofs.YtplnodcbbcdcgaaGreatW.PrintWords
attribute [local go_sem] u32_all
theorem le4_un4 (a b c d:UInt8):le4 (un4 a b c d) = [a,b,c,d]:=by
 have:=a.toNat_lt
 have:=b.toNat_lt
 have:=c.toNat_lt
 have:=d.toNat_lt
 have h:∀ (x:UInt8) (n:Nat),n%256=x.toNat→UInt8.ofNat n=x:=fun x n hn=>by
  apply UInt8.toNat.inj
  simpa using hn
 unfold le4 un4
 rw[h a _ (by omega),h b _ (by omega),h c _ (by omega),h d _ (by omega)]
theorem openL_ok (l:List UInt8) (a:Int) (h:(openL l a).2.2=0) :
  ∃ t,l=sealB (openL l a).1++t∧(openL l a).2.1=a+(openL l a).1.length+12∧(openL l a).1.length≤1048576:=by
 unfold openL at h ⊢
 split at h
 ·rename_i b0 b1 b2 b3 c0 c1 c2 c3 t
  simp only at h ⊢
  have hu:=un4_lt b0 b1 b2 b3
  have hu':=un4_lt c0 c1 c2 c3
  split at h
  ·simp at h
  rename_i h1
  rw[if_neg h1]
  split at h
  ·simp at h
  rename_i h2
  rw[if_neg h2]
  split at h
  ·simp at h
  rename_i h3
  rw[if_neg h3]
  obtain ⟨d0,d1,d2,d3,t2,ht⟩:=four_ (t.drop (un4 b0 b1 b2 b3)) (by rw[List.length_drop];omega)
  simp only[ht] at h ⊢
  split at h
  ·simp at h
  rename_i h4
  rw[if_neg h4]
  have hl:(t.take (un4 b0 b1 b2 b3)).length=un4 b0 b1 b2 b3:=by rw[List.length_take];omega
  refine ⟨t2,?_,by rw[hl],by rw[hl];omega⟩
  have e1:=le4_un4 b0 b1 b2 b3
  have e2:=le4_un4 c0 c1 c2 c3
  have e3:=le4_un4 d0 d1 d2 d3
  have h1':un4 c0 c1 c2 c3=4294967295-un4 b0 b1 b2 b3:=by omega
  have h4':(crc (t.take (un4 b0 b1 b2 b3))).toNat=un4 d0 d1 d2 d3:=by
   have:=crc_range (t.take (un4 b0 b1 b2 b3))
   omega
  simp only[sealB,hl,h4',← h1',e1,e2,e3]
  have:t=t.take (un4 b0 b1 b2 b3)++(d0 :: d1 :: d2 :: d3 :: t2):=by rw[← ht,List.take_append_drop]
  simp only[List.cons_append,List.nil_append,List.append_assoc,List.cons.injEq,true_and]
  exact this
 ·simp at h
theorem openL_bound (l:List UInt8) (a:Int) (h:(openL l a).2.2=0):(openL l a).2.1=a+(openL l a).1.length+12∧(openL l a).1.length+12≤l.length:=by
 obtain ⟨t,h1,h2,h3⟩:=openL_ok l a h
 refine ⟨h2,?_⟩
 have:=congrArg List.length h1
 simp[sealB,le4] at this
 omega
theorem openB_ok (b:List UInt8) (a:Int) (h:(openB b a).2.2=0):0≤a∧(openB b a).2.1=a+(openB b a).1.length+12∧(openB b a).2.1≤b.length:=by
 unfold openB at h ⊢
 split at h
 ·simp at h
 ·rename_i hn
  rw[if_neg hn]
  obtain ⟨h1,h2⟩:=openL_bound _ _ h
  rw[List.length_drop] at h2
  refine ⟨by omega,h1,by omega⟩
def allF:Nat→List UInt8→Int→List (List UInt8) × Int × Int
 | 0,_,at_=>([],at_,0)
 | k+1,b,at_=>
  if at_<b.length then
   if (openB b at_).2.2≠0 then ([],at_,(openB b at_).2.2)
   else ((openB b at_).1 :: (allF k b (openB b at_).2.1).1,(allF k b (openB b at_).2.1).2)
  else ([],at_,0)
def allB (b:List UInt8):List (List UInt8) × Int × Int:=allF (b.length+1) b 0
abbrev bb:Kd (List UInt8):=Kd.slice 5 u8
theorem info_bb:(Tryz.prog.info? 23).map (fun i=>(i.zero,i.size,i.bytes))=some (some (.slice none 0 0),1,24):=by kernel_rfl
def ToldAll (T:TypeId) (w:World) (r:List (List UInt8) × Int × Int) (e:Ending) (w':World):Prop:=
 ∃ v,e = .returned (.tuple #[v,.int .i64 r.2.1,.int .i64 r.2.2])∧bb.R T w' w.heap.size (fun _=>True) v r.1∧Below w.heap.size w w'
section
variable {P:Program} {ops:Array Oper} {rest:List Oper} {o:Oper} {a:Act} {Q:Exit→Act→World→Prop}
theorem bb_append {W W0:World} (s x:Operand) (t:TypeId) (v u:Value) (xs:List (List UInt8)) (p:List UInt8) (base:Nat)
  (hgd:o.guard=none) (ho:o.op = .call { callee:=.builtin .append,args:=#[s,x],argTypes:=#[t,t] })
  (ht:P.underlying t=some (.slice 23)) (hinfo:(P.info? 23).map (fun i=>(i.zero,i.size,i.bytes))=some (some (.slice none 0 0),1,24))
  (hs:a.eval s=v) (hx:a.eval x = .slice (some ⟨W.heap.size,0,none⟩) 1 1)
  (H0:bb.R 23 W0 base (fun _=>True) v xs) (HP:u8.R 5 W W0.heap.size (fun _=>True) u p) (hB0:Below W0.heap.size W0 W) (hbase:base≤W0.heap.size) (hl:xs.length≤1099511627776)
  (h:∀ v1 w1,bb.R 23 w1 base (fun _=>True) v1 (xs++[p])→Below base W w1→W.grownBy w1 v.ownBlock→(v1.ownBlock=v.ownBlock∨∃ b,v1.ownBlock=some b∧W.heap.size≤b)→wpList P ops Q rest (a.put o.dst v1) w1) :
  wpList P ops Q (o :: rest) a (W.alloc (.cells #[u] 23)):=by
 obtain ⟨inner,hin⟩:=Kd.R_own H0
 have HP':=Kd.R_lower (Kd.R_new HP hin) hbase
 exact Kd.R_append bb (w0:=W) base hgd s x t 23 (.slice none 0 0) 24 ho ht hinfo rfl (by decide) (by decide) v xs p [u] (fun _=>True) (fun k=>True∧some k≠v.ownBlock) hs hx ⟨u,rfl,HP'⟩ (fun _ hk=>hk) (fun _ _=>trivial)
  (Kd.R_below H0 hB0) (Below.refl _ _) (Nat.le_trans hbase hB0.size) (by omega) h
end
set_option maxHeartbeats 1600000 in
set_option maxRecDepth 100000 in
theorem block_All (A:Option Addr) (c:Nat) (l:List UInt8) (w:World) (h:u8.C w A l.length l) (hc:l.length≤c) (hl:l.length≤1099511627776) :
  Calls Tryz.prog 29 #[.slice A l.length c] w (ToldAll 23 w (allB l)):=by
 have HC:=mk0 h
 have HL:=mk0 hl
 have hm:=u8_len h
 clear h hl
 go_enter Tryz.func29,Tryz.ntmps29
 go_wp2
 go_loopw[5,6] (fun v5 v6 wr=>∃ (i:Nat) (k:Nat) (acc:List (List UInt8)),i≤l.length∧v6 = .int .i64 i∧Aside0 (l.length<i+k)∧Aside0 (acc.length≤i)∧Aside0 (acc++(allF k l i).1=(allB l).1)∧Aside0 ((allF k l i).2=(allB l).2)∧Aside0 (bb.R 23 wr w.heap.size (fun _=>True) v5 acc)∧Aside0 (Below w.heap.size w wr)) (fun _ i _=>l.length-(intOf i).toNat)
 case atStart=>exact ⟨0,l.length+1,[],by omega,rfl,⟨by omega⟩,⟨by simp⟩,⟨rfl⟩,⟨rfl⟩,⟨Kd.R_nil _ _ _ _ _⟩,⟨Below.refl _ _⟩⟩
 case round=>
  obtain ⟨i,k,acc,hi,rfl,HK,HA,H1,H2,HR,HB⟩:=hrel
  cases k with
  | zero=>exact absurd HK.out (by omega)
  | succ k=>
  by_cases hlt:i<l.length
  ·have hlt':(i:Int)<l.length:=by omega
   have G1:=H1.out
   have G2:=H2.out
   simp only[allF,if_pos hlt'] at G1 G2
   replace H1:=mk0 G1
   replace H2:=mk0 G2
   clear G1 G2
   have OK:=mk0 (openB_ok l (i:Int))
   have CR:=mk0 (Kd.C_below HC.out HB.out)
   have hc':=block_Open_in A c l (i:Int) wr CR.out hc (by omega) (by omega)
   generalize openB l (i:Int)=r at *
   obtain ⟨body,end_,why⟩:=r
   try dsimp only at *
   have CA:=mk0 hc'
   clear hc'
   go_wp2_with fail
   refine CA.out.mono ?_
   rintro e w1 ⟨v1,rfl,hr1,hb1⟩
   obtain ⟨A1,c1,rfl,hl1,hC1⟩:=u8_R_len hr1
   clear hC1 hl1
   have R1:=mk0 hr1
   have B1:=mk0 hb1
   clear hr1 hb1 CA
   have B2:=mk0 (HB.out.trans (B1.out.mono HB.out.size))
   try dsimp only at *
   by_cases hw:why=0
   ·subst hw
    have o1:=OK.out rfl
    try dsimp only at o1
    obtain ⟨o1,o2,o3⟩:=o1
    obtain ⟨j,rfl⟩:=Int.eq_ofNat_of_zero_le (show 0≤end_ by omega)
    have G1:=H1.out
    have G2:=H2.out
    simp only[ne_eq,not_true_eq_false,if_false] at G1 G2
    replace H1:=mk0 G1
    replace H2:=mk0 G2
    have hj:i+12≤j:=by omega
    have hj2:j≤l.length:=by omega
    clear G1 G2 OK o1 o2 o3
    go_wp2_with (at_builtin;go_loud (refine bb_append (.tmp 26) (.tmp 28) 59 u5 _ acc body w.heap.size rfl rfl Tryz.underlying59 info_bb rfl rfl HR.out R1.out B1.out HB.out.size ?c1 ?_))
    case c1=>have:=HA.out;have:=HL.out;omega
    intro v2 w2 hr2 hb2 hg2 ha2
    have R2:=mk0 hr2
    have B3:=mk0 (B2.out.trans hb2)
    clear hr2 hb2 hg2 ha2
    go_wp2
    go_roundw
    case rel=>exact ⟨j,k,acc++[body],hj2,by first | rfl | go_num,⟨by have:=HK.out;omega⟩,⟨by have:=HA.out;simp;omega⟩,⟨by rw[List.append_assoc];exact H1.out⟩,H2,R2,B3⟩
    case measure=>simp[intOf];omega
   ·have G1:=H1.out
    have G2:=H2.out
    rw[if_pos hw] at G1 G2
    replace H1:=mk0 G1
    replace H2:=mk0 G2
    have hwb:((why:Int) != 0)=true:=by simpa using hw
    clear G1 G2 OK hw
    go_wp2
    go_ret3
    refine ⟨u5,?_,?_,B2.out⟩
    ·rw[← H2.out];rfl
    ·rw[← H1.out]
     simpa using Kd.R_below HR.out B1.out
  ·obtain rfl:i=l.length:=by omega
   have G1:=H1.out
   have G2:=H2.out
   simp only[allF,if_neg (Int.lt_irrefl _)] at G1 G2
   replace H1:=mk0 G1
   replace H2:=mk0 G2
   clear G1 G2
   go_wp2
   go_ret3
   refine ⟨u5,?_,?_,HB.out⟩
   ·rw[← H2.out];rfl
   ·rw[← H1.out]
    simpa using HR.out
theorem bb_at {w:World} {A:Option Addr} {n:Nat} {l:List (List UInt8)} (h:bb.C w A n l) (k:Nat) (hk:k<l.length) :
  ∃ ad B c,A=some ad∧w.cell? (ad.add k)=some (.slice B (l[k]).length c)∧(l[k]).length≤c∧u8.C w B (l[k]).length l[k]:=by
 obtain ⟨ad,e,hc⟩:=h.2.2 (by have:=h.1;omega)
 obtain ⟨c,hl,hk',hcell⟩:=hc k _ (List.getElem?_eq_getElem hk)
 obtain ⟨B,c',hcc,hle,hC⟩:=hk'
 subst hcc
 refine ⟨ad,B,c',e,?_,hle,hC⟩
 have:=hcell 0 _ rfl
 have e1:k*bb.sz+0=k:=by show k*1+0=k;omega
 rwa [e1] at this
end Go.Proofs.YtplnodcbbcdcgaaGreat.Lib0
namespace Go.Proofs.YtplnodcbbcdcgaaGreat.Lib0
open Go.RowKit Go.Proofs.YtplnodcbbcdcgaaGreatW.PrintWords
theorem un4_le4 (n:Nat) (h:n<4294967296):un4 (UInt8.ofNat n) (UInt8.ofNat (n/256)) (UInt8.ofNat (n/65536)) (UInt8.ofNat (n/16777216))=n:=by
 unfold un4
 simp only[UInt8.toNat_ofNat']
 omega
theorem openL_seal (x t:List UInt8) (a:Int) (hx:x.length≤1048576):openL (sealB x++t) a=(x,a+x.length+12,0):=by
 have hc:=crc_range x
 have h1:sealB x++t=UInt8.ofNat x.length :: UInt8.ofNat (x.length/256) :: UInt8.ofNat (x.length/65536) :: UInt8.ofNat (x.length/16777216) ::
   UInt8.ofNat (4294967295-x.length) :: UInt8.ofNat ((4294967295-x.length)/256) :: UInt8.ofNat ((4294967295-x.length)/65536) :: UInt8.ofNat ((4294967295-x.length)/16777216) ::
   (x++(UInt8.ofNat (crc x).toNat :: UInt8.ofNat ((crc x).toNat/256) :: UInt8.ofNat ((crc x).toNat/65536) :: UInt8.ofNat ((crc x).toNat/16777216) :: t)):=by
  simp[sealB,le4]
 rw[h1,openL_eight,un4_le4 _ (by omega),un4_le4 _ (by omega)]
 rw[if_neg (by omega),if_neg (by omega),if_neg (by simp)]
 rw[List.drop_left,List.take_left]
 simp only[]
 rw[un4_le4 _ (by omega),if_neg (by omega)]
def recs (l:List (List UInt8)):List UInt8:=(l.map sealB).flatten
theorem recs_nil:recs [] = []:=rfl
theorem recs_cons (x:List UInt8) (l:List (List UInt8)):recs (x :: l)=sealB x++recs l:=by simp[recs]
theorem recs_append (l m:List (List UInt8)):recs (l++m)=recs l++recs m:=by simp[recs]
theorem sealB_len' (l:List UInt8):(sealB l).length=l.length+12:=by simp[sealB,le4]
theorem recs_len (l:List (List UInt8)):l.length*12≤(recs l).length:=by
 induction l with
 | nil=>simp
 | cons x l ih=>rw[recs_cons,List.length_append,sealB_len',List.length_cons];omega
def Stops (t:List UInt8):Prop:=t = []∨∀ a,(openL t a).2.2≠0
theorem allF_recs (l:List (List UInt8)) (hl:∀ x ∈ l,x.length≤1048576):∀ (k:Nat) (pre t:List UInt8),l.length<k→Stops t→
  (allF k (pre++recs l++t) pre.length).1=l∧(allF k (pre++recs l++t) pre.length).2.1=(pre++recs l).length:=by
 induction l with
 | nil=>
  intro k pre t hk ht
  obtain ⟨k,rfl⟩:∃ j,k=j+1:=⟨k-1,by simp at hk;omega⟩
  rw[recs_nil,List.append_nil]
  unfold allF
  by_cases hlt:(pre.length:Int)<(pre++t).length
  ·rw[if_pos hlt]
   have h2:(openB (pre++t) pre.length).2.2≠0:=by
    rcases ht with rfl | ht
    ·simp at hlt
    ·unfold openB
     rw[if_neg (by simp;omega),Int.toNat_natCast,List.drop_left]
     exact ht _
   rw[if_pos h2]
   exact ⟨rfl,rfl⟩
  ·rw[if_neg hlt]
   exact ⟨rfl,rfl⟩
 | cons x l ih=>
  intro k pre t hk ht
  obtain ⟨k,rfl⟩:∃ j,k=j+1:=⟨k-1,by simp at hk;omega⟩
  have hx:=hl x (by simp)
  have ho:openB (pre++recs (x :: l)++t) pre.length=(x,(pre.length:Int)+x.length+12,0):=by
   unfold openB
   rw[if_neg (by simp;omega),Int.toNat_natCast,List.append_assoc,List.drop_left,recs_cons,List.append_assoc,openL_seal _ _ _ hx]
  unfold allF
  rw[ho,if_pos (by rw[recs_cons];simp[sealB_len'];omega),if_neg (by simp)]
  have:=ih (fun y hy=>hl y (by simp[hy])) k (pre++sealB x) t (by simpa using hk) ht
  have e1:((pre++sealB x).length:Int)=(pre.length:Int)+x.length+12:=by simp[sealB_len'];omega
  have e2:pre++sealB x++recs l++t=pre++recs (x :: l)++t:=by rw[recs_cons];simp
  have e3:pre++sealB x++recs l=pre++recs (x :: l):=by rw[recs_cons];simp
  rw[e1,e2,e3] at this
  exact ⟨by rw[this.1],this.2⟩
theorem allB_recs (l:List (List UInt8)) (hl:∀ x ∈ l,x.length≤1048576) (t:List UInt8) (ht:Stops t):(allB (recs l++t)).1=l∧(allB (recs l++t)).2.1=(recs l).length:=by
 have h:=allF_recs l hl ((recs l++t).length+1) [] t (by have:=recs_len l;rw[List.length_append];omega) ht
 simpa [allB] using h
theorem allB_whole (l:List (List UInt8)) (hl:∀ x ∈ l,x.length≤1048576):(allB (recs l)).1=l∧(allB (recs l)).2.1=(recs l).length:=by
 have:=allB_recs l hl [] (.inl rfl)
 simpa using this
theorem allF_is:∀ (k:Nat) (b:List UInt8) (n:Nat),n≤b.length→b.length<n+k→∃ t,b.drop n=recs (allF k b n).1++t∧(allF k b n).2.1=n+(recs (allF k b n).1).length∧(∀ x ∈ (allF k b n).1,x.length≤1048576)∧Stops t
 | 0,b,n,hn,hk=>by omega
 | k+1,b,n,hn,hk=>by
  unfold allF
  by_cases hlt:(n:Int)<b.length
  ·rw[if_pos hlt]
   have hob:openB b n=openL (b.drop n) n:=by unfold openB;rw[if_neg (by omega),Int.toNat_natCast]
   by_cases he:(openB b n).2.2≠0
   ·rw[if_pos he]
    refine ⟨b.drop n,by simp[recs],by simp[recs],by simp,.inr fun a=>?_⟩
    rw[hob] at he
    intro h
    apply he
    obtain ⟨t,h1,h2,h3⟩:=openL_ok _ _ h
    rw[h1,openL_seal _ _ _ h3]
   ·rw[if_neg he]
    have he':(openL (b.drop n) n).2.2=0:=by rw[← hob];simpa using he
    obtain ⟨t1,h1,h2,h3⟩:=openL_ok _ _ he'
    rw[hob]
    generalize openL (b.drop n) n=r at *
    obtain ⟨x,e,y⟩:=r
    simp only at h1 h2 h3 ⊢
    have hlen:=congrArg List.length h1
    rw[List.length_drop,List.length_append,sealB_len'] at hlen
    have h4:e=((n+x.length+12:Nat):Int):=by omega
    rw[h4]
    obtain ⟨t,g1,g2,g3,g4⟩:=allF_is k b (n+x.length+12) (by omega) (by omega)
    have h5:b.drop (n+x.length+12)=t1:=by
     rw[show n+x.length+12=n+(sealB x).length by rw[sealB_len'];omega,← List.drop_drop,h1,List.drop_left]
    rw[h5] at g1
    refine ⟨t,?_,?_,?_,g4⟩
    ·rw[h1,g1,recs_cons,List.append_assoc]
    ·rw[g2,recs_cons,List.length_append,sealB_len'];omega
    ·intro z hz
     rcases List.mem_cons.1 hz with rfl | hz
     ·exact h3
     ·exact g3 z hz
  ·rw[if_neg hlt]
   refine ⟨b.drop n,by simp[recs],by simp[recs],by simp,.inl ?_⟩
   rw[List.drop_eq_nil_of_le (by omega)]
theorem allB_is (b:List UInt8):∃ t,b=recs (allB b).1++t∧(allB b).2.1=(recs (allB b).1).length∧(∀ x ∈ (allB b).1,x.length≤1048576)∧Stops t:=by
 have:=allF_is (b.length+1) b 0 (by omega) (by omega)
 simpa [allB] using this
end Go.Proofs.YtplnodcbbcdcgaaGreat.Lib0
namespace Go.Proofs.YtplnodcbbcdcgaaGreat.Lib0
open Go.RowKit Go.Proofs.YtplnodcbbcdcgaaGreatW.PrintWords
end Go.Proofs.YtplnodcbbcdcgaaGreat.Lib0
namespace Go.Proofs.YtplnodcbbcdcgaaGreat.Lib0
open Go.RowKit Go.Proofs.YtplnodcbbcdcgaaGreatW.PrintWords Go.ChangeMaps
theorem str_open {w:World} {A:Option Addr} {n:Nat} {l:List ByteArray} (h:Kd.string.C w A n l) (hn:0<l.length) :
  ∃ b o,A=some ⟨b,o,none⟩∧∀ k (hk:k<l.length),w.cell? ⟨b,o+k,none⟩=some (.string l[k]):=by
 obtain ⟨ad,rfl,hc⟩:=h.2.2 (by have:=h.1;omega)
 have hx:∀ k (hk:k<l.length),w.cell? (ad.add k)=some (.string l[k]):=fun k hk=>by
  obtain ⟨c,hl,hk',hcell⟩:=hc k _ (List.getElem?_eq_getElem hk)
  have hk2:c = [.string l[k]]:=hk'
  subst hk2
  have:=hcell 0 _ rfl
  have e1:k*Kd.string.sz+0=k:=by show k*1+0=k;omega
  rwa [e1] at this
 have hs:ad.spot=none:=by
  have e0:ad.add 0=ad:=by simp[Addr.add]
  have:=hx 0 hn
  rw[e0] at this
  exact cell_plain this
 obtain ⟨b,o,sp⟩:=ad
 simp only at hs
 subst hs
 refine ⟨b,o,rfl,fun k hk=>?_⟩
 have e1:(⟨b,o,none⟩:Addr).add k=⟨b,o+k,none⟩:=by unfold Addr.add;split<;>simp_all
 rw[← e1]
 exact hx k hk
theorem cell_of_heap {w:World} {b:Nat} {cs:Array Value} {e:TypeId} {fr:Nat × Nat} {i:Nat} {v:Value} (h:w.heap[b]?=some (.cells cs e fr)) (hv:cs[i]?=some v):w.cell? ⟨b,i,none⟩=some v:=by
 unfold World.cell?
 simp[h,hv]
theorem frozen_of_heap {w:World} {b i:Nat} {cs:Array Value} {e:TypeId} (h:w.heap[b]?=some (.cells cs e (0,0))):w.frozen? ⟨b,i,none⟩=false:=by
 unfold World.frozen?
 simp[h]
theorem heap_at_setCell {w:World} {b i:Nat} {cs:Array Value} {t:TypeId} {fr:Nat × Nat} {v:Value} (h:w.heap[b]?=some (.cells cs t fr)):(w.setCell ⟨b,i,none⟩ v).heap[b]?=some (.cells (cs.setIfInBounds i v) t fr):=by
 simp[World.setCell,Array.getElem?_modify,h]
theorem info_str:(Tryz.prog.info? 9).map (fun i=>(i.zero,i.size,i.bytes))=some (some (.string ByteArray.empty),1,16):=by kernel_rfl
section
variable {P:Program} {ops:Array Oper} {rest:List Oper} {o:Oper} {a:Act} {Q:Exit→Act→World→Prop}
theorem str_append {W:World} (s x:Operand) (t e:TypeId) (v:Value) (xs:List ByteArray) (p:ByteArray) (base:Nat)
  (hgd:o.guard=none) (ho:o.op = .call { callee:=.builtin .append,args:=#[s,x],argTypes:=#[t,t] })
  (ht:P.underlying t=some (.slice e)) (hinfo:(P.info? e).map (fun i=>(i.zero,i.size,i.bytes))=some (some (.string ByteArray.empty),1,16))
  (hs:a.eval s=v) (hx:a.eval x = .slice (some ⟨W.heap.size,0,none⟩) 1 1)
  (HO:Kd.string.R e W base (fun _=>True) v xs) (hbase:base≤W.heap.size) (hl:xs.length≤1099511627776)
  (h:∀ v1 w1,Kd.string.R e w1 base (fun _=>True) v1 (xs++[p])→Below base W w1→W.grownBy w1 v.ownBlock→(v1.ownBlock=v.ownBlock∨∃ b,v1.ownBlock=some b∧W.heap.size≤b)→wpList P ops Q rest (a.put o.dst v1) w1) :
  wpList P ops Q (o :: rest) a (W.alloc (.cells #[.string p] e)):=
 Kd.R_append Kd.string (w0:=W) base hgd s x t e (.string ByteArray.empty) 16 ho ht hinfo rfl (by decide) (by decide) v xs p [.string p] (fun _=>True) (fun _=>False) hs hx rfl (fun _ hk=>hk.elim) (fun _ _=>trivial)
  HO (Below.refl _ _) hbase (by omega) h
end
theorem u8_string {P:Program} {w:World} {src dst e:TypeId} {A:Option Addr} {c:Nat} {l:List UInt8} (hs:P.underlying src=some (.slice e)) (he:P.underlying e=some (.int .u8)) (hd:P.underlying dst=some .string)
  (h:u8.C w A l.length l):(convert src dst (.slice A l.length c)).run P w = .ok (.string (str l)) w:=by
 have h2:=(u8_C_iff _ _ _ _).1 h
 rw[Kd.C_string hs he hd h2]
 congr 2
 simp only[strOfNums,str,bi,List.map_map]
 congr 2
 conv=>rhs;rw[← List.map_id l]
 apply List.map_congr_left
 intro b _
 simp
theorem u8_inner {l:List UInt8} {inner:List Value} {w:World} {base:Nat} {ok:Nat→Prop} (h:Reps (u8.M w base ok) u8.sz l inner):inner=l.map encB:=by
 have hl:inner.length=l.length:=by have:=h.1;simpa [u8,Kd.scalar] using this
 refine List.ext_getElem (by simpa using hl) (fun i h1 h2=>?_)
 have h3:i<l.length:=by omega
 have:=h.2 i _ (List.getElem?_eq_getElem h3)
 have h4:((inner.drop (i*u8.sz)).take u8.sz) = [encB l[i]]:=this
 have h5:i*u8.sz=i:=by show i*1=i;omega
 rw[h5,show u8.sz=1 from rfl] at h4
 have h6:=congrArg (fun x:List Value=>x[0]?) h4
 simp only[List.getElem?_take,List.getElem?_drop] at h6
 simp at h6
 rw[List.getElem?_eq_getElem h1] at h6
 simp at h6
 simpa using h6
theorem u8_R_iff {e:Nat} {w:World} {base:Nat} {v:Value} {l:List UInt8}:u8.R e w base (fun _=>True) v l↔w.ownsRow base e 1 v l.length (l.map encB):=by
 constructor
 ·rintro ⟨_,inner,ho,hr⟩
  rw[u8_inner hr] at ho
  exact ho
 ·intro h
  refine ⟨fun _ _=>trivial,_,h,?_⟩
  refine ⟨by simp[u8,Kd.scalar],fun j p hp=>?_⟩
  show ((l.map encB).drop (j*1)).take 1 = [encB p]
  rw[Nat.mul_one]
  have hj:=(List.getElem?_eq_some_iff.1 hp).1
  rw[List.drop_eq_getElem_cons (by simpa using hj)]
  have:=(List.getElem?_eq_some_iff.1 hp).2
  simp[this]
theorem u8_R_set {e:Nat} {w:World} {base g n c:Nat} {l:List UInt8} (h:u8.R e w base (fun _=>True) (.slice (some ⟨g,0,none⟩) n c) l) (i:Nat) (hi:i<l.length) (x:UInt8) :
  u8.R e (w.setCell ⟨g,i,none⟩ (encB x)) base (fun _=>True) (.slice (some ⟨g,0,none⟩) n c) (l.set i x):=by
 rw[u8_R_iff] at h ⊢
 obtain ⟨h1,h2⟩:=h
 rcases h2 with ⟨h2,_⟩ | ⟨g',cap,cur,hv,hb,hh,r1,r2,r3,r4⟩
 ·cases h2
 ·simp only[Value.slice.injEq,Option.some.injEq,Addr.mk.injEq,and_true] at hv
  obtain ⟨rfl,rfl,rfl⟩:=hv
  refine ⟨by simp,.inr ⟨g,c,cur.setIfInBounds i (encB x),by simp,hb,heap_at_setCell hh,by simpa using r1,r2,by simpa using r3,?_⟩⟩
  simp only[List.length_set,Nat.mul_one] at r4 ⊢
  rw[Array.toList_setIfInBounds,List.take_set,r4,List.map_set]
theorem u8_row_open {e:Nat} {w:World} {base:Nat} {v:Value} {l:List UInt8} (h:u8.R e w base (fun _=>True) v l) (hn:0<l.length):∃ g c,v = .slice (some ⟨g,0,none⟩) l.length c∧base≤g∧l.length≤c∧∃ cur,w.heap[g]?=some (.cells cur e (0,0))∧∀ i (hi:i<l.length),cur[i]?=some (encB l[i]):=by
 obtain ⟨h1,h2⟩:=u8_R_iff.1 h
 rcases h2 with ⟨_,h2⟩ | ⟨g,cap,cur,hv,hb,hh,r1,r2,r3,r4⟩
 ·omega
 ·refine ⟨g,cap,hv,hb,r1,cur,hh,fun i hi=>?_⟩
  have:(cur.toList.take (l.length*1))[i]?=(l.map encB)[i]?:=by rw[r4]
  rw[List.getElem?_take_of_lt (by omega)] at this
  rw[← Array.getElem?_toList,this]
  simp[hi]
def Row (T:TypeId) (w:World) (r:List UInt8) (e:Ending) (w':World):Prop:=
 ∃ v,e = .returned v∧u8.R T w' w.heap.size (fun _=>True) v r∧Below w.heap.size w w'
theorem R_lit (w:World) (l:List UInt8) (e:TypeId) (hn:l.length≤1099511627776):u8.R e (w.alloc (.cells (l.map encB).toArray e)) w.heap.size (fun _=>True) (.slice (some ⟨w.heap.size,0,none⟩) l.length l.length) l:=by
 rw[u8_R_iff]
 exact ⟨by simp,.inr ⟨w.heap.size,l.length,(l.map encB).toArray,rfl,Nat.le_refl _,heap_alloc_new w _,Nat.le_refl _,by simp[maxLen];omega,by simp,by simp only[Nat.mul_one];rw[List.take_of_length_le (by simp)]⟩⟩
theorem below_bytes (w:World) (e:TypeId) (s:ByteArray):Below w.heap.size w (Lib.bytesWorld w e s):=
 ⟨rfl,rfl,rfl,by rw[Lib.bytesWorld_size];omega,fun k hk=>Lib.bytesWorld_at_old w e s k hk⟩
theorem u8_C_bytes (w:World) (e:TypeId) (s:ByteArray) (hs:s.size≤9223372036854775807):u8.C (Lib.bytesWorld w e s) (some ⟨w.heap.size,0,none⟩) (byt s).length (byt s):=by
 refine ⟨rfl,by rw[byt_length];exact hs,fun _=>⟨_,rfl,fun j p hp=>⟨[encB p],rfl,rfl,fun i u hu=>?_⟩⟩⟩
 have hi:i=0:=by
  rcases i with _ | i
  ·rfl
  ·simp at hu
 subst hi
 simp only[List.getElem?_cons_zero,Option.some.injEq] at hu
 subst hu
 have e1:(⟨w.heap.size,0,none⟩:Addr).add (j*u8.sz+0)=⟨w.heap.size,j,none⟩:=by
  rw[add_plain];show (⟨w.heap.size,j*1+0,none⟩:Addr)=_;simp
 rw[e1]
 have hj:j<s.size:=by rw[← byt_length];exact (List.getElem?_eq_some_iff.1 hp).1
 rw[Lib.bytesWorld_cell w e s j hj]
 simp only[byt] at hp
 simp only[List.getD,hp]
 rfl
theorem below_drew (B:Nat) (w:World):Below B w w.drew:=⟨rfl,rfl,rfl,Nat.le_refl _,fun _ _=>rfl⟩
theorem toList_inj {x y:ByteArray} (h:x.toList=y.toList):x=y:=by
 rw[ByteArray.toList_eq,ByteArray.toList_eq] at h
 have:=congrArg str h
 exact (str_byt x).symm.trans (this.trans (str_byt y))
theorem made_bytes (n:Nat):madeCells #[.int .u8 0] n=((List.replicate n (0:UInt8)).map encB).toArray:=by
 apply Array.ext
 ·simp[madeCells]
 ·intro i h1 h2
  simp[madeCells,encB,Nat.mod_one]
section
variable {P:Program} {ops:Array Oper} {rest:List Oper} {o:Oper} {a:Act} {Q:Exit→Act→World→Prop}
theorem str_append_row {W:World} (s x:Operand) (t e:TypeId) (v:Value) (xs ys:List ByteArray) (A:Option Addr) (m c:Nat) (base:Nat)
  (hgd:o.guard=none) (ho:o.op = .call { callee:=.builtin .append,args:=#[s,x],argTypes:=#[t,t] })
  (ht:P.underlying t=some (.slice e)) (hinfo:(P.info? e).map (fun i=>(i.zero,i.size,i.bytes))=some (some (.string ByteArray.empty),1,16))
  (hs:a.eval s=v) (hx:a.eval x = .slice A m c)
  (HO:Kd.string.R e W base (fun _=>True) v xs) (HR:Kd.string.C W A m ys) (hbase:base≤W.heap.size) (hl:xs.length+m≤1099511627776)
  (h:∀ v1 w1,Kd.string.R e w1 base (fun _=>True) v1 (xs++ys)→Below base W w1→W.grownBy w1 v.ownBlock→(v1.ownBlock=v.ownBlock∨∃ b,v1.ownBlock=some b∧W.heap.size≤b)→wpList P ops Q rest (a.put o.dst v1) w1) :
  wpList P ops Q (o :: rest) a W:=
 Kd.R_append_row Value.string ByteArray.empty (w0:=W) base hgd s x t e (.string ByteArray.empty) 16 ho ht hinfo rfl (by decide) v xs ys A m c (fun _=>True) hs hx (fun _ _=>trivial) HO HR (Below.refl _ _) hbase (by omega) h
end
theorem sc_open {α:Type} {enc:α→Value} {h1:∀ x,(enc x).oneCell'=true} {w:World} {A:Option Addr} {n:Nat} {l:List α} (h:(Kd.scalar enc h1).C w A n l) (hn:0<l.length) :
  ∃ b o,A=some ⟨b,o,none⟩∧∀ k (hk:k<l.length),w.cell? ⟨b,o+k,none⟩=some (enc l[k]):=by
 obtain ⟨ad,rfl,hc⟩:=h.2.2 (by have:=h.1;omega)
 have hx:∀ k (hk:k<l.length),w.cell? (ad.add k)=some (enc l[k]):=fun k hk=>by
  obtain ⟨c,hl,hk',hcell⟩:=hc k _ (List.getElem?_eq_getElem hk)
  have hk2:c = [enc l[k]]:=hk'
  subst hk2
  have:=hcell 0 _ rfl
  have e1:k*(Kd.scalar enc h1).sz+0=k:=by show k*1+0=k;omega
  rwa [e1] at this
 have hs:ad.spot=none:=by
  have e0:ad.add 0=ad:=by simp[Addr.add]
  have:=hx 0 hn
  rw[e0] at this
  exact cell_plain this
 obtain ⟨b,o,sp⟩:=ad
 simp only at hs
 subst hs
 refine ⟨b,o,rfl,fun k hk=>?_⟩
 have e1:(⟨b,o,none⟩:Addr).add k=⟨b,o+k,none⟩:=by unfold Addr.add;split<;>simp_all
 have:=hx k hk
 rwa [e1] at this
end Go.Proofs.YtplnodcbbcdcgaaGreat.Lib0

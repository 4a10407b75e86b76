/-
  Texts that the law leans on: PmX, PwC, PwD, PmY, PwE. Conditions: as each says.
-/
import Derived.Test.YtflmjbmdmoifhaaGreatDoorUAm
import Derived.Test.YtflmjbmdmoifhaaGreatDoorUAf
import Derived.Test.YtflmjbmdmoifhaaGreatDoorUAn
import Derived.Test.YtflmjbmdmoifhaaGreatDoorUAa
import Derived.Test.YtflmjbmdmoifhaaGreatDoorUAg
import Derived.Test.YtflmjbmdmoifhaaGreatDoorShelfW
import Derived.Laws.ResultCell
set_option linter.unusedSimpArgs false
set_option linter.unusedVariables false
namespace Go.Proofs.YtflmjbmdmoifhaaGreatDoor
open Go.Lib (hid)
open Go.RowKit
theorem NodesAt.get {w:World} {S:Nat→Prop}:∀{l:List Pars.Node} {css:List (Array Value)} {j:Nat} {x:Pars.Node},NodesAt w S l css→l[j]? =some x→∃c,css[j]? =some c∧NodeAt w S x c∧∀i v,c.toList[i]? =some v→(flatA css)[j * 4+i]? =some v
 | [],_,j,x,_,h=>by simp at h
 | n :: l,[],j,x,h,_=>by unfold NodesAt at h;exact h.elim
 | n :: l,c :: css,0,x,h,hj=>by
  unfold NodesAt at h
  simp at hj
  subst hj
  refine⟨c,rfl,h.1,fun i v hv=> ?_⟩
  have hi:=(List.getElem?_eq_some_iff.1 hv).1
  simp only[flatA,List.flatMap_cons,Nat.zero_mul,Nat.zero_add]
  rw[List.getElem?_append_left hi];exact hv
 | n :: l,c :: css,j+1,x,h,hj=>by
  unfold NodesAt at h
  obtain⟨d,h1,h2,h3⟩:=NodesAt.get h.2 (by simpa using hj)
  refine⟨d,by simpa using h1,h2,fun i v hv=> ?_⟩
  have hc:c.toList.length=4:=by rw[Array.length_toList];exact NodeAt.size h.1
  have:=h3 i v hv
  simp only[flatA,List.flatMap_cons] at this ⊢
  rw[List.getElem?_append_right (by omega),hc,show (j+1) * 4+i - 4=j * 4+i by omega]
  exact this
theorem NodesAt.wf {w:World} {S:Nat→Prop} {l:List Pars.Node} {css:List (Array Value)} (h:NodesAt w S l css):css.length=l.length:=NodesAt.len h
theorem deeps_take {l:List Pars.Node} {j:Nat} {x:Pars.Node} (h:l[j]? =some x):Pars.deeps (l.take (j+1))=max (Pars.deeps (l.take j)) (Pars.deep x):=by
 rw[List.take_add_one,h,Pars.deeps_append]
 simp[Pars.deeps]
theorem sizes_take:∀(l:List Pars.Node) (j:Nat),Pars.sizes (l.take j)≤Pars.sizes l
 | [],j=>by simp[Pars.sizes]
 | n :: l,0=>by simp[Pars.sizes]
 | n :: l,j+1=>by simp only[List.take_succ_cons,Pars.sizes];have:=sizes_take l j;omega
theorem size_mem:∀{l:List Pars.Node} {x:Pars.Node},x∈l→Pars.size x≤Pars.sizes l
 | n :: l,x,h=>by
  simp only[Pars.sizes]
  rcases List.mem_cons.1 h with rfl | h
  ·omega
  ·have:=size_mem h;omega
theorem sizes_len:∀l:List Pars.Node,l.length≤Pars.sizes l
 | []=>by simp
 | n :: l=>by simp only[List.length_cons,Pars.sizes];have:=sizes_len l;cases n;simp only[Pars.size];omega
set_option maxRecDepth 100000 in
set_option maxHeartbeats 4000000 in
theorem deep_le:∀(N:Nat) (n:Pars.Node) (cs:Array Value) (w:World) (S:Nat→Prop),Pars.size n≤N→Pars.size n≤4611686018427387904→NodeAt w S n cs→
  Calls Tryz.prog 31 #[.agg cs] w fun e w'=>e= .returned (.int .i64 (Pars.deep n:Int))∧Below w.heap.size w w'
 | 0,n,cs,w,S,h,_,_=>by cases n;simp[Pars.size] at h
 | N+1,.mk k nu t l,cs,w,S,h,hb,hn=>by
  have IH:=hid (deep_le N)
  simp only[Pars.size] at h hb
  unfold NodeAt at hn
  obtain⟨A,cap,css,rfl,hc1,hc2,hrow,hk⟩:=hn
  have HROW:=hid hrow
  have HK:=hid hk
  have hsz:Pars.sizes l≤N:=by omega
  have hszb:Pars.sizes l<4611686018427387904:=by omega
  have hds:=Pars.deeps_size l
  have hll:l.length≤4611686018427387904:=by have:=sizes_len l;omega
  have hgoal:Pars.deep (.mk k nu t l)=Pars.deeps l+1:=by simp[Pars.deep]
  rw[hgoal]
  clear hrow hk h hb hgoal
  go_enter Tryz.func31,Tryz.ntmps31
  go_upto_region 2 with fail
  refine gen_world (F:=fun W=>Box W w.heap.size 24 (nc k nu t (.slice A l.length cap))∧Below w.heap.size w W) ⟨Box.new w _ _,below1 w _⟩ ?_
  rintro W0 ⟨b0,hU⟩
  have c3:=b0.cell 3
  simp[nc] at c3
  have HU:=hid hU
  clear b0 hU
  go_wp2
  go_loopg [3,9] l.length (fun gg s3 s9 wr=>∃j:Nat,j≤l.length∧l.length - j≤gg∧s3= .int .i64 (Pars.deeps (l.take j):Int)∧s9= .int .i64 (j:Int)∧Hid (Below w.heap.size w wr))
  case atStart=>exact⟨0,Nat.zero_le _,by omega,rfl,rfl,HU⟩
  case round=>
   clear HU c3
   obtain⟨j,hj,hg,rfl,rfl,HU⟩:=hrel
   have hdj:Pars.deeps (l.take j)≤N:=by have:=Pars.deeps_size (l.take j);have:=sizes_take l j;omega
   by_cases hlt:j<l.length
   ·have hltz:(j:Int)<(l.length:Int):=by omega
    have hltd:decide ((j:Int)<(l.length:Int))=true:=decide_eq_true hltz
    have wj:IntKind.i64.wrap ((j:Int)+1)=(j:Int)+1:=by rw[IntKind.wrap_i64];omega
    obtain⟨x,hx⟩:∃x,l[j]? =some x:=⟨_,List.getElem?_eq_getElem hlt⟩
    have hxs:=size_mem (List.mem_of_getElem? hx)
    obtain⟨c,hc,hnc,hfl⟩:=NodesAt.get HK.out hx
    obtain⟨g0,o0,rfl,hS,hg0,hr0⟩:=HROW.out (by omega)
    have hc4:c.size=4:=NodeAt.size hnc
    have HR0:Hid (wr.rangeAt g0 (o0+j * 4) c.toList):=hid (fun i u hu=>by
     rw[Nat.add_assoc,HU.out.cell (p:=⟨g0,o0+(j * 4+i),none⟩) hg0]
     exact hr0 (j * 4+i) u (hfl i u hu))
    have HNC:=hid (NodeAt.keep (S1:=fun _=>True) (fun _ _ _=>trivial) HU.out.size (fun g _ hg=>HU.out.block g hg) hnc)
    have HDX:Hid (max (Pars.deeps (l.take j):Int) (Pars.deep x:Int)=(Pars.deeps (l.take (j+1)):Int)):=hid (by rw[deeps_take hx];omega)
    have hinf:(Tryz.prog.info? 24).map (·.size)=some c.toList.length:=by rw[Array.length_toList,hc4];exact info_nod
    have HINF:=hid hinf
    have hinf2:(Tryz.prog.info? 24).map (·.size)=some c.size:=by rw[hc4];exact info_nod
    have HINF2:=hid hinf2
    have H4:Hid ((4:Nat)=c.size):=hid hc4.symm
    have HONE:=hid (NodeAt.one hnc)
    have hwr:=HU.out.size
    clear hx hc hnc hfl hr0 hinf hinf2 hc4
    go_upto_region 5 with (first | (refine wpList_load_mid rfl 24 (.tmp 11) rfl g0 (o0+j * 4) rfl c.toList _ HR0.out Tryz.underlying24 rfl HINF.out ?_) | (refine wpList_store_box rfl 24 (.tmp 5) (.tmp 12) rfl wr.heap.size c rfl (by simp[Act.eval,Act.put]) 24 _ (Box.new wr _ _) HINF2.out H4.out HONE.out ?_;intro w2 hx2 hu2 hz2;have HZ2:=hid hz2;clear hz2))
    have hb2:Below wr.heap.size wr w2:=((Below.refl _ wr).alloc (Nat.le_refl _) _).trans (hu2.own (Nat.le_refl _) (by simp))
    have HU2:=hid (HU.out.trans (hb2.mono hwr))
    have HN2:=hid (HNC.out.below hb2)
    have EB:=hx2
    clear hu2 hb2
    go_wp2_with (refine wpList_load_row rfl 24 (.tmp 5) rfl wr.heap.size rfl _ c (0,0) _ EB Tryz.underlying24 rfl HINF2.out ?_)
    refine (IH.out x c w2 _ (by omega) (by omega) HN2.out).mono ?_
    rintro e w3 ⟨rfl,hb3⟩
    have HU3:=hid (HU2.out.trans (hb3.mono HU2.out.size))
    clear hb3 EB hx2
    go_wp2_with (refine wpList_max2 rfl (.tmp 13) (.tmp 15) _ rfl _ _ _ rfl rfl HDX.out ?_)
    go_roundg (l.length - (j+1))
    case measure=>omega
    case rel=>exact⟨j+1,by omega,by omega,rfl,rfl,HU3⟩
   ·have hltz:¬(j:Int)<(l.length:Int):=by omega
    have hltd:decide ((j:Int)<(l.length:Int))=false:=decide_eq_false hltz
    have hjl:l.take j=l:=List.take_of_length_le (by omega)
    have wd:IntKind.i64.wrap ((Pars.deeps (l.take j):Int)+1)=(Pars.deeps (l.take j):Int)+1:=by rw[IntKind.wrap_i64];rw[hjl];omega
    have HJL:=hid hjl
    clear hjl
    go_wp2
    go_ret
    exact⟨by rw[HJL.out];rfl,HU.out⟩
theorem deep_any {n:Pars.Node} {cs:Array Value} {w:World} {S:Nat→Prop} (h:NodeAt w S n cs) (hb:Pars.size n≤4611686018427387904):
  Calls Tryz.prog 31 #[.agg cs] w fun e w'=>e= .returned (.int .i64 (Pars.deep n:Int))∧Below w.heap.size w w':=deep_le _ n cs w S (Nat.le_refl _) hb h
end Go.Proofs.YtflmjbmdmoifhaaGreatDoor
namespace Go.Proofs.YtflmjbmdmoifhaaGreatDoor
open Go.Lib (hid)
open Go.RowKit
theorem plain_fn (n:Nat):Ending.returned (.tuple #[.string ((⟨(Lib.repeatL [113] (n - 1)).toArray⟩:ByteArray)++⟨#[103]⟩),.bool true])= .returned (.tuple #[.string (byt (Wri.plain 9 n).1),.bool (Wri.plain 9 n).2]):=by
 have e:∀q,Lib.repeatL [113] q=List.replicate q 113:=by
  intro q
  induction q with
  | zero=>rfl
  | succ q ih=>simp only[Lib.repeatL,ih];rfl
 have h1:(⟨(Lib.repeatL [113] (n - 1)).toArray⟩:ByteArray)=byt (List.replicate (n - 1) 113):=by
  show (⟨(Lib.repeatL [113] (n - 1)).toArray⟩:ByteArray)=_
  rw[e];rfl
 have h2:(⟨#[103]⟩:ByteArray)=byt [103]:=rfl
 rw[h1,h2,byt_append]
 rfl
set_option maxRecDepth 100000 in
set_option maxHeartbeats 4000000 in
theorem plain_nine (nu:Int) (t:List UInt8) (A:Option Addr) (n c:Nat) (hn:n≤70368744177664) (w:World):Calls Tryz.prog 94 #[.agg (nc 9 nu t (.slice A n c))] w fun e w'=>e= .returned (.tuple #[.string (byt (Wri.plain 9 n).1),.bool (Wri.plain 9 n).2])∧Below w.heap.size w w':=by
 have hz:IntKind.i64.wrap ((n:Int) - 1)=(n:Int) - 1:=by rw[IntKind.wrap_i64];omega
 obtain⟨q,hq⟩:∃q:Nat,q=n - 1:=⟨_,rfl⟩
 have HQ:=hid hq
 have HM:Hid (max ((n:Int) - 1) 0=(q:Int)):=hid (by omega)
 have hqn:q≤70368744177664:=by omega
 clear hq
 have HRP:Hid (∀W,Calls Tryz.prog 111 #[.string ⟨#[113]⟩,.int .i64 (q:Int)] W fun e w'=>e= .returned (.string ⟨(Lib.repeatL [113] q).toArray⟩)∧Below W.heap.size W w'):=hid (fun W=>Tryz.strings_Repeat ⟨#[113]⟩ q W (by omega) (by rw[show (⟨#[113]⟩:ByteArray).size=1 from rfl];omega))
 go_enter Tryz.func94,Tryz.ntmps94
 go_upto_region 1 with fail
 refine gen_world (F:=fun W=>Box W w.heap.size 24 (nc 9 nu t (.slice A n c))∧Below w.heap.size w W) ⟨Box.new w _ _,below1 w _⟩ ?_
 rintro W0 ⟨b0,hU⟩
 have NB:=hid b0
 have HU:=hid hU
 have c0:=b0.cell 0
 have c3:=b0.cell 3
 simp[nc] at c0 c3
 clear b0 hU
 go_wp2_with (refine wpList_max2 rfl (.tmp 54) (.const (.int .i64 0)) _ rfl _ _ _ rfl rfl HM.out ?_)
 refine (HRP.out _).mono ?_
 rintro e w1 ⟨rfl,hb⟩
 have HU1:=hid (HU.out.trans (hb.mono HU.out.size))
 clear hb
 obtain⟨RS,hRS⟩:∃RS:ByteArray,(⟨(Lib.repeatL [113] q).toArray⟩:ByteArray)=RS:=⟨_,rfl⟩
 have hsz:RS.size=q:=by rw[←hRS];show (Lib.repeatL _ q).toArray.size=q;rw[List.size_toArray,Lib.repeatL_length];simp
 rw[hRS]
 have HRS:=hid hRS
 clear hRS
 have hz0:RS.size≤70368744177664:=by omega
 clear hsz
 have hg1:(⟨#[103]⟩:ByteArray).size=1:=rfl
 go_wp2
 go_ret2
 refine⟨?_,HU1.out⟩
 rw[←HRS.out,HQ.out]
 exact plain_fn n
set_option maxRecDepth 100000 in
set_option maxHeartbeats 4000000 in
theorem plain_any (k nu:Int) (t:List UInt8) (A:Option Addr) (n c:Nat) (hn:n≤70368744177664) (w:World):Calls Tryz.prog 94 #[.agg (nc k nu t (.slice A n c))] w fun e w'=>e= .returned (.tuple #[.string (byt (Wri.plain k n).1),.bool (Wri.plain k n).2])∧Below w.heap.size w w':=by
 by_cases y:k=9
 ·subst y
  exact plain_nine nu t A n c hn w
 have n9:(k==9)=false:=by rw[beq_eq_false_iff_ne];omega
 have m9:¬k=9:=by omega
 clear y
 go_enter Tryz.func94,Tryz.ntmps94
 go_upto_region 1 with fail
 refine gen_world (F:=fun W=>Box W w.heap.size 24 (nc k nu t (.slice A n c))∧Below w.heap.size w W) ⟨Box.new w _ _,below1 w _⟩ ?_
 rintro W0 ⟨b0,hU⟩
 have NB:=hid b0
 have HU:=hid hU
 have c0:=b0.cell 0
 have c3:=b0.cell 3
 simp[nc] at c0 c3
 clear b0 hU
 go_upto_region 2 with fail
 by_cases y:k=1
 ·subst y
  go_wp2
  go_ret2
  exact⟨by first | rfl | simp[Wri.plain,byt],HU.out⟩
 have n1:(k==1)=false:=by rw[beq_eq_false_iff_ne];omega
 have m1:¬k=1:=by omega
 clear y
 go_upto_region 3 with fail
 by_cases y:k=2
 ·subst y
  go_wp2
  go_ret2
  exact⟨by first | rfl | simp[Wri.plain,byt],HU.out⟩
 have n2:(k==2)=false:=by rw[beq_eq_false_iff_ne];omega
 have m2:¬k=2:=by omega
 clear y
 go_upto_region 4 with fail
 by_cases y:k=3
 ·subst y
  go_wp2
  go_ret2
  exact⟨by first | rfl | simp[Wri.plain,byt],HU.out⟩
 have n3:(k==3)=false:=by rw[beq_eq_false_iff_ne];omega
 have m3:¬k=3:=by omega
 clear y
 go_upto_region 5 with fail
 by_cases y:k=4
 ·subst y
  go_wp2
  go_ret2
  exact⟨by first | rfl | simp[Wri.plain,byt],HU.out⟩
 have n4:(k==4)=false:=by rw[beq_eq_false_iff_ne];omega
 have m4:¬k=4:=by omega
 clear y
 go_upto_region 6 with fail
 by_cases y:k=5
 ·subst y
  go_wp2
  go_ret2
  exact⟨by first | rfl | simp[Wri.plain,byt],HU.out⟩
 have n5:(k==5)=false:=by rw[beq_eq_false_iff_ne];omega
 have m5:¬k=5:=by omega
 clear y
 go_upto_region 7 with fail
 by_cases y:k=10
 ·subst y
  go_wp2
  go_ret2
  exact⟨by first | rfl | simp[Wri.plain,byt],HU.out⟩
 have n10:(k==10)=false:=by rw[beq_eq_false_iff_ne];omega
 have m10:¬k=10:=by omega
 clear y
 go_upto_region 8 with fail
 by_cases y:k=25
 ·subst y
  go_wp2
  go_ret2
  exact⟨by first | rfl | simp[Wri.plain,byt],HU.out⟩
 have n25:(k==25)=false:=by rw[beq_eq_false_iff_ne];omega
 have m25:¬k=25:=by omega
 clear y
 go_upto_region 9 with fail
 by_cases y:k=26
 ·subst y
  go_wp2
  go_ret2
  exact⟨by first | rfl | simp[Wri.plain,byt],HU.out⟩
 have n26:(k==26)=false:=by rw[beq_eq_false_iff_ne];omega
 have m26:¬k=26:=by omega
 clear y
 go_upto_region 10 with fail
 by_cases y:k=27
 ·subst y
  go_wp2
  go_ret2
  exact⟨by first | rfl | simp[Wri.plain,byt],HU.out⟩
 have n27:(k==27)=false:=by rw[beq_eq_false_iff_ne];omega
 have m27:¬k=27:=by omega
 clear y
 go_upto_region 12 with fail
 by_cases y:k=6
 ·subst y
  go_wp2
  go_ret2
  exact⟨by first | rfl | simp[Wri.plain,byt],HU.out⟩
 have n6:(k==6)=false:=by rw[beq_eq_false_iff_ne];omega
 have m6:¬k=6:=by omega
 clear y
 go_upto_region 14 with fail
 by_cases y:k=7
 ·subst y
  go_wp2
  go_ret2
  exact⟨by first | rfl | simp[Wri.plain,byt],HU.out⟩
 have n7:(k==7)=false:=by rw[beq_eq_false_iff_ne];omega
 have m7:¬k=7:=by omega
 clear y
 go_upto_region 16 with fail
 by_cases y:k=8
 ·subst y
  go_wp2
  go_ret2
  exact⟨by first | rfl | simp[Wri.plain,byt],HU.out⟩
 have n8:(k==8)=false:=by rw[beq_eq_false_iff_ne];omega
 have m8:¬k=8:=by omega
 clear y
 go_upto_region 17 with fail
 by_cases y:k=13
 ·subst y
  go_wp2
  go_ret2
  exact⟨by first | rfl | simp[Wri.plain,byt],HU.out⟩
 have n13:(k==13)=false:=by rw[beq_eq_false_iff_ne];omega
 have m13:¬k=13:=by omega
 clear y
 go_upto_region 18 with fail
 by_cases y:k=14
 ·subst y
  go_wp2
  go_ret2
  exact⟨by first | rfl | simp[Wri.plain,byt],HU.out⟩
 have n14:(k==14)=false:=by rw[beq_eq_false_iff_ne];omega
 have m14:¬k=14:=by omega
 clear y
 go_upto_region 19 with fail
 by_cases y:k=20
 ·subst y
  go_wp2
  go_ret2
  exact⟨by first | rfl | simp[Wri.plain,byt],HU.out⟩
 have n20:(k==20)=false:=by rw[beq_eq_false_iff_ne];omega
 have m20:¬k=20:=by omega
 clear y
 go_upto_region 20 with fail
 by_cases y:k=28
 ·subst y
  go_wp2
  go_ret2
  exact⟨by first | rfl | simp[Wri.plain,byt],HU.out⟩
 have n28:(k==28)=false:=by rw[beq_eq_false_iff_ne];omega
 have m28:¬k=28:=by omega
 clear y
 go_upto_region 21 with fail
 by_cases y:k=31
 ·subst y
  go_wp2
  go_ret2
  exact⟨by first | rfl | simp[Wri.plain,byt],HU.out⟩
 have n31:(k==31)=false:=by rw[beq_eq_false_iff_ne];omega
 have m31:¬k=31:=by omega
 clear y
 go_upto_region 23 with fail
 by_cases y:k=11
 ·subst y
  go_wp2
  go_ret2
  exact⟨by first | rfl | simp[Wri.plain,byt],HU.out⟩
 have n11:(k==11)=false:=by rw[beq_eq_false_iff_ne];omega
 have m11:¬k=11:=by omega
 clear y
 go_upto_region 25 with fail
 by_cases y:k=12
 ·subst y
  go_wp2
  go_ret2
  exact⟨by first | rfl | simp[Wri.plain,byt],HU.out⟩
 have n12:(k==12)=false:=by rw[beq_eq_false_iff_ne];omega
 have m12:¬k=12:=by omega
 clear y
 go_upto_region 26 with fail
 by_cases y:k=15
 ·subst y
  go_wp2
  go_ret2
  exact⟨by first | rfl | simp[Wri.plain,byt],HU.out⟩
 have n15:(k==15)=false:=by rw[beq_eq_false_iff_ne];omega
 have m15:¬k=15:=by omega
 clear y
 go_upto_region 27 with fail
 by_cases y:k=16
 ·subst y
  go_wp2
  go_ret2
  exact⟨by first | rfl | simp[Wri.plain,byt],HU.out⟩
 have n16:(k==16)=false:=by rw[beq_eq_false_iff_ne];omega
 have m16:¬k=16:=by omega
 clear y
 go_upto_region 28 with fail
 by_cases y:k=17
 ·subst y
  go_wp2
  go_ret2
  exact⟨by first | rfl | simp[Wri.plain,byt],HU.out⟩
 have n17:(k==17)=false:=by rw[beq_eq_false_iff_ne];omega
 have m17:¬k=17:=by omega
 clear y
 go_upto_region 30 with fail
 by_cases y:k=18
 ·subst y
  go_wp2
  go_ret2
  exact⟨by first | rfl | simp[Wri.plain,byt],HU.out⟩
 have n18:(k==18)=false:=by rw[beq_eq_false_iff_ne];omega
 have m18:¬k=18:=by omega
 clear y
 go_upto_region 32 with fail
 by_cases y:k=19
 ·subst y
  go_wp2
  go_ret2
  exact⟨by first | rfl | simp[Wri.plain,byt],HU.out⟩
 have n19:(k==19)=false:=by rw[beq_eq_false_iff_ne];omega
 have m19:¬k=19:=by omega
 clear y
 go_upto_region 34 with fail
 by_cases y:k=21
 ·subst y
  go_wp2
  go_ret2
  exact⟨by first | rfl | simp[Wri.plain,byt],HU.out⟩
 have n21:(k==21)=false:=by rw[beq_eq_false_iff_ne];omega
 have m21:¬k=21:=by omega
 clear y
 go_upto_region 36 with fail
 by_cases y:k=22
 ·subst y
  go_wp2
  go_ret2
  exact⟨by first | rfl | simp[Wri.plain,byt],HU.out⟩
 have n22:(k==22)=false:=by rw[beq_eq_false_iff_ne];omega
 have m22:¬k=22:=by omega
 clear y
 go_upto_region 38 with fail
 by_cases y:k=23
 ·subst y
  go_wp2
  go_ret2
  exact⟨by first | rfl | simp[Wri.plain,byt],HU.out⟩
 have n23:(k==23)=false:=by rw[beq_eq_false_iff_ne];omega
 have m23:¬k=23:=by omega
 clear y
 go_upto_region 39 with fail
 by_cases y:k=24
 ·subst y
  go_wp2
  go_ret2
  exact⟨by first | rfl | simp[Wri.plain,byt],HU.out⟩
 have n24:(k==24)=false:=by rw[beq_eq_false_iff_ne];omega
 have m24:¬k=24:=by omega
 clear y
 go_upto_region 41 with fail
 by_cases y:k=29
 ·subst y
  go_wp2
  go_ret2
  exact⟨by first | rfl | simp[Wri.plain,byt],HU.out⟩
 have n29:(k==29)=false:=by rw[beq_eq_false_iff_ne];omega
 have m29:¬k=29:=by omega
 clear y
 go_upto_region 43 with fail
 by_cases y:k=30
 ·subst y
  go_wp2
  go_ret2
  exact⟨by first | rfl | simp[Wri.plain,byt],HU.out⟩
 have n30:(k==30)=false:=by rw[beq_eq_false_iff_ne];omega
 have m30:¬k=30:=by omega
 clear y
 go_wp2
 go_ret2
 refine⟨?_,HU.out⟩
 have e:Wri.plain k n=([],false):=by unfold Wri.plain;simp only[m1,m2,m3,m4,m5,m6,m7,m8,m9,m10,m11,m12,m13,m14,m15,m16,m17,m18,m19,m20,m21,m22,m23,m24,m25,m26,m27,m28,m29,m30,m31,or_self,if_false]
 rw[e]
 rfl
end Go.Proofs.YtflmjbmdmoifhaaGreatDoor
namespace Go.Proofs.YtflmjbmdmoifhaaGreatDoor
open Go.Lib (hid)
open Go.RowKit
set_option maxRecDepth 100000 in
set_option maxHeartbeats 4000000 in
theorem form_any (k nu:Int) (t:List UInt8) (A:Option Addr) (n c:Nat) (hn:n≤70368744177664) (w:World):Calls Tryz.prog 63 #[.agg (nc k nu t (.slice A n c))] w fun e w'=>e= .returned (.tuple #[.string (byt (Wri.form k nu n).1),.bool (Wri.form k nu n).2])∧Below w.heap.size w w':=by
 have HPL:=hid (fun W=>plain_any k nu t A n c hn W)
 obtain⟨PF,hPF⟩:∃q,byt (Wri.plain k n).1=q:=⟨_,rfl⟩
 have HPF:=hid hPF
 obtain⟨PB,hPB⟩:∃q,(Wri.plain k n).2=q:=⟨_,rfl⟩
 have HPB:=hid hPB
 rw[hPF,hPB] at HPL
 clear hPF hPB
 go_enter Tryz.func63,Tryz.ntmps63
 go_upto_region 1 with fail
 refine gen_world (F:=fun W=>Box W w.heap.size 24 (nc k nu t (.slice A n c))∧Below w.heap.size w W) ⟨Box.new w _ _,below1 w _⟩ ?_
 rintro W0 ⟨b0,hU⟩
 have NB:=hid b0
 have HU:=hid hU
 clear b0 hU
 have nb:=NB.out
 go_wp2_with (refine wpList_load_row rfl 24 (.tmp 1) rfl w.heap.size rfl _ (nc k nu t (.slice A n c)) (0,0) _ nb Tryz.underlying24 rfl info_nod ?_)
 refine (HPL.out _).mono ?_
 rintro e w1 ⟨rfl,hb⟩
 have NB1:=bl NB hb
 have HU1:=hid (HU.out.trans (hb.mono HU.out.size))
 clear hb nb
 have c0:=NB1.out.cell 0
 have c1:=NB1.out.cell 1
 have c3:=NB1.out.cell 3
 simp[nc] at c0 c1 c3
 go_upto_region 2 with fail
 by_cases y22:k=22
 ·subst y22
  by_cases z:n=3
  ·have zz:(((n:Int))==3)=true:=by rw[beq_iff_eq];omega
   have zy:(n:Int)=3:=by omega
   go_wp2
   go_ret2
   refine⟨?_,HU1.out⟩
   rw[←HPB.out]
   have e:Wri.form 22 nu n=([101,98,105],(Wri.plain 22 n).2):=by unfold Wri.form;simp[z]
   rw[e]
   rfl
  have zz:((n:Int)==3)=false:=by rw[beq_eq_false_iff_ne];omega
  have zy:¬(n:Int)=3:=by omega
  go_wp2
  go_ret2
  refine⟨?_,HU1.out⟩
  rw[←HPB.out, ←HPF.out]
  have e:Wri.form 22 nu n=Wri.plain 22 n:=by unfold Wri.form;simp[z]
  rw[e]
  rfl
 have n22:(k==22)=false:=by rw[beq_eq_false_iff_ne];omega
 have m22:¬k=22:=by omega
 go_upto_region 4 with fail
 by_cases y25:k=25
 ·subst y25
  by_cases z:n=1
  ·have zz:(((n:Int))==1)=true:=by rw[beq_iff_eq];omega
   have zy:(n:Int)=1:=by omega
   go_wp2
   go_ret2
   refine⟨?_,HU1.out⟩
   rw[←HPB.out]
   have e:Wri.form 25 nu n=([101],(Wri.plain 25 n).2):=by unfold Wri.form;simp[z]
   rw[e]
   rfl
  have zz:((n:Int)==1)=false:=by rw[beq_eq_false_iff_ne];omega
  have zy:¬(n:Int)=1:=by omega
  go_wp2
  go_ret2
  refine⟨?_,HU1.out⟩
  rw[←HPB.out, ←HPF.out]
  have e:Wri.form 25 nu n=Wri.plain 25 n:=by unfold Wri.form;simp[z]
  rw[e]
  rfl
 have n25:(k==25)=false:=by rw[beq_eq_false_iff_ne];omega
 have m25:¬k=25:=by omega
 go_upto_region 6 with fail
 by_cases y29:k=29
 ·subst y29
  by_cases z:nu=3
  ·subst z
   go_wp2
   go_ret2
   refine⟨?_,HU1.out⟩
   rw[←HPB.out]
   have e:Wri.form 29 3 n=([98,98,98],(Wri.plain 29 n).2):=by unfold Wri.form;simp
   rw[e]
   rfl
  have zz:(nu==3)=false:=by rw[beq_eq_false_iff_ne];omega
  have zy:¬nu=3:=by omega
  go_wp2
  go_ret2
  refine⟨?_,HU1.out⟩
  rw[←HPB.out, ←HPF.out]
  have e:Wri.form 29 nu n=Wri.plain 29 n:=by unfold Wri.form;simp[z]
  rw[e]
  rfl
 have n29:(k==29)=false:=by rw[beq_eq_false_iff_ne];omega
 have m29:¬k=29:=by omega
 go_wp2
 go_ret2
 refine⟨?_,HU1.out⟩
 rw[←HPB.out, ←HPF.out]
 have e:Wri.form k nu n=Wri.plain k n:=by unfold Wri.form;simp[m22,m25,m29]
 rw[e]
 rfl
set_option maxRecDepth 100000 in
set_option maxHeartbeats 4000000 in
theorem sort_any (k nu:Int) (t:List UInt8) (l:List Pars.Node) (A:Option Addr) (n cp:Nat) (c:UInt8) (w:World):Calls Tryz.prog 67 #[.agg (nc k nu t (.slice A n cp)),.int .u8 (c.toNat:Int)] w fun e w'=>e= .returned (.bool (Wri.sort (.mk k nu t l) c))∧Below w.heap.size w w':=by
 obtain⟨ci,hci⟩:∃q:Int,(c.toNat:Int)=q:=⟨_,rfl⟩
 have HCI:=hid hci
 obtain⟨T,hTe⟩:∃q,byt t=q:=⟨_,rfl⟩
 have HT:=hid hTe
 have e0:nc k nu t (.slice A n cp)= #[.int .i64 k,.int .i64 nu,.string T,.slice A n cp]:=by rw[←hTe];rfl
 rw[e0,hci]
 clear hci hTe e0
 go_enter Tryz.func67,Tryz.ntmps67
 go_upto_region 1 with fail
 refine gen_world (F:=fun W=>Box W w.heap.size 24 #[.int .i64 k,.int .i64 nu,.string T,.slice A n cp]∧Below w.heap.size w W) ⟨Box.new w _ _,below1 w _⟩ ?_
 rintro W0 ⟨b0,hU⟩
 have NB:=hid b0
 have HU:=hid hU
 have c0:=b0.cell 0
 have c2:=b0.cell 2
 simp at c0 c2
 clear b0 hU
 go_upto_region 2 with fail
 by_cases z:c=112
 ·subst z
  have hz:ci=112:=HCI.out.symm.trans (by rfl)
  subst hz
  by_cases y8:k=8
  ·subst y8
   go_wp2
   go_ret
   exact⟨ret_bool (a:=true) (Eq.symm (by simp[Wri.sort,Pars.Node.kind,Pars.Node.text]<;>first | omega | (intros;omega) | (apply decide_eq_false;rintro⟨_,_⟩;omega))),HU.out⟩
  have n8:(k==8)=false:=bn y8
  go_wp2
  go_ret
  exact⟨ret_bool (a:=false) (Eq.symm (by simp[Wri.sort,Pars.Node.kind,Pars.Node.text,y8]<;>first | omega | (intros;omega) | (apply decide_eq_false;rintro⟨_,_⟩;omega))),HU.out⟩
 have h112:¬ci=112:=by
  intro h
  exact z (by have:=HCI.out;apply UInt8.toNat_inj.1;show c.toNat=112;omega)
 have g112:(ci==112)=false:=bn h112
 have Z112:=hid z
 clear z
 go_upto_region 4 with fail
 by_cases z:c=116
 ·subst z
  have hz:ci=116:=HCI.out.symm.trans (by rfl)
  subst hz
  by_cases y5:k=5
  ·subst y5
   go_wp2
   go_ret
   exact⟨ret_bool (a:=true) (Eq.symm (by simp[Wri.sort,Pars.Node.kind,Pars.Node.text]<;>first | omega | (intros;omega) | (apply decide_eq_false;rintro⟨_,_⟩;omega))),HU.out⟩
  have n5:(k==5)=false:=bn y5
  by_cases y12:k=12
  ·subst y12
   go_wp2
   go_ret
   exact⟨ret_bool (a:=true) (Eq.symm (by simp[Wri.sort,Pars.Node.kind,Pars.Node.text]<;>first | omega | (intros;omega) | (apply decide_eq_false;rintro⟨_,_⟩;omega))),HU.out⟩
  have n12:(k==12)=false:=bn y12
  by_cases y13:k=13
  ·subst y13
   go_wp2
   go_ret
   exact⟨ret_bool (a:=true) (Eq.symm (by simp[Wri.sort,Pars.Node.kind,Pars.Node.text]<;>first | omega | (intros;omega) | (apply decide_eq_false;rintro⟨_,_⟩;omega))),HU.out⟩
  have n13:(k==13)=false:=bn y13
  go_wp2
  go_ret
  exact⟨ret_bool (a:=false) (Eq.symm (by simp[Wri.sort,Pars.Node.kind,Pars.Node.text,y5,y12,y13]<;>first | omega | (intros;omega) | (apply decide_eq_false;rintro⟨_,_⟩;omega))),HU.out⟩
 have h116:¬ci=116:=by
  intro h
  exact z (by have:=HCI.out;apply UInt8.toNat_inj.1;show c.toNat=116;omega)
 have g116:(ci==116)=false:=bn h116
 have Z116:=hid z
 clear z
 go_upto_region 6 with fail
 by_cases z:c=100
 ·subst z
  have hz:ci=100:=HCI.out.symm.trans (by rfl)
  subst hz
  by_cases y9:k=9
  ·subst y9
   by_cases hT:T=⟨#[]⟩
   ·have ht0:t=[]:=byt_inj (HT.out.trans (hT.trans rfl))
    subst hT
    go_wp2
    go_ret
    exact⟨ret_bool (a:=false) (Eq.symm (by simp[Wri.sort,Pars.Node.kind,Pars.Node.text,ht0]<;>first | omega | (intros;omega) | (apply decide_eq_false;rintro⟨_,_⟩;omega))),HU.out⟩
   obtain⟨q1,q2,q3⟩:=same_no hT
   have q4:=of_decide_eq_false q2
   have q5:(T.toList==[])=false:=by
    have e:(⟨#[]⟩:ByteArray).toList=[]:=by simp[ByteArray.toList_eq]
    rw[e] at q1
    exact q1
   have q6:T.toList.isEmpty=false:=by
    rw[←HT.out,byt_list]
    cases t with
    | nil=>exact absurd (HT.out.symm.trans rfl) hT
    | cons a l=>rfl
   have ht0:¬t=[]:=fun e=>hT (HT.out.symm.trans (by rw[e];rfl))
   go_wp2
   go_ret
   exact⟨ret_bool (a:=true) (Eq.symm (by simp[Wri.sort,Pars.Node.kind,Pars.Node.text,ht0]<;>first | omega | (intros;omega) | (apply decide_eq_false;rintro⟨_,_⟩;omega))),HU.out⟩
  have n9:(k==9)=false:=bn y9
  go_wp2
  go_ret
  exact⟨ret_bool (a:=false) (Eq.symm (by simp[Wri.sort,Pars.Node.kind,Pars.Node.text,y9]<;>first | omega | (intros;omega) | (apply decide_eq_false;rintro⟨_,_⟩;omega))),HU.out⟩
 have h100:¬ci=100:=by
  intro h
  exact z (by have:=HCI.out;apply UInt8.toNat_inj.1;show c.toNat=100;omega)
 have g100:(ci==100)=false:=bn h100
 have Z100:=hid z
 clear z
 go_upto_region 8 with fail
 by_cases z:c=98
 ·subst z
  have hz:ci=98:=HCI.out.symm.trans (by rfl)
  subst hz
  by_cases y30:k=30
  ·subst y30
   go_wp2
   go_ret
   exact⟨ret_bool (a:=true) (Eq.symm (by simp[Wri.sort,Pars.Node.kind,Pars.Node.text]<;>first | omega | (intros;omega) | (apply decide_eq_false;rintro⟨_,_⟩;omega))),HU.out⟩
  have n30:(k==30)=false:=bn y30
  go_wp2
  go_ret
  exact⟨ret_bool (a:=false) (Eq.symm (by simp[Wri.sort,Pars.Node.kind,Pars.Node.text,y30]<;>first | omega | (intros;omega) | (apply decide_eq_false;rintro⟨_,_⟩;omega))),HU.out⟩
 have h98:¬ci=98:=by
  intro h
  exact z (by have:=HCI.out;apply UInt8.toNat_inj.1;show c.toNat=98;omega)
 have g98:(ci==98)=false:=bn h98
 have Z98:=hid z
 clear z
 go_upto_region 9 with fail
 by_cases z:c=108
 ·subst z
  have hz:ci=108:=HCI.out.symm.trans (by rfl)
  subst hz
  by_cases y30:k=30
  ·subst y30
   go_wp2
   go_ret
   exact⟨ret_bool (a:=true) (Eq.symm (by simp[Wri.sort,Pars.Node.kind,Pars.Node.text]<;>first | omega | (intros;omega) | (apply decide_eq_false;rintro⟨_,_⟩;omega))),HU.out⟩
  have n30:(k==30)=false:=bn y30
  go_wp2
  go_ret
  exact⟨ret_bool (a:=false) (Eq.symm (by simp[Wri.sort,Pars.Node.kind,Pars.Node.text,y30]<;>first | omega | (intros;omega) | (apply decide_eq_false;rintro⟨_,_⟩;omega))),HU.out⟩
 have h108:¬ci=108:=by
  intro h
  exact z (by have:=HCI.out;apply UInt8.toNat_inj.1;show c.toNat=108;omega)
 have g108:(ci==108)=false:=bn h108
 have Z108:=hid z
 clear z
 go_upto_region 10 with fail
 by_cases z:c=103
 ·subst z
  have hz:ci=103:=HCI.out.symm.trans (by rfl)
  subst hz
  by_cases y30:k=30
  ·subst y30
   go_wp2
   go_ret
   exact⟨ret_bool (a:=true) (Eq.symm (by simp[Wri.sort,Pars.Node.kind,Pars.Node.text]<;>first | omega | (intros;omega) | (apply decide_eq_false;rintro⟨_,_⟩;omega))),HU.out⟩
  have n30:(k==30)=false:=bn y30
  go_wp2
  go_ret
  exact⟨ret_bool (a:=false) (Eq.symm (by simp[Wri.sort,Pars.Node.kind,Pars.Node.text,y30]<;>first | omega | (intros;omega) | (apply decide_eq_false;rintro⟨_,_⟩;omega))),HU.out⟩
 have h103:¬ci=103:=by
  intro h
  exact z (by have:=HCI.out;apply UInt8.toNat_inj.1;show c.toNat=103;omega)
 have g103:(ci==103)=false:=bn h103
 have Z103:=hid z
 clear z
 go_upto_region 12 with fail
 by_cases z:c=105
 ·subst z
  have hz:ci=105:=HCI.out.symm.trans (by rfl)
  subst hz
  by_cases y30:k=30
  ·subst y30
   go_wp2
   go_ret
   exact⟨ret_bool (a:=true) (Eq.symm (by simp[Wri.sort,Pars.Node.kind,Pars.Node.text]<;>first | omega | (intros;omega) | (apply decide_eq_false;rintro⟨_,_⟩;omega))),HU.out⟩
  have n30:(k==30)=false:=bn y30
  by_cases y22:k=22
  ·subst y22
   go_wp2
   go_ret
   exact⟨ret_bool (a:=true) (Eq.symm (by simp[Wri.sort,Pars.Node.kind,Pars.Node.text]<;>first | omega | (intros;omega) | (apply decide_eq_false;rintro⟨_,_⟩;omega))),HU.out⟩
  have n22:(k==22)=false:=bn y22
  go_wp2
  go_ret
  exact⟨ret_bool (a:=false) (Eq.symm (by simp[Wri.sort,Pars.Node.kind,Pars.Node.text,y30,y22]<;>first | omega | (intros;omega) | (apply decide_eq_false;rintro⟨_,_⟩;omega))),HU.out⟩
 have h105:¬ci=105:=by
  intro h
  exact z (by have:=HCI.out;apply UInt8.toNat_inj.1;show c.toNat=105;omega)
 have g105:(ci==105)=false:=bn h105
 have Z105:=hid z
 clear z
 go_upto_region 14 with fail
 by_cases z:c=113
 ·subst z
  have hz:ci=113:=HCI.out.symm.trans (by rfl)
  subst hz
  by_cases y10:k=10
  ·subst y10
   go_wp2
   go_ret
   exact⟨ret_bool (a:=true) (Eq.symm (by simp[Wri.sort,Pars.Node.kind,Pars.Node.text]<;>first | omega | (intros;omega) | (apply decide_eq_false;rintro⟨_,_⟩;omega))),HU.out⟩
  have n10:(k==10)=false:=bn y10
  go_wp2
  go_ret
  exact⟨ret_bool (a:=false) (Eq.symm (by simp[Wri.sort,Pars.Node.kind,Pars.Node.text,y10]<;>first | omega | (intros;omega) | (apply decide_eq_false;rintro⟨_,_⟩;omega))),HU.out⟩
 have h113:¬ci=113:=by
  intro h
  exact z (by have:=HCI.out;apply UInt8.toNat_inj.1;show c.toNat=113;omega)
 have g113:(ci==113)=false:=bn h113
 have Z113:=hid z
 clear z
 go_upto_region 16 with fail
 by_cases z:c=115
 ·subst z
  have hz:ci=115:=HCI.out.symm.trans (by rfl)
  subst hz
  by_cases r1:20≤k
  ·have r1d:decide (20≤k)=true:=decide_eq_true r1
   by_cases r2:k≤31
   ·have r2d:decide (k≤31)=true:=decide_eq_true r2
    go_wp2
    go_ret
    exact⟨ret_bool (a:=true) (Eq.symm (by simp[Wri.sort,Pars.Node.kind,Pars.Node.text,r1,r2]<;>first | omega | (intros;omega) | (apply decide_eq_false;rintro⟨_,_⟩;omega))),HU.out⟩
   have r2d:decide (k≤31)=false:=decide_eq_false r2
   go_wp2
   go_ret
   exact⟨ret_bool (a:=false) (Eq.symm (by simp[Wri.sort,Pars.Node.kind,Pars.Node.text,r1,r2]<;>first | omega | (intros;omega) | (apply decide_eq_false;rintro⟨_,_⟩;omega))),HU.out⟩
  have r1d:decide (20≤k)=false:=decide_eq_false r1
  go_wp2
  go_ret
  exact⟨ret_bool (a:=false) (Eq.symm (by simp[Wri.sort,Pars.Node.kind,Pars.Node.text,r1]<;>first | omega | (intros;omega) | (apply decide_eq_false;rintro⟨_,_⟩;omega))),HU.out⟩
 have h115:¬ci=115:=by
  intro h
  exact z (by have:=HCI.out;apply UInt8.toNat_inj.1;show c.toNat=115;omega)
 have g115:(ci==115)=false:=bn h115
 have Z115:=hid z
 clear z
 by_cases r1:1≤k
 ·have r1d:decide (1≤k)=true:=decide_eq_true r1
  by_cases r2:k≤19
  ·have r2d:decide (k≤19)=true:=decide_eq_true r2
   by_cases y8:k=8
   ·subst y8
    go_wp2
    go_ret
    exact⟨ret_bool (a:=false) (Eq.symm (by simp[Wri.sort,Pars.Node.kind,Pars.Node.text,Z112.out,Z116.out,Z100.out,Z98.out,Z108.out,Z103.out,Z105.out,Z113.out,Z115.out]<;>first | omega | (intros;omega) | (apply decide_eq_false;rintro⟨_,_⟩;omega))),HU.out⟩
   have n8:(k==8)=false:=bn y8
   by_cases y10:k=10
   ·subst y10
    go_wp2
    go_ret
    exact⟨ret_bool (a:=false) (Eq.symm (by simp[Wri.sort,Pars.Node.kind,Pars.Node.text,Z112.out,Z116.out,Z100.out,Z98.out,Z108.out,Z103.out,Z105.out,Z113.out,Z115.out]<;>first | omega | (intros;omega) | (apply decide_eq_false;rintro⟨_,_⟩;omega))),HU.out⟩
   have n10:(k==10)=false:=bn y10
   by_cases y9:k=9
   ·subst y9
    by_cases hT:T=⟨#[]⟩
    ·have ht0:t=[]:=byt_inj (HT.out.trans (hT.trans rfl))
     subst hT
     go_wp2
     go_ret
     exact⟨ret_bool (a:=true) (Eq.symm (by simp[Wri.sort,Pars.Node.kind,Pars.Node.text,Z112.out,Z116.out,Z100.out,Z98.out,Z108.out,Z103.out,Z105.out,Z113.out,Z115.out,ht0]<;>first | omega | (intros;omega) | (apply decide_eq_false;rintro⟨_,_⟩;omega))),HU.out⟩
    obtain⟨q1,q2,q3⟩:=same_no hT
    have q4:=of_decide_eq_false q2
    have q5:(T.toList==[])=false:=by
     have e:(⟨#[]⟩:ByteArray).toList=[]:=by simp[ByteArray.toList_eq]
     rw[e] at q1
     exact q1
    have q6:T.toList.isEmpty=false:=by
     rw[←HT.out,byt_list]
     cases t with
     | nil=>exact absurd (HT.out.symm.trans rfl) hT
     | cons a l=>rfl
    have ht0:¬t=[]:=fun e=>hT (HT.out.symm.trans (by rw[e];rfl))
    go_wp2
    go_ret
    exact⟨ret_bool (a:=false) (Eq.symm (by simp[Wri.sort,Pars.Node.kind,Pars.Node.text,Z112.out,Z116.out,Z100.out,Z98.out,Z108.out,Z103.out,Z105.out,Z113.out,Z115.out,ht0]<;>first | omega | (intros;omega) | (apply decide_eq_false;rintro⟨_,_⟩;omega))),HU.out⟩
   have n9:(k==9)=false:=bn y9
   have m8:(k != 8)=true:=by simp[bne,n8]
   have m10:(k != 10)=true:=by simp[bne,n10]
   have m9:(k != 9)=true:=by simp[bne,n9]
   go_wp2
   go_ret
   exact⟨ret_bool (a:=true) (Eq.symm (by simp[Wri.sort,Pars.Node.kind,Pars.Node.text,Z112.out,Z116.out,Z100.out,Z98.out,Z108.out,Z103.out,Z105.out,Z113.out,Z115.out,r1,r2,y8,y10,y9]<;>first | omega | (intros;omega) | (apply decide_eq_false;rintro⟨_,_⟩;omega))),HU.out⟩
  have r2d:decide (k≤19)=false:=decide_eq_false r2
  go_wp2
  go_ret
  exact⟨ret_bool (a:=false) (Eq.symm (by simp[Wri.sort,Pars.Node.kind,Pars.Node.text,Z112.out,Z116.out,Z100.out,Z98.out,Z108.out,Z103.out,Z105.out,Z113.out,Z115.out,r1,r2]<;>first | omega | (intros;omega) | (apply decide_eq_false;rintro⟨_,_⟩;omega))),HU.out⟩
 have r1d:decide (1≤k)=false:=decide_eq_false r1
 go_wp2
 go_ret
 exact⟨ret_bool (a:=false) (Eq.symm (by simp[Wri.sort,Pars.Node.kind,Pars.Node.text,Z112.out,Z116.out,Z100.out,Z98.out,Z108.out,Z103.out,Z105.out,Z113.out,Z115.out,r1]<;>first | omega | (intros;omega) | (apply decide_eq_false;rintro⟨_,_⟩;omega))),HU.out⟩
end Go.Proofs.YtflmjbmdmoifhaaGreatDoor
namespace Go.Proofs.YtflmjbmdmoifhaaGreatDoor
open Go.Lib (hid)
open Go.RowKit
theorem next_err {l:Lexy.Bs} {e:Nat} (h:Lexy.next l= .err e):e=2∨e=4:=by
 unfold Lexy.next at h
 cases l with
 | nil=>injection h with h;exact .inr h.symm
 | cons c r=>
  simp only at h
  split at h
  ·cases h
  split at h
  ·split at h
   ·injection h with h;exact .inl h.symm
   ·split at h
    ·injection h with h;exact .inr h.symm
    ·cases h
  split at h
  ·split at h
   ·injection h with h;exact .inr h.symm
   ·cases h
  unfold Lexy.sign at h
  split at h
  ·cases h
  split at h
  ·cases h
  ·injection h with h;exact .inr h.symm
theorem toksR_err:∀(rem p:Nat) (l:Lexy.Bs) {e:Nat},Lexy.toksR rem p l= .err e→e=2∨e=4:=by
 intro rem
 induction rem with
 | zero=>
  intro p l e h
  rw[Lexy.toksR_eq] at h
  split at h
  ·cases h
  ·split at h
   ·rename_i hn;injection h with h;subst h;exact next_err hn
   ·simp only at h;injection h with h;exact .inl h.symm
 | succ rem ih=>
  intro p l e h
  rw[Lexy.toksR_eq] at h
  split at h
  ·cases h
  ·split at h
   ·rename_i hn;injection h with h;subst h;exact next_err hn
   ·simp only at h
    split at h
    ·rename_i hq;injection h with h;subst h;exact ih _ _ hq
    ·cases h
theorem toks_err {l:Lexy.Bs} {e:Nat} (h:Lexy.toks l= .err e):e=2∨e=4:=by
 unfold Lexy.toks at h
 split at h
 ·injection h with h;exact .inl h.symm
 ·exact toksR_err _ _ _ h
theorem toks_le {l:Lexy.Bs} {ts:List Lexy.Tok} (h:Lexy.toks l= .ok ts):ts.length≤1000∧l.length≤2000:=by
 unfold Lexy.toks at h
 split at h
 ·cases h
 ·exact⟨(Lexy.lex_of _ _ _ _ h).2,by omega⟩
def kts (ts:List Lexy.Tok):List KT:=ts.map fun x=>(x.toTk,(x.lo:Int),(x.hi:Int))
theorem kts_len (ts:List Lexy.Tok):(kts ts).length=ts.length:=by simp[kts]
theorem kts_toks (ts:List Lexy.Tok):toks (kts ts)=ts.map (·.toTk):=by simp[kts,toks]
theorem kts_cells (ts:List Lexy.Tok):flat kc (kts ts)=Jl.tokCells ts:=by
 induction ts with
 | nil=>rfl
 | cons t ts ih=>
  have e:kts (t :: ts)=(t.toTk,(t.lo:Int),(t.hi:Int)) :: kts ts:=rfl
  rw[e,flat_cons,ih]
  rfl
theorem results_bt {P:Program} {fn:Func} {tmps:Array Value} {w:World} {p1 u1:Tmp} {ty1:TypeId} {c1:Array Value} (h:fn.results= #[.cell p1 ty1,.tmp u1]) (h1:Back P w tmps p1 ty1 c1):(results fn tmps).run P w= .ok (.tuple #[.agg c1,tmps.getD u1 undef]) w:=by
 obtain⟨a1,e1,r1⟩:=h1.out
 simp only[Array.getD_eq_getD_getElem?] at e1
 simp only[results,h]
 simp[Sem.run_bind,Result.andThen,e1,asAddr,r1]
def ParseOut (s:List UInt8) (w:World) (e:Ending) (w':World):Prop:=
 (∃n cs,Pars.parse s= .ok n∧e= .returned (.tuple #[.agg cs,.int .i64 0])∧NodeAt w' (fun g=>w.heap.size≤g) n cs∧Below w.heap.size w w')∨
 (∃k:Nat,Pars.parse s= .error k∧(k=2∨k=4)∧e= .returned (.tuple #[.agg #[.int .i64 0,.int .i64 0,.string ⟨#[]⟩,.slice none 0 0],.int .i64 (k:Int)])∧Below w.heap.size w w')
set_option maxRecDepth 100000 in
set_option maxHeartbeats 4000000 in
theorem parse_any (s:List UInt8) (w:World) (he:Jl.Env w) (h4:4≤w.heap.size) (hm:s.length≤9223372036854775807):
  Calls Tryz.prog 19 #[.string (byt s)] w (ParseOut s w):=by
 have HTK:Hid (∀w0:World,Below w.heap.size w w0→Calls Tryz.prog 18 #[.string (byt s)] w0 fun e w'=>Jl.TokOut w0 (Lexy.toks s) e w'):=hid (fun w0 hb=>by
  have:=Jl.tokens_any (byt s) w0 (he.below hb h4) (Nat.le_trans h4 hb.size) (by rw[byt_size];exact hm)
  rw[byt_data] at this
  exact this)
 have HPS:Hid (Pars.parse s=match Lexy.toks s with | .err e=> .error e | .ok l=>match Pars.tree (l.map (·.toTk)) with | none=> .error 4 | some n=>if 40<Pars.deep n then .error 2 else .ok n):=hid rfl
 go_enter Tryz.func19,Tryz.ntmps19
 go_upto_region 1 with fail
 refine gen_world (F:=fun W=>Box W w.heap.size 24 #[.int .i64 0,.int .i64 0,.string ⟨#[]⟩,.slice none 0 0]∧Below w.heap.size w W) ⟨Box.new w _ _,below1 w _⟩ ?_
 rintro W0 ⟨r0,hU⟩
 have RB:=hid r0
 have HU:=hid hU
 clear r0 hU
 go_wp2_with fail
 refine (HTK.out W0 HU.out).mono ?_
 intro e w1 ht
 cases hk:Lexy.toks s with
 | err ke=>
  rw[hk] at ht
  obtain⟨rfl,hb⟩:=ht
  have hke:=toks_err hk
  have HP:Hid (Pars.parse s= .error ke):=hid (by rw[HPS.out,hk])
  have hrl:=RB.out.lt
  replace RB:=hid (RB.out.below hb hrl)
  replace HU:=hid (HU.out.trans (hb.mono HU.out.size))
  clear hk hb hrl
  have d1:((ke:Int)==0)=false:=by rw[beq_eq_false_iff_ne];omega
  have d2:((ke:Int) != 0)=true:=by simp[bne,d1]
  have d3:¬(ke:Int)=0:=by omega
  go_wp2_with (refine wpList_store_box rfl 24 (.tmp 2) (.tmp 15) rfl w.heap.size #[.int .i64 0,.int .i64 0,.string ⟨#[]⟩,.slice none 0 0] rfl rfl 24 _ RB.out info_nod rfl (nz_one _ _ _ _ _ _) ?_;intro wz hxz huz hzz;have HZZ:=hid hzz;clear hzz)
  refine bodyPost_ret (results_bt rfl (Back.mk' w.heap.size 24 _ rfl hxz Tryz.underlying24 rfl info_nod)) rfl ?_
  exact .inr ⟨ke,HP.out,hke,rfl,HU.out.trans (huz.own (Nat.le_refl _) HU.out.size)⟩
 | ok ts=>
  rw[hk] at ht
  obtain⟨A,cap,rfl,hown,hb⟩:=ht
  have hrl:=RB.out.lt
  replace RB:=hid (RB.out.below hb hrl)
  replace HU:=hid (HU.out.trans (hb.mono HU.out.size))
  have hln:=(toks_le hk).1
  have HPT:Hid (Pars.parse s=match Pars.tree (toks (kts ts)) with | none=> .error 4 | some n=>if 40<Pars.deep n then .error 2 else .ok n):=hid (by rw[HPS.out,hk,kts_toks])
  have hks:KRd w1 (kts ts) (.slice A (kts ts).length cap):=by
   have:=Rd.own hown
   unfold KRd
   rw[kts_cells,kts_len]
   exact this
  have hA:∀g o,A=some ⟨g,o,none⟩→g<w1.heap.size:=fun g o e=>(hown.lt g (by rw[e];rfl)).2
  have HRD:=hid (read_any w1 (kts ts) A cap hks (by rw[kts_len];exact hln) hA)
  rw[kts_len] at HRD
  have hl2:(toks (kts ts)).length≤1000:=by rw[kts_toks];simpa using hln
  clear hk hb hrl hown hks hA HPS HTK
  go_wp2_with fail
  refine HRD.out.mono ?_
  rintro e w2 (⟨l,cs,htr,rfl,hn,hll,hb⟩ | ⟨htr,rfl,hb⟩)
  ·have hsz:=Pars.tree_size htr
   have hrl:=RB.out.lt
   replace RB:=hid (RB.out.below hb hrl)
   have hw1:=HU.out.size
   replace HU:=hid (HU.out.trans (hb.mono HU.out.size))
   have HP:Hid (Pars.parse s=if 40<Pars.deep (.mk 30 0 [] l) then .error 2 else .ok (.mk 30 0 [] l)):=hid (by rw[HPT.out,htr])
   have HN:Hid (NodeAt w2 (fun g=>w.heap.size<g) (.mk 30 0 [] l) cs):=hid (hn.weak (fun g hg=>by omega))
   have hinf:(Tryz.prog.info? 24).map (·.size)=some cs.size:=by rw[NodeAt.size hn];exact info_nod
   have HINF:=hid hinf
   have H4:Hid ((4:Nat)=cs.size):=hid (NodeAt.size hn).symm
   have HONE:=hid (NodeAt.one hn)
   clear htr hn hb hinf HPT HRD hrl
   obtain⟨n,hnn⟩:∃n,Pars.Node.mk 30 0 [] l=n:=⟨_,rfl⟩
   rw[hnn] at HP HN hsz
   clear hnn
   go_upto_region 5 with (refine wpList_store_box rfl 24 (.tmp 6) (.tmp 20) rfl w2.heap.size cs rfl rfl 24 _ (Box.new w2 _ _) HINF.out H4.out HONE.out ?_;intro w3 hx hv hz;have HZ:=hid hz;clear hz)
   have hb:Below w2.heap.size w2 w3:=((Below.refl _ w2).alloc (Nat.le_refl _) _).trans (hv.own (Nat.le_refl _) (by simp))
   have EB:=hid hx
   have hrl:=RB.out.lt
   replace RB:=bl RB hb
   replace HN:=hid (HN.out.below hb)
   have hz2:=HU.out.size
   replace HU:=hid (HU.out.trans (hb.mono HU.out.size))
   clear hx hv hb
   have eb:=EB.out
   have hdl:=Pars.deep_size n
   go_wp2_with (refine wpList_load_row rfl 24 (.tmp 6) rfl w2.heap.size rfl _ cs (0,0) _ eb Tryz.underlying24 rfl HINF.out ?_)
   refine (deep_any HN.out (by omega)).mono ?_
   rintro e w4 ⟨rfl,hb⟩
   have hel:=EB.out.lt
   replace EB:=hid (EB.out.below hb hel)
   replace RB:=bl RB hb
   replace HN:=hid (HN.out.below hb)
   have hz3:=HU.out.size
   replace HU:=hid (HU.out.trans (hb.mono HU.out.size))
   clear hb eb hel
   by_cases y:40<Pars.deep n
   ·have d1:decide ((40:Int)<(Pars.deep n:Int))=true:=decide_eq_true (by omega)
    have d2:(40:Int)<(Pars.deep n:Int):=by omega
    replace HP:=hid (HP.out.trans (if_pos y))
    go_wp2_with (refine wpList_store_box rfl 24 (.tmp 2) (.tmp 28) rfl w.heap.size #[.int .i64 0,.int .i64 0,.string ⟨#[]⟩,.slice none 0 0] rfl rfl 24 _ RB.out info_nod rfl (nz_one _ _ _ _ _ _) ?_;intro wz hxz huz hzz;have HZZ:=hid hzz;clear hzz)
    refine bodyPost_ret (results_bt rfl (Back.mk' w.heap.size 24 _ rfl hxz Tryz.underlying24 rfl info_nod)) rfl ?_
    exact .inr ⟨2,HP.out,.inl rfl,rfl,HU.out.trans (huz.own (Nat.le_refl _) HU.out.size)⟩
   ·have d1:decide ((40:Int)<(Pars.deep n:Int))=false:=decide_eq_false (by omega)
    have d2:¬(40:Int)<(Pars.deep n:Int):=by omega
    replace HP:=hid (HP.out.trans (if_neg y))
    have eb:=EB.out
    go_wp2_with (first | (refine wpList_load_row rfl 24 (.tmp 6) rfl w2.heap.size rfl _ cs (0,0) _ eb Tryz.underlying24 rfl HINF.out ?_) | (refine wpList_store_box rfl 24 (.tmp 2) (.tmp 29) rfl w.heap.size cs rfl rfl 24 _ RB.out HINF.out H4.out HONE.out ?_;intro wz hxz huz hzz;have HZZ:=hid hzz;clear hzz))
    refine bodyPost_ret (results_bt rfl (Back.mk' w.heap.size 24 _ rfl hxz Tryz.underlying24 rfl HINF.out)) rfl ?_
    exact .inl ⟨n,cs,HP.out,rfl,(HN.out.upd huz (fun g hg=>by have:w.heap.size<g:=hg;omega)).weak (fun g hg=>Nat.le_of_lt hg),HU.out.trans (huz.own (Nat.le_refl _) HU.out.size)⟩
  ·have hrl:=RB.out.lt
   replace RB:=hid (RB.out.below hb hrl)
   replace HU:=hid (HU.out.trans (hb.mono HU.out.size))
   have HP:Hid (Pars.parse s= .error 4):=hid (by rw[HPT.out,htr])
   clear htr hb hrl HPT HRD
   go_wp2_with (first | (refine wpList_store_box rfl 24 (.tmp 6) (.tmp 20) rfl w2.heap.size #[.int .i64 0,.int .i64 0,.string ⟨#[]⟩,.slice none 0 0] rfl rfl 24 _ (Box.new w2 _ _) info_nod rfl (nz_one _ _ _ _ _ _) ?_;intro w3 hx hv hz;have HZ:=hid hz;clear hz;have hb3:Below w2.heap.size w2 w3:=((Below.refl _ w2).alloc (Nat.le_refl _) _).trans (hv.own (Nat.le_refl _) (by simp));have RB3:=bl RB hb3;have HU3:=hid (HU.out.trans (hb3.mono HU.out.size));clear hx hv hb3) | (refine wpList_store_box rfl 24 (.tmp 2) (.tmp 24) rfl w.heap.size #[.int .i64 0,.int .i64 0,.string ⟨#[]⟩,.slice none 0 0] rfl rfl 24 _ RB3.out info_nod rfl (nz_one _ _ _ _ _ _) ?_;intro wz hxz huz hzz;have HZZ:=hid hzz;clear hzz))
   refine bodyPost_ret (results_bt rfl (Back.mk' w.heap.size 24 _ rfl hxz Tryz.underlying24 rfl info_nod)) rfl ?_
   exact .inr ⟨4,HP.out,.inr rfl,rfl,HU3.out.trans (huz.own (Nat.le_refl _) HU3.out.size)⟩
end Go.Proofs.YtflmjbmdmoifhaaGreatDoor
namespace Go.Proofs.YtflmjbmdmoifhaaGreatDoor
open Go.Lib (hid)
open Go.RowKit
structure EnvW (w:World):Prop where
 sp:Jl.Env w
 pow:Lib.TabIs Tryz.prog w "internal/strconv.uint64pow10" .u64 Lib.pow10Tab
 ml:∃m,w.cell? ⟨1,0,none⟩=some (.int .i64 m)
 big:7≤w.heap.size
theorem gPow:Tryz.prog.globalNamed "internal/strconv.uint64pow10" =some 3:=by kernel_rfl
theorem EnvW.below {w w':World} (h:EnvW w) {B:Nat} (hb:Below B w w') (hB:7≤B):EnvW w':=by
 obtain⟨m,hm⟩:=h.ml
 exact⟨h.sp.below hb (by omega),var?_below hb gPow (by omega) h.pow,⟨m,by rw[hb.cell (p:=⟨1,0,none⟩) (by show 1<B;omega)];exact hm⟩,Nat.le_trans h.big hb.size⟩
theorem EnvW.step {w w':World} (h:EnvW w) (hb:Below w.heap.size w w'):EnvW w':=h.below hb h.big
theorem own_cells5 {w:World} {base:Nat} {A:Option Addr} {n cap:Nat} {xs:List Value} (h:w.ownsRow base 58 5 (.slice A n cap) n xs) (hn:0<n):
  ∃g,A=some ⟨g,0,none⟩∧base≤g∧g<w.heap.size∧∀j u,xs[j]? =some u→w.cell? ⟨g,j,none⟩=some u:=by
 rcases h.2 with⟨hv,h0⟩ | ⟨g,cap',cur,hv,hb,hg,_⟩
 ·omega
 ·injection hv with hA _ _
  subst hA
  refine⟨g,rfl,hb,(Array.getElem?_eq_some_iff.1 hg).1,fun j u hu=> ?_⟩
  have:=h.cells (g:=g) rfl j u hu
  have e:(⟨g,0,none⟩:Addr).add j=⟨g,j,none⟩:=by unfold Addr.add;split<;>simp_all
  rwa [e] at this
set_option maxRecDepth 100000 in
set_option maxHeartbeats 4000000 in
theorem one_any (s words:List UInt8) (hs:s.length≤70368744177664) (hw:words.length≤1000) (w:World) (he:EnvW w):
  Calls Tryz.prog 96 #[.string (byt s),.string (byt words)] w fun e w'=>e= .returned (.bool (Wri.one s words))∧w'=w:=by
 obtain⟨m,hm⟩:=he.ml
 obtain⟨b1,hb1⟩:∃b,Lib.contains ([32]++words++[32]) ([32]++s++[32])=b:=⟨_,rfl⟩
 obtain⟨b2,hb2⟩:∃b,decide (0≤Lib.indexByte s 32)=b:=⟨_,rfl⟩
 have HC1:Hid (Calls Tryz.prog 36 #[.string ((⟨#[32]⟩:ByteArray)++byt words++⟨#[32]⟩),.string ((⟨#[32]⟩:ByteArray)++byt s++⟨#[32]⟩)] w fun e w'=>e= .returned (.bool b1)∧w'=w):=hid (by
  have e1:(⟨#[32]⟩:ByteArray)++byt words++⟨#[32]⟩=byt ([32]++words++[32]):=by rw[show (⟨#[32]⟩:ByteArray)=byt [32] from rfl,byt_append,byt_append]
  have e2:(⟨#[32]⟩:ByteArray)++byt s++⟨#[32]⟩=byt ([32]++s++[32]):=by rw[show (⟨#[32]⟩:ByteArray)=byt [32] from rfl,byt_append,byt_append]
  have:=Tryz.strings_Contains (byt ([32]++words++[32])) (byt ([32]++s++[32])) m w (by rw[byt_size];simp;omega) hm
  rw[byt_data,byt_data,hb1] at this
  rw[e1,e2]
  exact this)
 have HC2:Hid (Calls Tryz.prog 36 #[.string (byt s),.string ⟨#[32]⟩] w fun e w'=>e= .returned (.bool b2)∧w'=w):=hid (by
  have:=Tryz.strings_Contains_one (byt s) 32 w
  rw[byt_data,hb2] at this
  exact this)
 have HE:Hid (Wri.one s words=(b1&&(!decide (s=[])&& !b2))):=hid (by unfold Wri.one;rw[hb1,hb2])
 obtain⟨T,hT0⟩:∃q,byt s=q:=⟨_,rfl⟩
 obtain⟨WD,hW0⟩:∃q,byt words=q:=⟨_,rfl⟩
 have hz1:T.size≤70368744177664:=by rw[←hT0,byt_size];exact hs
 have hz2:WD.size≤1000:=by rw[←hW0,byt_size];exact hw
 have hz3:(⟨#[32]⟩:ByteArray).size=1:=rfl
 have HT:=hid hT0
 rw[hT0,hW0] at HC1
 rw[hT0] at HC2
 rw[hT0,hW0,HE.out]
 clear hb1 hb2 hT0 hW0 hm he HE hs hw
 go_enter Tryz.func96,Tryz.ntmps96
 go_wp2_with fail
 refine HC1.out.mono ?_
 rintro e w1 ⟨rfl,rfl⟩
 cases b1 with
 | false=>
  go_wp2
  go_ret
  exact⟨rfl,rfl⟩
 | true=>
  by_cases hT:T=⟨#[]⟩
  ·have hs0:s=[]:=byt_inj (HT.out.trans (hT.trans rfl))
   subst hT
   go_wp2
   go_ret
   exact⟨ret_bool (a:=false) (by simp[hs0]),rfl⟩
  obtain⟨q1,q2,q3⟩:=same_no hT
  have q4:=of_decide_eq_false q2
  have q5:(T.toList==[])=false:=by
   have e:(⟨#[]⟩:ByteArray).toList=[]:=by simp[ByteArray.toList_eq]
   rw[e] at q1
   exact q1
  have q6:T.toList.isEmpty=false:=by
   rw[←HT.out,byt_list]
   cases s with
   | nil=>exact absurd (HT.out.symm.trans rfl) hT
   | cons a l=>rfl
  have hs0:¬s=[]:=fun e=>hT (HT.out.symm.trans (by rw[e];rfl))
  have HS0:=hid hs0
  clear hs0
  go_wp2_with fail
  refine HC2.out.mono ?_
  rintro e w2 ⟨rfl,rfl⟩
  cases b2 with
  | false=>
   go_wp2
   go_ret
   exact⟨ret_bool (a:=true) (by simp[HS0.out]),rfl⟩
  | true=>
   go_wp2
   go_ret
   exact⟨ret_bool (a:=false) (by simp),rfl⟩
set_option maxRecDepth 100000 in
set_option maxHeartbeats 4000000 in
theorem name_is (s:List UInt8) (hs:s.length≤9223372036854775807) (w:World) (he:EnvW w):
  Calls Tryz.prog 95 #[.string (byt s)] w fun e w'=>e= .returned (.bool (Wri.name s))∧Below w.heap.size w w':=by
 have HTK:Hid (Calls Tryz.prog 18 #[.string (byt s)] w fun e w'=>Jl.TokOut w (Lexy.toks s) e w'):=hid (by
  have:=Jl.tokens_any (byt s) w he.sp (by have:=he.big;omega) (by rw[byt_size];exact hs)
  rw[byt_data] at this
  exact this)
 have HN:Hid (Wri.name s=match Lexy.toks s with | .ok [t]=>decide (t.kind=1)&&decide (t.text=s) | _=>false):=hid rfl
 obtain⟨T,hT0⟩:∃q,byt s=q:=⟨_,rfl⟩
 have HT:=hid hT0
 rw[hT0] at HTK
 rw[hT0]
 clear hT0
 go_enter Tryz.func95,Tryz.ntmps95
 go_wp2_with fail
 refine HTK.out.mono ?_
 intro e w1 ht
 cases hk:Lexy.toks s with
 | err ke=>
  rw[hk] at ht
  obtain⟨rfl,hb⟩:=ht
  have hke:=toks_err hk
  have HF:Hid (Wri.name s=false):=hid (by rw[HN.out,hk])
  have HB:=hid hb
  have d1:((ke:Int)==0)=false:=by rw[beq_eq_false_iff_ne];omega
  have d3:¬(ke:Int)=0:=by omega
  clear hk hb
  go_wp2
  go_ret
  exact⟨ret_bool (a:=false) HF.out.symm,HB.out⟩
 | ok ts=>
  rw[hk] at ht
  obtain⟨A,cap,rfl,hown,hb⟩:=ht
  have HB:=hid hb
  rcases ts with _ | ⟨t,_ | ⟨t2,ts⟩⟩
  ·have HF:Hid (Wri.name s=false):=hid (by rw[HN.out,hk])
   clear hk hown hb
   simp only[List.length_nil]
   go_wp2
   go_ret
   exact⟨ret_bool (a:=false) HF.out.symm,HB.out⟩
  ·have HF:Hid (Wri.name s=(decide (t.kind=1)&&decide (t.text=s))):=hid (by rw[HN.out,hk])
   obtain⟨g,rfl,hg1,hg2,hc⟩:=own_cells5 hown (by simp)
   have c0:w1.cell? ⟨g,0,none⟩=some (.int .i64 (t.kind:Int)):=hc 0 _ rfl
   have c3:w1.cell? ⟨g,3,none⟩=some (.string (byt t.text)):=hc 3 _ rfl
   obtain⟨KD,hKD⟩:∃q,t.kind=q:=⟨_,rfl⟩
   obtain⟨TT,hTT⟩:∃q,byt t.text=q:=⟨_,rfl⟩
   have HTT:=hid hTT
   rw[hKD] at c0 HF
   rw[hTT] at c3
   clear hk hc hown hb hKD hTT
   simp only[List.length_cons,List.length_nil]
   by_cases y:KD=1
   ·subst y
    by_cases z:TT=T
    ·have hz:t.text=s:=byt_inj (HTT.out.trans (z.trans HT.out.symm))
     subst z
     obtain⟨q1,q2⟩:=same_yes TT
     go_wp2
     go_ret
     exact⟨ret_bool (a:=true) (by rw[HF.out];simp[hz]),HB.out⟩
    ·have hz:¬t.text=s:=fun e=>z (by rw[←HTT.out,e,HT.out])
     have HZ:=hid hz
     obtain⟨q1,q2,q3⟩:=same_no z
     have q4:=of_decide_eq_false q2
     clear z hz
     go_wp2
     go_ret
     exact⟨ret_bool (a:=false) (by rw[HF.out];simp[HZ.out]),HB.out⟩
   ·have d1:((KD:Int)==1)=false:=by rw[beq_eq_false_iff_ne];omega
    have d3:¬(KD:Int)=1:=by omega
    have HF2:Hid (Wri.name s=false):=hid (by rw[HF.out];simp[y])
    clear y HF
    go_wp2
    go_ret
    exact⟨ret_bool (a:=false) HF2.out.symm,HB.out⟩
  ·have HF:Hid (Wri.name s=false):=hid (by rw[HN.out,hk])
   obtain⟨q,hq⟩:∃q,(t :: t2 :: ts).length=q:=⟨_,rfl⟩
   have hq2:2≤q:=by rw[←hq];simp
   rw[hq]
   have d1:((q:Int)==1)=false:=by rw[beq_eq_false_iff_ne];omega
   have d3:¬(q:Int)=1:=by omega
   clear hk hown hb hq
   go_wp2
   go_ret
   exact⟨ret_bool (a:=false) HF.out.symm,HB.out⟩
end Go.Proofs.YtflmjbmdmoifhaaGreatDoor

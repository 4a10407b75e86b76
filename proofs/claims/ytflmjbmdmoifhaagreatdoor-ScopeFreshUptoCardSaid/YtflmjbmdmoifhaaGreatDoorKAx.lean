/-
  Texts that the law leans on: ScF, SlD, SlE. Conditions: as each says.
-/
import Derived.Test.YtflmjbmdmoifhaaGreatDoorKAb
import Derived.Test.YtflmjbmdmoifhaaGreatDoorKAv
import Derived.Test.YtflmjbmdmoifhaaGreatDoorKAm
import Derived.Test.YtflmjbmdmoifhaaGreatDoorKAc
import Derived.Test.YtflmjbmdmoifhaaGreatDoorKAo
import Derived.Test.YtflmjbmdmoifhaaGreatDoorShelf
import Derived.Test.YtflmjbmdmoifhaaGreatDoorKAu
import Derived.Test.YtflmjbmdmoifhaaGreatDoorKAa
set_option linter.unusedSimpArgs false
set_option linter.unusedVariables false
namespace Scopy
open Pars (Node Bs)
theorem ok_check {n:Node} (h1:n.kind=30) (h2:Wri.right n false false=true) (h3:Pars.deep n≤40):Wri.check n=0:=by
 unfold Wri.check
 rw[if_neg (by simp[h1,h2]),if_neg (by omega)]
theorem fresh_law {n:Node} {dk:Int} {x:Bs} {known:List Bs} (h1:(names n known).e=0) (h2:0≤dk) (h3:dk<((names n known).decls.length:Int)) (h4:Wri.name x=true) (h5:∀d∈(names n known).decls,d.name≠x) (h6:∀u∈(names n known).uses,u.1≠x):(rename n dk x known).2=0:=by
 obtain⟨c1,c2,c3⟩:=names_ok h1
 obtain⟨k,rfl⟩:∃k:Nat,dk=k:=⟨dk.toNat,by omega⟩
 have es:names n known=(run known k x n).1:=by unfold names;rw[c3];exact (run_st known k x n).symm
 obtain⟨q1,q2,q3⟩:=check_ok c1
 have hm:Wri.check (run known k x n).2=0:=ok_check (by unfold run;rw[tr_kind];exact q1) (tr_right (fine known k x (fun _=>h4)) _ n start false false q2 (fun d hd=>by cases hd)).2 (by rw[run_deep];exact q3)
 have eo:names (run known k x n).2 known=(run known (-1) [] (run known k x n).2).1:=by
  unfold names look
  rw[if_neg (by omega),if_neg (by omega)]
 have hc:=tr_comp (hs known k x) (hs known (-1) []) (Pars.deep n) n start start
 have e1:(tr (hs known k x) (Pars.deep n) n start).1=names n known:=es.symm
 have e2:(tr (hs known (-1) []) (Pars.deep n) (tr (hs known k x) (Pars.deep n) n start).2 start).1=names (run known k x n).2 known:=by rw[eo];unfold run;rw[tr_deep]
 have hi:=tr_inv (fresh known k x) (Pars.deep n) n (start,start) (by rw[hc,e1,e2];exact⟨h1,h5,h6⟩)
  ⟨rfl,.cons _ _ _ _ (ren_empty k x 0) .nil,by simp[start,setName],rfl,start_tells known⟩
 rw[hc,e1,e2] at hi
 unfold rename
 rw[if_neg (by simp[h1]),if_neg (fun h=>h ⟨h2,h3,h4⟩),c3,if_pos ⟨hi.e2,hi.uses,by rw[Int.toNat_natCast];exact hi.decls⟩]
end Scopy
namespace Wri
open Lexy
theorem takeWhile_all {p:UInt8→Bool}:∀l:Bs,(∀d∈l,p d=true)→l.takeWhile p=l
 | [],_=>rfl
 | c :: r,h=>by rw[List.takeWhile_cons,if_pos (h c (by simp)),takeWhile_all r (fun d hd=>h d (by simp[hd]))]
theorem name_of {s:Bs} (h:IsName s) (hl:s.length≤2000):Wri.name s=true:=by
 obtain⟨c,r,rfl,hc⟩:=h.head
 have h2:nameLen (c :: r)=(c :: r).length:=by
  unfold nameLen
  have:(c :: r).takeWhile isNameB=c :: r:=takeWhile_all _ h.all
  rw[this]
 have hs:skp false (c :: r)=0:=by
  have hb:isBlank c=false∧(c==47)=false:=by
   unfold isLetter at hc
   unfold isBlank
   simp only[Bool.or_eq_true,Bool.and_eq_true,decide_eq_true_eq,beq_iff_eq] at hc
   have e:∀d:UInt8,c=d→c.toNat=d.toNat:=fun d e=>e ▸ rfl
   have h32:=e 32;have h9:=e 9;have h10:=e 10;have h13:=e 13;have h47:=e 47;have h95:=e 95
   simp only[show (32:UInt8).toNat=32 from rfl,show (9:UInt8).toNat=9 from rfl,show (10:UInt8).toNat=10 from rfl,show (13:UInt8).toNat=13 from rfl,show (47:UInt8).toNat=47 from rfl,show (95:UInt8).toNat=95 from rfl] at h32 h9 h10 h13 h47 h95
   constructor
   ·simp only[Bool.or_eq_false_iff,beq_eq_false_iff_ne,ne_eq]
    refine⟨⟨⟨fun e=> ?_,fun e=> ?_⟩,fun e=> ?_⟩,fun e=> ?_⟩
    ·have:=h32 e;rcases hc with (hc | hc) | hc<;>first | omega | (have:=h95 hc;omega)
    ·have:=h9 e;rcases hc with (hc | hc) | hc<;>first | omega | (have:=h95 hc;omega)
    ·have:=h10 e;rcases hc with (hc | hc) | hc<;>first | omega | (have:=h95 hc;omega)
    ·have:=h13 e;rcases hc with (hc | hc) | hc<;>first | omega | (have:=h95 hc;omega)
   ·simp only[beq_eq_false_iff_ne,ne_eq]
    intro e
    have:=h47 e;rcases hc with (hc | hc) | hc<;>first | omega | (have:=h95 hc;omega)
  simp[skp,hb.1,hb.2]
 have hn:next (c :: r)= .ok (⟨1,c :: r,0⟩,(c :: r).length):=by
  simp only[next]
  rw[if_pos hc,h2,List.take_length,if_neg h.no]
 have ht:toks (c :: r)= .ok [⟨⟨1,c :: r,0⟩,0,(c :: r).length⟩]:=by
  unfold toks
  rw[if_neg (by omega),toksR]
  rw[hs,List.drop_zero]
  simp only[]
  rw[hn]
  simp only[List.drop_length]
  rw[toksR]
  simp[skp]
 unfold Wri.name
 rw[ht]
 simp
def wordText:Bs:=[32,108,101,116,32,102,110,32,105,102,32,101,108,115,101,32,119,104,105,108,101,32,102,111,114,32,111,102,32,114,101,116,117,114,110,32,98,114,101,97,107,32,99,111,110,116,105,110,117,101,32,116,104,114,111,119,32,116,114,121,32,99,97,116,99,104,32,102,105,110,97,108,108,121,32,116,114,117,101,32,102,97,108,115,101,32,110,117,108,108,32]
theorem word_all:∀w∈kws,Go.Lib.contains wordText (32 :: (w++[32]))=true:=by decide+kernel
theorem word_not {s:Bs} (h:Go.Lib.contains wordText (32 :: (s++[32]))=false):s∉kws:=fun hm=>by rw[word_all s hm] at h;cases h
def refName (s:Bs):Bool:=s.all isNameB&& !((s.head?.map isDigit).getD false)&&decide (s≠[])&&decide (s.length≤2000)&& !Go.Lib.contains wordText (32 :: (s++[32]))
theorem refName_of {s:Bs} (h:refName s=true):Wri.name s=true:=by
 unfold refName at h
 simp only[Bool.and_eq_true,Bool.not_eq_true',decide_eq_true_eq,List.all_eq_true] at h
 obtain⟨⟨⟨⟨h1,h2⟩,h3⟩,h4⟩,h5⟩:=h
 refine name_of ⟨?_,h1,word_not h5⟩ h4
 cases s with
 | nil=>exact absurd rfl h3
 | cons c r=>
  refine⟨c,r,rfl,?_⟩
  have:=h1 c (by simp)
  unfold isNameB at this
  simp at h2
  rw[h2,Bool.or_false] at this
  exact this
end Wri
namespace Go.Proofs.YtflmjbmdmoifhaaGreatDoor
open Go.Lib (hid)
open Go.RowKit
theorem srun_at (s:ByteArray) (c:UInt8) (i:Int) (h0:0≤i) (h:s.data.toList[i.toNat]? =some c) (w:World):
  (Instr.index 9 (.string s) (.int .i64 i)).run Tryz.prog w= .ok (.int .u8 (c.toNat:Int)) w:=by
 have hlt:i.toNat<s.size:=by
  have:=(List.getElem?_eq_some_iff.1 h).1
  simpa using this
 have hg:s[i.toNat]'hlt=c:=by
  obtain⟨h1,h2⟩:=List.getElem?_eq_some_iff.1 h
  rw[←h2];rfl
 rw[run_index_string (P:=Tryz.prog) w 9 s .i64 i Tryz.underlying9]
 rw[dif_pos ⟨by omega,by omega⟩]
 simp only[hg]
theorem sbetween_any (n a b:Int) (w:World):Calls Tryz.prog 22 #[.int .i64 n,.int .i64 a,.int .i64 b] w fun e w'=>e= .returned (.bool (decide (a≤n)&&decide (n≤b)))∧w'=w:=by
 go_enter Tryz.func22,Tryz.ntmps22
 by_cases h1:a≤n
 ·have z1:decide (a≤n)=true:=decide_eq_true h1
  by_cases h2:n≤b
  ·have z2:decide (n≤b)=true:=decide_eq_true h2
   go_wp2
   go_ret
   exact⟨by simp[z1,z2],rfl⟩
  ·have z2:decide (n≤b)=false:=decide_eq_false h2
   go_wp2
   go_ret
   exact⟨by simp[z1,z2],rfl⟩
 ·have z1:decide (a≤n)=false:=decide_eq_false h1
  go_wp2
  go_ret
  exact⟨by simp[z1],rfl⟩
theorem nbyte_any (c:UInt8) (w:World):Calls Tryz.prog 21 #[.int .u8 c.toNat] w fun e w'=>e= .returned (.bool (Lexy.isNameB c))∧w'=w:=by
 have HW:IntKind.i64.wrap (c.toNat:Int)=(c.toNat:Int):=by have:=c.toNat_lt;rw[IntKind.wrap_i64];omega
 have H1:=sbetween_any (c.toNat:Int) 97 122 w
 have H2:=sbetween_any (c.toNat:Int) 65 90 w
 have H3:=sbetween_any (c.toNat:Int) 48 57 w
 obtain⟨b1,hb1⟩:∃b,(decide ((97:Int)≤(c.toNat:Int))&&decide ((c.toNat:Int)≤122))=b:=⟨_,rfl⟩
 obtain⟨b2,hb2⟩:∃b,(decide ((65:Int)≤(c.toNat:Int))&&decide ((c.toNat:Int)≤90))=b:=⟨_,rfl⟩
 obtain⟨b3,hb3⟩:∃b,(decide ((48:Int)≤(c.toNat:Int))&&decide ((c.toNat:Int)≤57))=b:=⟨_,rfl⟩
 rw[hb1] at H1
 rw[hb2] at H2
 rw[hb3] at H3
 have hc:Lexy.isNameB c=(b1||b2||b3||decide ((c.toNat:Int)=95)):=by
  rw[←hb1, ←hb2, ←hb3]
  unfold Lexy.isNameB Lexy.isLetter Lexy.isDigit
  have e:(c==95)=decide ((c.toNat:Int)=95):=by
   rw[Bool.eq_iff_iff]
   simp only[beq_iff_eq,decide_eq_true_eq]
   constructor
   ·rintro rfl;rfl
   ·intro h;apply UInt8.toNat_inj.1;show c.toNat=95;omega
  rw[e]
  have e2:∀a b:Nat,decide ((a:Int)≤(b:Int))=decide (a≤b):=fun a b=>by simp
  rw[show (97:Int)=((97:Nat):Int) from rfl,show (122:Int)=((122:Nat):Int) from rfl,show (65:Int)=((65:Nat):Int) from rfl,show (90:Int)=((90:Nat):Int) from rfl,show (48:Int)=((48:Nat):Int) from rfl,show (57:Int)=((57:Nat):Int) from rfl]
  simp only[e2]
  cases decide (97≤c.toNat)<;>cases decide (c.toNat≤122)<;>cases decide (65≤c.toNat)<;>cases decide (c.toNat≤90)<;>cases decide (48≤c.toNat)<;>cases decide (c.toNat≤57)<;>cases decide ((c.toNat:Int)=95)<;>rfl
 have HC:=hid hc
 clear hc hb1 hb2 hb3
 go_enter Tryz.func21,Tryz.ntmps21
 cases b1 with
 | true=>
  go_wp2_with fail
  refine H1.mono ?_
  rintro e w' ⟨rfl,rfl⟩
  go_wp2
  go_ret
  exact⟨by rw[HC.out];rfl,rfl⟩
 | false=>
  go_wp2_with fail
  refine H1.mono ?_
  rintro e w' ⟨rfl,rfl⟩
  go_wp2_with fail
  refine H2.mono ?_
  rintro e w' ⟨rfl,rfl⟩
  cases b2 with
  | true=>
   go_wp2
   go_ret
   exact⟨by rw[HC.out];rfl,rfl⟩
  | false=>
   go_wp2_with fail
   refine H3.mono ?_
   rintro e w' ⟨rfl,rfl⟩
   cases b3 with
   | true=>
    go_wp2
    go_ret
    exact⟨by rw[HC.out];rfl,rfl⟩
   | false=>
    by_cases h:(c.toNat:Int)=95
    ·have z1:decide ((c.toNat:Int)=95)=true:=decide_eq_true h
     rw[z1] at HC
     have z2:((c.toNat:Int)==95)=true:=by simpa using h
     go_wp2
     go_ret
     exact⟨by rw[HC.out];simp[z1],rfl⟩
    ·have z1:decide ((c.toNat:Int)=95)=false:=decide_eq_false h
     rw[z1] at HC
     have z2:((c.toNat:Int)==95)=false:=by simpa using h
     go_wp2
     go_ret
     exact⟨by rw[HC.out];simp[z1],rfl⟩
theorem isword_any (s:List UInt8) (w:World) (m:Int) (hm:w.cell? ⟨1,0,none⟩=some (.int .i64 m)) (hn:s≠[]) (hs:s.length≤2000):Calls Tryz.prog 23 #[.string (byt s)] w fun e w'=>e= .returned (.bool (Go.Lib.contains Wri.wordText (32 :: (s++[32]))))∧w'=w:=by
 have hb:=byt_size s
 have hz:((byt s).toList==[])=false:=by rw[byt_list];simpa using hn
 have hz2:(byt s).toList.isEmpty=false:=by rw[byt_list];cases s with | nil=>exact absurd rfl hn | cons c r=>rfl
 go_enter Tryz.func23,Tryz.ntmps23
 have HC:=Tryz.strings_Contains (byt Wri.wordText) (byt ([32]++s++[32])) m w (by rw[byt_size];decide) hm
 rw[show (byt Wri.wordText).data.toList=Wri.wordText from rfl,show (byt ([32]++s++[32])).data.toList=32 :: (s++[32]) from rfl] at HC
 have he:(⟨#[32]⟩:ByteArray)++byt s++⟨#[32]⟩=byt ([32]++s++[32]):=by
  show byt [32]++byt s++byt [32]=_
  rw[byt_append,byt_append]
 obtain⟨b,hb2⟩:∃b,Go.Lib.contains Wri.wordText (32 :: (s++[32]))=b:=⟨_,rfl⟩
 rw[hb2] at HC ⊢
 have HE:=hid he
 have HCC:=hid HC
 clear HC he hb2
 go_wp2_with fail
 rw[HE.out]
 refine (show Calls _ _ #[.string (byt Wri.wordText),_] w _ from HCC.out.mono ?_)
 rintro e w' ⟨rfl,rfl⟩
 go_wp2
 go_ret
 exact⟨rfl,rfl⟩
set_option maxRecDepth 100000 in
theorem isname_any (s:List UInt8) (w:World) (m:Int) (hm:w.cell? ⟨1,0,none⟩=some (.int .i64 m)) (hs:s.length≤9223372036854775807):Calls Tryz.prog 12 #[.string (byt s)] w fun e w'=>e= .returned (.bool (Wri.refName s))∧w'=w:=by
 have hb:=byt_size s
 obtain⟨L,hL⟩:∃L,s.length=L:=⟨_,rfl⟩
 rw[hL] at hb hs
 have HL:=hid hL
 have HM:=hid hm
 clear hL hm
 go_enter Tryz.func12,Tryz.ntmps12
 go_upto_region 1 with fail
 go_wp2_with fail
 go_loopg [6] L (fun gg s6 wr=>∃j:Nat,j≤L∧L - j≤gg∧s6= .int .i64 (j:Int)∧wr=w∧Hid (∀(i:Nat) (c:UInt8),i<j→s[i]? =some c→Lexy.isNameB c=true∧(i=0→Lexy.isDigit c=false)))
 case atStart=>exact⟨0,Nat.zero_le _,by omega,rfl,rfl,fun i c h=>absurd h (Nat.not_lt_zero _)⟩
 case round=>
  obtain⟨j,hj,hgg,rfl,rfl,AA⟩:=hrel
  by_cases hlt:j<L
  ·have hltz:(j:Int)<(L:Int):=by omega
   have hltd:decide ((j:Int)<(L:Int))=true:=decide_eq_true hltz
   obtain⟨c,hc⟩:∃c,s[j]? =some c:=⟨_,List.getElem?_eq_getElem (by rw[HL.out];exact hlt)⟩
   have hi:=fun w=>srun_at (byt s) c (j:Int) (by omega) (by rw[Int.toNat_natCast,byt_data];exact hc) w
   have HCC:=hid hc
   have HNB:=hid (nbyte_any c wr)
   clear hc
   obtain⟨b1,hb1⟩:∃b,Lexy.isNameB c=b:=⟨_,rfl⟩
   rw[hb1] at HNB
   have HB1:=hid hb1
   clear hb1
   go_wp2_with fail
   refine HNB.out.mono ?_
   rintro e w' ⟨rfl,rfl⟩
   cases b1 with
   | false=>
    have HF:Hid (Wri.refName s=false):=hid (by
     unfold Wri.refName
     have:s.all Lexy.isNameB=false:=by
      rw[Bool.eq_false_iff]
      intro h
      have:=List.all_eq_true.1 h c (List.mem_of_getElem? HCC.out)
      rw[HB1.out] at this
      cases this
     rw[this];rfl)
    go_wp2
    go_ret
    exact⟨by rw[HF.out]<;>rfl,rfl⟩
   | true=>
    by_cases hj0:j=0
    ·subst hj0
     have z1:((0:Int)==0)=true:=rfl
     have hw2:wrap64 (c.toNat:Int)=(c.toNat:Int):=by have:=c.toNat_lt;exact IntWalk.wrap64_in _ (by omega)
     have HWR:=hid hw2
     have hlt0:0<(byt s).size:=by omega
     have hg:(byt s)[0]'hlt0=c:=by
      obtain⟨h1,h2⟩:=List.getElem?_eq_some_iff.1 HCC.out
      rw[←h2];rfl
     have HG:=hid hg
     clear hw2 hg
     have HD:=hid (sbetween_any (c.toNat:Int) 48 57 w')
     have hd0:(decide ((48:Int)≤(c.toNat:Int))&&decide ((c.toNat:Int)≤57))=Lexy.isDigit c:=by
      unfold Lexy.isDigit
      have e2:∀a b:Nat,decide ((a:Int)≤(b:Int))=decide (a≤b):=fun a b=>by simp
      rw[show (48:Int)=((48:Nat):Int) from rfl,show (57:Int)=((57:Nat):Int) from rfl,e2,e2]
     rw[hd0] at HD
     obtain⟨b2,hb2⟩:∃b,Lexy.isDigit c=b:=⟨_,rfl⟩
     rw[hb2] at HD
     have HB2:=hid hb2
     clear hd0 hb2
     go_wp2_with fail
     simp only[HG.out,HWR.out]
     refine HD.out.mono ?_
     rintro e w3 ⟨rfl,rfl⟩
     cases b2 with
     | true=>
      have HF:Hid (Wri.refName s=false):=hid (by
       unfold Wri.refName
       have h0:=HCC.out
       have:s.head?.map Lexy.isDigit=some true:=by
        cases s with
        | nil=>cases h0
        | cons x r=>simp at h0;subst h0;simp[HB2.out]
       rw[this];simp)
      go_wp2
      go_ret
      exact⟨by rw[HF.out]<;>rfl,rfl⟩
     | false=>
      go_wp2_with fail
      go_roundg (L - (0+1))
      case measure=>omega
      case rel=>exact⟨0+1,by omega,by omega,by go_num,rfl,hid fun i d hi hd=>by
       obtain rfl:i=0:=by omega
       rw[HCC.out] at hd
       injection hd with hd
       subst hd
       exact⟨HB1.out,fun _=>HB2.out⟩⟩
    ·have z1:((j:Int)==0)=false:=by simp[hj0]
     have z2:decide (j=0)=false:=by simp[hj0]
     have HJ0:=hid hj0
     clear hj0
     go_wp2_with fail
     go_roundg (L - (j+1))
     case measure=>omega
     case rel=>exact⟨j+1,by omega,by omega,by go_num,rfl,hid fun i d hi hd=>by
      by_cases e:i=j
      ·subst e
       rw[HCC.out] at hd
       injection hd with hd
       subst hd
       exact⟨HB1.out,fun h=>absurd h HJ0.out⟩
      ·exact AA.out i d (by omega) hd⟩
  ·have hltz:¬(j:Int)<(L:Int):=by omega
   have hltd:decide ((j:Int)<(L:Int))=false:=decide_eq_false hltz
   obtain rfl:j=L:=by omega
   have hall:s.all Lexy.isNameB=true:=by
    rw[List.all_eq_true]
    intro c hc
    obtain⟨i,hi⟩:=List.mem_iff_getElem?.1 hc
    exact (AA.out i c (by have:=(List.getElem?_eq_some_iff.1 hi).1;have:=HL.out;omega) hi).1
   have hdig:(s.head?.map Lexy.isDigit).getD false=false:=by
    cases hs0:s with
    | nil=>rfl
    | cons c r=>exact (AA.out 0 c (by have:=HL.out;rw[hs0] at this;simp at this;omega) (by rw[hs0];rfl)).2 rfl
   have HRF:Hid (Wri.refName s=(decide (s≠[])&&decide (s.length≤2000)&& !Go.Lib.contains Wri.wordText (32 :: (s++[32])))):=hid (by
    unfold Wri.refName
    rw[hall,hdig]
    simp)
   clear hall hdig
   by_cases he:s=[]
   ·have HF:Hid (Wri.refName s=false):=hid (by rw[HRF.out,he];rfl)
    have hz:((byt s).toList==[])=true:=by rw[byt_list,he];rfl
    have hz2:(byt s).toList.isEmpty=true:=by rw[byt_list,he];rfl
    clear he
    go_wp2
    go_ret
    exact⟨by rw[HF.out]<;>rfl,rfl⟩
   ·have hz:((byt s).toList==[])=false:=by rw[byt_list];simpa using he
    have hz2:(byt s).toList.isEmpty=false:=by rw[byt_list];cases s with | nil=>exact absurd rfl he | cons c r=>rfl
    by_cases h2:j≤2000
    ·have z1:decide ((j:Int)≤2000)=true:=decide_eq_true (by omega)
     have z2:decide (j≤2000)=true:=decide_eq_true h2
     have HI:=hid (isword_any s wr m HM.out he (by rw[HL.out];exact h2))
     have HF:Hid (Wri.refName s= !Go.Lib.contains Wri.wordText (32 :: (s++[32]))):=hid (by rw[HRF.out,HL.out,z2,decide_eq_true he];rfl)
     obtain⟨b,hb2⟩:∃b,Go.Lib.contains Wri.wordText (32 :: (s++[32]))=b:=⟨_,rfl⟩
     rw[hb2] at HI HF
     clear hb2 he h2
     go_wp2_with fail
     refine HI.out.mono ?_
     rintro e w' ⟨rfl,rfl⟩
     go_wp2
     go_ret
     exact⟨by rw[HF.out]<;>rfl,rfl⟩
    ·have z1:decide ((j:Int)≤2000)=false:=decide_eq_false (by omega)
     have z2:decide (j≤2000)=false:=decide_eq_false h2
     have HF:Hid (Wri.refName s=false):=hid (by rw[HRF.out,HL.out,z2];simp)
     clear he h2
     go_wp2
     go_ret
     exact⟨by rw[HF.out]<;>rfl,rfl⟩
end Go.Proofs.YtflmjbmdmoifhaaGreatDoor
namespace Go.Proofs.YtflmjbmdmoifhaaGreatDoor
open Go.Lib (hid)
open Go.RowKit
set_option maxRecDepth 100000 in
set_option maxHeartbeats 8000000 in
theorem sfresh_true {w:World} {n:Pars.Node} {cs:Array Value} {S:Nat→Prop} {kv:Value} {known:List (List UInt8)} {dk:Int} {nm:List UInt8} (he:EnvW w) (hn:NodeAt w S n cs) (hw:Wri.wg n≤1048576) (hk:KnAt w w.heap.size known kv) (hnl:nm.length≤9223372036854775807):
  Calls Tryz.prog 4 #[.agg cs,.int .i64 dk,.string (byt nm),kv] w (TruthOut w):=by
 have hsz:Pars.size n≤1048576:=Nat.le_trans (size_wg n) hw
 have HE:=hid he
 have HN:=hid (hn.weak (S1:=fun _=>True) (fun _ _=>trivial))
 have HKA:Hid (∀W,Below w.heap.size w W→KnAt W W.heap.size known kv):=hid (fun W hW=>(hk.fr (Fr.below hW (fun _=>False)) (fun _ _ h=>h)).low fun g _ h=>h)
 have h4:=NodeAt.size hn
 have HINF:Hid ((Tryz.prog.info? 24).map (·.size)=some cs.size):=hid (by rw[h4];exact info_nod)
 have hbig:=he.big
 clear he hn hk h4
 go_enter Tryz.func4,Tryz.ntmps4
 go_upto_region 1 with fail
 refine gen_world (F:=fun W=>Box W w.heap.size 24 cs∧Below w.heap.size w W) ⟨Box.new w _ _,below1 w _⟩ ?_
 rintro w1 ⟨b0,hU⟩
 have HU:=hid hU
 have EB:=hid b0
 replace HN:=hid (HN.out.below hU)
 have eb:=b0
 clear b0 hU
 go_wp2_with (refine wpList_load_row rfl 24 (.tmp 4) rfl w.heap.size rfl _ cs (0,0) _ eb Tryz.underlying24 rfl HINF.out ?_)
 refine (names_any (HE.out.below HU.out hbig) HN.out hsz (by omega) (HKA.out _ HU.out)).mono ?_
 rintro e w2 ⟨dv,uv,ds,us,k,rfl,hd,hv,hq,hb⟩
 have HD:=hid hd
 have HV:=hid hv
 have HQ:=hid hq
 replace HN:=hid (HN.out.below hb)
 replace EB:=bl EB hb
 replace HU:=hid (HU.out.trans (hb.mono HU.out.size))
 clear hd hv hq hb eb
 go_wp2_with fail
 refine (slives_true _ (HE.out.below HU.out hbig)).mono ?_
 rintro e w3 ⟨rfl,hb⟩
 replace HD:=hid (own_below HD.out hb)
 replace HV:=hid (own_below HV.out hb)
 replace HU:=hid (HU.out.trans (hb.mono HU.out.size))
 replace HN:=hid (HN.out.below hb)
 replace EB:=bl EB hb
 clear hb
 by_cases y0:k=0
 ·subst y0
  obtain⟨rfl,rfl,hne⟩:ds=(Scopy.names n known).decls∧us=(Scopy.names n known).uses∧(Scopy.names n known).e=0:=by
   rcases HQ.out with⟨h0,_,h1,h2⟩ | ⟨h,h2,_⟩
   ·exact⟨h1,h2,h0⟩
   ·exact absurd (Int.ofNat_eq_zero.1 h2.symm) h
  have hll:=look_lens (n:=n) (known:=known) (dk:= -1) (nm:=[]) hsz
  rw[names_look] at hll
  have HFR:Hid (0≤dk→dk<((Scopy.names n known).decls.length:Int)→Wri.name nm=true→(∀d∈(Scopy.names n known).decls,d.name≠nm)→(∀u∈(Scopy.names n known).uses,u.1≠nm)→(Scopy.rename n dk nm known).2=0):=hid (fun h2 h3 h4 h5 h6=>Scopy.fresh_law hne h2 h3 h4 h5 h6)
  obtain⟨ds,hds⟩:∃x,(Scopy.names n known).decls=x:=⟨_,rfl⟩
  obtain⟨us,hus⟩:∃x,(Scopy.names n known).uses=x:=⟨_,rfl⟩
  rw[hds] at HD HFR hll
  rw[hus] at HV HFR hll
  obtain⟨q,hq⟩:∃q,ds.length=q:=⟨_,rfl⟩
  obtain⟨p,hp⟩:∃p,us.length=p:=⟨_,rfl⟩
  rw[hq] at HD hll HFR
  rw[hp] at HV hll
  obtain⟨Ad,capd,hdv⟩:=own_slice HD.out
  obtain⟨Au,capu,huv⟩:=own_slice HV.out
  subst hdv huv
  have HQL:=hid hq
  have HP:=hid hp
  obtain⟨hqb,hpb⟩:=hll
  clear hds hus hq hp hne HQ
  have z0:((0:Int) != 0)=false:=rfl
  by_cases y1:dk<0
  ·have z1:decide (dk<0)=true:=decide_eq_true y1
   clear y1
   go_wp2_with fail
   refine (slives_true _ (HE.out.below HU.out hbig)).mono ?_
   rintro e w4 ⟨rfl,hb⟩
   replace HU:=hid (HU.out.trans (hb.mono HU.out.size))
   go_wp2
   go_ret
   exact⟨rfl,HU.out⟩
  have z1:decide (dk<0)=false:=decide_eq_false y1
  by_cases y2:(q:Int)≤dk
  ·have z2:decide ((q:Int)≤dk)=true:=decide_eq_true y2
   clear y1
   go_wp2_with fail
   refine (slives_true _ (HE.out.below HU.out hbig)).mono ?_
   rintro e w4 ⟨rfl,hb⟩
   replace HU:=hid (HU.out.trans (hb.mono HU.out.size))
   go_wp2
   go_ret
   exact⟨rfl,HU.out⟩
  have z2:decide ((q:Int)≤dk)=false:=decide_eq_false y2
  obtain⟨mx,hmx⟩:=(HE.out.below HU.out hbig).ml
  have HNM:=hid (isname_any nm w3 mx hmx hnl)
  have HKN:=hid (known_any (HKA.out _ HU.out) nm)
  have Y1:=hid y1
  have Y2:=hid y2
  clear hmx
  go_wp2_with fail
  refine HNM.out.mono ?_
  rintro e w' ⟨rfl,rfl⟩
  obtain⟨bn,hbn⟩:∃b,Wri.refName nm=b:=⟨_,rfl⟩
  rw[hbn]
  cases bn with
  | false=>
   go_wp2_with fail
   refine (slives_true _ (HE.out.below HU.out hbig)).mono ?_
   rintro e w4 ⟨rfl,hb⟩
   replace HU:=hid (HU.out.trans (hb.mono HU.out.size))
   go_wp2
   go_ret
   exact⟨rfl,HU.out⟩
  | true=>
   have HNAME:=hid (Wri.refName_of hbn)
   clear hbn
   go_wp2_with fail
   refine HKN.out.mono ?_
   rintro e w' ⟨rfl,rfl⟩
   obtain⟨bk,hbk⟩:∃b,known.contains nm=b:=⟨_,rfl⟩
   rw[hbk]
   clear hbk
   cases bk with
   | true=>
    go_wp2_with fail
    refine (slives_true _ (HE.out.below HU.out hbig)).mono ?_
    rintro e w4 ⟨rfl,hb⟩
    replace HU:=hid (HU.out.trans (hb.mono HU.out.size))
    go_wp2
    go_ret
    exact⟨rfl,HU.out⟩
   | false=>
    clear z0 z1 z2 y1 y2 HNM HKN
    go_wp2_with fail
    go_loopg [54] q (fun gg s54 wr=>∃j:Nat,j≤q∧q - j≤gg∧s54= .int .i64 (j:Int)∧Hid (Below w'.heap.size w' wr)∧Hid (∀x∈ds.take j,x.name≠nm))
    case atStart=>exact⟨0,Nat.zero_le _,by omega,rfl,Below.refl _ w',fun x h=>by cases h⟩
    case round=>
     obtain⟨j,hj,hgg,rfl,BW,AA⟩:=hrel
     by_cases hlt:j<q
     ·have hltz:(j:Int)<(q:Int):=by omega
      have hltd:decide ((j:Int)<(q:Int))=true:=decide_eq_true hltz
      obtain⟨x,hx⟩:∃x,ds[j]? =some x:=⟨_,List.getElem?_eq_getElem (by rw[HQL.out];exact hlt)⟩
      obtain⟨g,rfl,_,hg2,_,hcu⟩:=own_at dc_size (own_below HD.out BW.out) (by omega)
      have hran:Hid (wr.rangeAt g (j * 4) (dc x).toList):=hid fun i u hu=>hcu j x hx i u hu
      have HX:=hid hx
      clear hx hcu
      go_upto_region 7 with (first | (refine wpList_load_mid rfl 36 (.tmp 56) rfl g (j * 4) rfl (dc x).toList _ hran.out Tryz.underlying36 rfl info_jd ?_) | (refine wpList_store_box rfl 36 (.tmp 13) (.tmp 57) rfl wr.heap.size (dc x) rfl rfl 36 _ (Box.new wr _ _) info_jd rfl (dc_one _) ?_;intro w10 hx10 hu10 hz10;have HX10:=hid hx10;have HU10:=hid hu10;have HZ10:=hid hz10;clear hx10 hu10 hz10))
      have hb10:Below wr.heap.size wr w10:=(below1 wr _).trans (HU10.out.own (Nat.le_refl _) (by simp))
      have q1:w10.cell? ⟨wr.heap.size,1,none⟩=some (.string (byt x.name)):=HX10.out.cell 1
      have HB10:Hid (Below w'.heap.size w' w10):=hid (BW.out.trans (hb10.mono BW.out.size))
      clear hb10 HX10 HU10 HZ10 BW hran
      by_cases y:x.name=nm
      ·have z6:((byt x.name).toList==(byt nm).toList)=true:=by rw[y];simp
       have z9:decide ((byt x.name).toList=(byt nm).toList)=true:=decide_eq_true (by rw[y])
       have z7:(byt x.name).toList=(byt nm).toList:=by rw[y]
       clear y
       go_wp2
       go_ret
       exact⟨rfl,HU.out.trans (HB10.out.mono HU.out.size)⟩
      ·have z8:¬(byt x.name).toList=(byt nm).toList:=by rw[byt_list,byt_list];exact y
       have z6:((byt x.name).toList==(byt nm).toList)=false:=by simpa using z8
       have z9:decide ((byt x.name).toList=(byt nm).toList)=false:=decide_eq_false z8
       have Y:=hid y
       clear y
       go_wp2_with fail
       go_roundg (q - (j+1))
       case measure=>omega
       case rel=>exact⟨j+1,by omega,by omega,by go_num,HB10,hid fun z hz=>by
        rw[List.take_add_one,HX.out] at hz
        rcases List.mem_append.1 hz with h | h
        ·exact AA.out z h
        ·simp at h;rw[h];exact Y.out⟩
     ·have hltz:¬(j:Int)<(q:Int):=by omega
      have hltd:decide ((j:Int)<(q:Int))=false:=decide_eq_false hltz
      obtain rfl:j=q:=by omega
      have ALL:Hid (∀x∈ds,x.name≠nm):=hid (by have h:=AA.out;rwa [List.take_of_length_le (by rw[HQL.out];omega)] at h)
      clear AA hltz hltd hlt hgg hj
      have HND:=ALL
      have HV:=hid (own_below HV.out BW.out)
      have HN:=hid (HN.out.below BW.out)
      have EB:=hid (EB.out.below BW.out EB.out.lt)
      have HU:=hid (HU.out.trans (BW.out.mono HU.out.size))
      clear ALL BW HD
      go_upto_region 10 with fail
      refine gen_world (F:=fun W=>W=wr) rfl ?_
      rintro w5 rfl
      go_wp2_with fail
      go_loopg [65] p (fun gg s65 wr=>∃j:Nat,j≤p∧p - j≤gg∧s65= .int .i64 (j:Int)∧Hid (Below w5.heap.size w5 wr)∧Hid (∀x∈us.take j,x.1≠nm))
      case atStart=>exact⟨0,Nat.zero_le _,by omega,rfl,Below.refl _ w5,fun x h=>by cases h⟩
      case round=>
       obtain⟨j,hj,hgg,rfl,BW,AA⟩:=hrel
       by_cases hlt:j<p
       ·have hltz:(j:Int)<(p:Int):=by omega
        have hltd:decide ((j:Int)<(p:Int))=true:=decide_eq_true hltz
        obtain⟨x,hx⟩:∃x,us[j]? =some x:=⟨_,List.getElem?_eq_getElem (by rw[HP.out];exact hlt)⟩
        obtain⟨g,rfl,_,hg2,_,hcu⟩:=own_at uc_size (own_below HV.out BW.out) (by omega)
        have hran:Hid (wr.rangeAt g (j * 2) (uc x).toList):=hid fun i u hu=>hcu j x hx i u hu
        have HX:=hid hx
        clear hx hcu
        go_upto_region 13 with (first | (refine wpList_load_mid rfl 39 (.tmp 67) rfl g (j * 2) rfl (uc x).toList _ hran.out Tryz.underlying39 rfl info_ju ?_) | (refine wpList_store_box rfl 39 (.tmp 15) (.tmp 68) rfl wr.heap.size (uc x) rfl rfl 39 _ (Box.new wr _ _) info_ju rfl (uc_one _) ?_;intro w10 hx10 hu10 hz10;have HX10:=hid hx10;have HU10:=hid hu10;have HZ10:=hid hz10;clear hx10 hu10 hz10))
        have hb10:Below wr.heap.size wr w10:=(below1 wr _).trans (HU10.out.own (Nat.le_refl _) (by simp))
        have q1:w10.cell? ⟨wr.heap.size,0,none⟩=some (.string (byt x.1)):=HX10.out.cell 0
        have HB10:Hid (Below w5.heap.size w5 w10):=hid (BW.out.trans (hb10.mono BW.out.size))
        clear hb10 HX10 HU10 HZ10 BW hran
        by_cases y:x.1=nm
        ·have z6:((byt x.1).toList==(byt nm).toList)=true:=by rw[y];simp
         have z9:decide ((byt x.1).toList=(byt nm).toList)=true:=decide_eq_true (by rw[y])
         have z7:(byt x.1).toList=(byt nm).toList:=by rw[y]
         clear y
         go_wp2
         go_ret
         exact⟨rfl,HU.out.trans (HB10.out.mono HU.out.size)⟩
        ·have z8:¬(byt x.1).toList=(byt nm).toList:=by rw[byt_list,byt_list];exact y
         have z6:((byt x.1).toList==(byt nm).toList)=false:=by simpa using z8
         have z9:decide ((byt x.1).toList=(byt nm).toList)=false:=decide_eq_false z8
         have Y:=hid y
         clear y
         go_wp2_with fail
         go_roundg (p - (j+1))
         case measure=>omega
         case rel=>exact⟨j+1,by omega,by omega,by go_num,HB10,hid fun z hz=>by
          rw[List.take_add_one,HX.out] at hz
          rcases List.mem_append.1 hz with h | h
          ·exact AA.out z h
          ·simp at h;rw[h];exact Y.out⟩
       ·have hltz:¬(j:Int)<(p:Int):=by omega
        have hltd:decide ((j:Int)<(p:Int))=false:=decide_eq_false hltz
        obtain rfl:j=p:=by omega
        have ALL:Hid (∀x∈us,x.1≠nm):=hid (by have h:=AA.out;rwa [List.take_of_length_le (by rw[HP.out];omega)] at h)
        clear AA hltz hltd hlt hgg hj
        have HNU:=ALL
        have HN:=hid (HN.out.below BW.out)
        have EB:=hid (EB.out.below BW.out EB.out.lt)
        have HU:=hid (HU.out.trans (BW.out.mono HU.out.size))
        clear ALL BW HV
        have HZE:Hid ((Scopy.rename n dk nm known).2=0):=hid (HFR.out Y1.out Y2.out HNAME.out HND.out HNU.out)
        have eb:=EB.out
        go_wp2_with (refine wpList_load_row rfl 24 (.tmp 4) rfl w.heap.size rfl _ cs (0,0) _ eb Tryz.underlying24 rfl HINF.out ?_)
        refine (rename_c (nm:=nm) (dk:=dk) (HE.out.below HU.out hbig) HN.out hw (HKA.out _ HU.out) hnl).mono ?_
        rintro e w7 ⟨c,rfl,hm,hb⟩
        rw[HZE.out]
        have HMI:Hid ((Tryz.prog.info? 24).map (·.size)=some c.size):=hid (by rw[NodeAt.size hm];exact info_nod)
        have HM4:Hid ((4:Nat)=c.size):=hid (NodeAt.size hm).symm
        have HMO:=hid (NodeAt.one hm)
        have HU:=hid (HU.out.trans (hb.mono HU.out.size))
        clear hm hb eb HN EB
        go_upto_region 17 with (refine wpList_store_box rfl 24 (.tmp 16) (.tmp 80) rfl w7.heap.size c rfl rfl 24 _ (Box.new w7 _ _) HMI.out HM4.out HMO.out ?_;intro w8 hx hu hz;have HZ:=hid hz;clear hz)
        have hb:Below w7.heap.size w7 w8:=(below1 w7 _).trans (hu.own (Nat.le_refl _) (by simp))
        have HU:=hid (HU.out.trans (hb.mono HU.out.size))
        clear hx hu hb
        go_wp2
        go_ret
        exact⟨rfl,HU.out⟩
 ·have z0:(k != 0)=true:=by simp[y0]
  have z1:decide (k=0)=false:=by simp[y0]
  clear y0
  go_wp2_with fail
  refine (slives_true _ (HE.out.below HU.out hbig)).mono ?_
  rintro e w4 ⟨rfl,hb⟩
  replace HU:=hid (HU.out.trans (hb.mono HU.out.size))
  go_wp2
  go_ret
  exact⟨rfl,HU.out⟩
end Go.Proofs.YtflmjbmdmoifhaaGreatDoor

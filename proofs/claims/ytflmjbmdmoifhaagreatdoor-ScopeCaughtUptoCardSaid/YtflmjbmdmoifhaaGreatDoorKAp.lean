/-
  Texts that the law leans on: PwF, Grd, PwG, PwK. Conditions: as each says.
-/
import Derived.Test.YtflmjbmdmoifhaaGreatDoorKAo
import Derived.Test.YtflmjbmdmoifhaaGreatDoorKAc
import Derived.Deep.CutRange
import Derived.Deep.Cut
import Derived.Test.YtflmjbmdmoifhaaGreatDoorKAa
set_option linter.unusedSimpArgs false
set_option linter.unusedVariables false
namespace Go.Proofs.YtflmjbmdmoifhaaGreatDoor
open Go.Lib (hid)
open Go.RowKit
set_option maxRecDepth 100000 in
set_option maxHeartbeats 40000000 in
theorem fields_any (k nu:Int) (t:List UInt8) (ht:t.length≤70368744177664) (A:Option Addr) (n cp:Nat) (w:World) (he:EnvW w):Calls Tryz.prog 64 #[.agg (nc k nu t (.slice A n cp))] w fun e w'=>e= .returned (.bool (Wri.fields k nu t))∧Below w.heap.size w w':=by
 have HN:=hid (fun W (hW:EnvW W)=>name_is t (by omega) W hW)
 have HO1:=hid (fun W (hW:EnvW W)=>one_any t Wri.unaryS ht (by decide) W hW)
 have HO2:=hid (fun W (hW:EnvW W)=>one_any t Wri.binaryS ht (by decide) W hW)
 obtain⟨T,hTe⟩:∃q,byt t=q:=⟨_,rfl⟩
 have HT:=hid hTe
 have e0:nc k nu t (.slice A n cp)= #[.int .i64 k,.int .i64 nu,.string T,.slice A n cp]:=by rw[←hTe];rfl
 rw[e0]
 rw[hTe] at HN HO1 HO2
 obtain⟨nb,hnb⟩:∃b,Wri.name t=b:=⟨_,rfl⟩
 obtain⟨o1,ho1⟩:∃b,Wri.one t Wri.unaryS=b:=⟨_,rfl⟩
 obtain⟨o2,ho2⟩:∃b,Wri.one t Wri.binaryS=b:=⟨_,rfl⟩
 rw[hnb] at HN
 rw[ho1] at HO1
 rw[ho2] at HO2
 have HNB:=hid hnb
 have HOA:=hid ho1
 have HOB:=hid ho2
 clear hTe e0 hnb ho1 ho2
 have HE:=hid he
 clear he
 go_enter Tryz.func64,Tryz.ntmps64
 go_upto_region 1 with fail
 refine gen_world (F:=fun W=>Box W w.heap.size 24 #[.int .i64 k,.int .i64 nu,.string T,.slice A n cp]∧Below w.heap.size w W) ⟨Box.new w _ _,below1 w _⟩ ?_
 rintro W0 ⟨b0,hU⟩
 have NB:=hid b0
 have HU:=hid hU
 have c0:=b0.cell 0
 have c1:=b0.cell 1
 have c2:=b0.cell 2
 simp at c0 c1 c2
 clear b0 hU
 by_cases z0:nu=0
 ·subst z0
  by_cases hT:T=⟨#[]⟩
  ·have ht0:t=[]:=byt_inj (HT.out.trans (hT.trans rfl))
   subst hT
   go_quiet (fail)
   obtain⟨W1,hW1⟩:∃W1,W0.drewN nq=W1:=⟨_,rfl⟩
   have hd1:Below W0.heap.size W0 W1:=hW1 ▸ below_drewN (Below.refl _ W0) nq
   rw[hW1]
   clear hW1
   have hsz0:=HU.out.size
   replace HU:=hid (HU.out.trans (hd1.mono hsz0))
   have HUB:=HU
   replace NB:=bl NB hd1
   clear hd1 hsz0 c0 c1 c2
   have c0:=NB.out.cell 0
   have c1:=NB.out.cell 1
   have c2:=NB.out.cell 2
   simp at c0 c1 c2
   go_upto_region 3 with fail
   by_cases y1:k=1
   ·subst y1
    go_wp2
    go_ret
    exact⟨ret_bool (a:=true) (Eq.symm (by simp[Wri.fields,ht0]<;>omega)),HU.out⟩
   have n1:(k==1)=false:=bn y1
   go_upto_region 5 with fail
   by_cases y3:k=3
   ·subst y3
    go_wp2
    go_ret
    exact⟨ret_bool (a:=true) (Eq.symm (by simp[Wri.fields,ht0]<;>omega)),HU.out⟩
   have n3:(k==3)=false:=bn y3
   go_upto_region 7 with fail
   by_cases y29:k=29
   ·subst y29
    go_wp2_with fail
    refine (HN.out _ (HE.out.below HUB.out HE.out.big)).mono ?_
    rintro e wn ⟨rfl,hb⟩
    have HU2:=hid (HU.out.trans (hb.mono HU.out.size))
    clear hb
    cases nb with
    | false=>
     go_wp2
     go_ret
     exact⟨ret_bool (a:=false) (Eq.symm (by simp[Wri.fields,HNB.out]<;>omega)),HU2.out⟩
    | true=>
     go_wp2
     go_ret
     exact⟨ret_bool (a:=false) (Eq.symm (by simp[Wri.fields,HNB.out]<;>omega)),HU2.out⟩
   have n29:(k==29)=false:=bn y29
   go_upto_region 10 with fail
   by_cases y2:k=2
   ·subst y2
    go_wp2
    go_ret
    exact⟨ret_bool (a:=true) (Eq.symm (by simp[Wri.fields,ht0]<;>omega)),HU.out⟩
   have n2:(k==2)=false:=bn y2
   go_upto_region 12 with fail
   by_cases y5:k=5
   ·subst y5
    go_wp2_with fail
    refine (HN.out _ (HE.out.below HUB.out HE.out.big)).mono ?_
    rintro e wn ⟨rfl,hb⟩
    have HU2:=hid (HU.out.trans (hb.mono HU.out.size))
    clear hb
    cases nb with
    | false=>
     go_wp2
     go_ret
     exact⟨ret_bool (a:=false) (Eq.symm (by simp[Wri.fields,HNB.out]<;>omega)),HU2.out⟩
    | true=>
     go_wp2
     go_ret
     exact⟨ret_bool (a:=true) (Eq.symm (by simp[Wri.fields,HNB.out]<;>omega)),HU2.out⟩
   have n5:(k==5)=false:=bn y5
   go_upto_region 13 with fail
   by_cases y8:k=8
   ·subst y8
    go_wp2_with fail
    refine (HN.out _ (HE.out.below HUB.out HE.out.big)).mono ?_
    rintro e wn ⟨rfl,hb⟩
    have HU2:=hid (HU.out.trans (hb.mono HU.out.size))
    clear hb
    cases nb with
    | false=>
     go_wp2
     go_ret
     exact⟨ret_bool (a:=false) (Eq.symm (by simp[Wri.fields,HNB.out]<;>omega)),HU2.out⟩
    | true=>
     go_wp2
     go_ret
     exact⟨ret_bool (a:=true) (Eq.symm (by simp[Wri.fields,HNB.out]<;>omega)),HU2.out⟩
   have n8:(k==8)=false:=bn y8
   go_upto_region 14 with fail
   by_cases y10:k=10
   ·subst y10
    go_wp2_with fail
    refine (HN.out _ (HE.out.below HUB.out HE.out.big)).mono ?_
    rintro e wn ⟨rfl,hb⟩
    have HU2:=hid (HU.out.trans (hb.mono HU.out.size))
    clear hb
    cases nb with
    | false=>
     go_wp2
     go_ret
     exact⟨ret_bool (a:=false) (Eq.symm (by simp[Wri.fields,HNB.out]<;>omega)),HU2.out⟩
    | true=>
     go_wp2
     go_ret
     exact⟨ret_bool (a:=true) (Eq.symm (by simp[Wri.fields,HNB.out]<;>omega)),HU2.out⟩
   have n10:(k==10)=false:=bn y10
   go_upto_region 15 with fail
   by_cases y13:k=13
   ·subst y13
    go_wp2_with fail
    refine (HN.out _ (HE.out.below HUB.out HE.out.big)).mono ?_
    rintro e wn ⟨rfl,hb⟩
    have HU2:=hid (HU.out.trans (hb.mono HU.out.size))
    clear hb
    cases nb with
    | false=>
     go_wp2
     go_ret
     exact⟨ret_bool (a:=false) (Eq.symm (by simp[Wri.fields,HNB.out]<;>omega)),HU2.out⟩
    | true=>
     go_wp2
     go_ret
     exact⟨ret_bool (a:=true) (Eq.symm (by simp[Wri.fields,HNB.out]<;>omega)),HU2.out⟩
   have n13:(k==13)=false:=bn y13
   go_upto_region 16 with fail
   by_cases y20:k=20
   ·subst y20
    go_wp2_with fail
    refine (HN.out _ (HE.out.below HUB.out HE.out.big)).mono ?_
    rintro e wn ⟨rfl,hb⟩
    have HU2:=hid (HU.out.trans (hb.mono HU.out.size))
    clear hb
    cases nb with
    | false=>
     go_wp2
     go_ret
     exact⟨ret_bool (a:=false) (Eq.symm (by simp[Wri.fields,HNB.out]<;>omega)),HU2.out⟩
    | true=>
     go_wp2
     go_ret
     exact⟨ret_bool (a:=true) (Eq.symm (by simp[Wri.fields,HNB.out]<;>omega)),HU2.out⟩
   have n20:(k==20)=false:=bn y20
   go_upto_region 17 with fail
   by_cases y24:k=24
   ·subst y24
    go_wp2_with fail
    refine (HN.out _ (HE.out.below HUB.out HE.out.big)).mono ?_
    rintro e wn ⟨rfl,hb⟩
    have HU2:=hid (HU.out.trans (hb.mono HU.out.size))
    clear hb
    cases nb with
    | false=>
     go_wp2
     go_ret
     exact⟨ret_bool (a:=false) (Eq.symm (by simp[Wri.fields,HNB.out]<;>omega)),HU2.out⟩
    | true=>
     go_wp2
     go_ret
     exact⟨ret_bool (a:=true) (Eq.symm (by simp[Wri.fields,HNB.out]<;>omega)),HU2.out⟩
   have n24:(k==24)=false:=bn y24
   go_upto_region 19 with fail
   by_cases y9:k=9
   ·subst y9
    go_wp2
    go_ret
    exact⟨ret_bool (a:=true) (Eq.symm (by simp[Wri.fields,ht0]<;>omega)),HU.out⟩
   have n9:(k==9)=false:=bn y9
   go_upto_region 21 with fail
   by_cases y14:k=14
   ·subst y14
    go_wp2_with fail
    refine (HO1.out _ (HE.out.below HUB.out HE.out.big)).mono ?_
    rintro e wn ⟨rfl,rfl⟩
    cases o1 with
    | false=>
     go_wp2
     go_ret
     exact⟨ret_bool (a:=false) (Eq.symm (by simp[Wri.fields,HOA.out]<;>omega)),HU.out⟩
    | true=>
     go_wp2
     go_ret
     exact⟨ret_bool (a:=true) (Eq.symm (by simp[Wri.fields,HOA.out]<;>omega)),HU.out⟩
   have n14:(k==14)=false:=bn y14
   go_upto_region 23 with fail
   by_cases y15:k=15
   ·subst y15
    go_wp2_with fail
    refine (HO2.out _ (HE.out.below HUB.out HE.out.big)).mono ?_
    rintro e wn ⟨rfl,rfl⟩
    cases o2 with
    | false=>
     go_wp2
     go_ret
     exact⟨ret_bool (a:=false) (Eq.symm (by simp[Wri.fields,HOB.out]<;>omega)),HU.out⟩
    | true=>
     go_wp2
     go_ret
     exact⟨ret_bool (a:=true) (Eq.symm (by simp[Wri.fields,HOB.out]<;>omega)),HU.out⟩
   have n15:(k==15)=false:=bn y15
   go_wp2
   go_ret
   exact⟨ret_bool (a:=true) (Eq.symm (by simp[Wri.fields,ht0,y1,y3,y29,y2,y5,y8,y10,y13,y20,y24,y9,y14,y15]<;>omega)),HU.out⟩
  obtain⟨q1,q2,q3⟩:=same_no hT
  have q4:=of_decide_eq_false q2
  have q5:(T.toList==[])=false:=by
   have e:(⟨#[]⟩:ByteArray).toList=[]:=by simp[ByteArray.toList_eq]
   rw[e] at q1
   exact q1
  have q6:T.toList.isEmpty=false:=by
   rw[←HT.out,byt_list]
   cases t with
   | nil=>exact absurd (HT.out.symm.trans rfl) hT
   | cons a l=>rfl
  have ht0:¬t=[]:=fun e=>hT (HT.out.symm.trans (by rw[e];rfl))
  have HT0:=hid ht0
  clear ht0
  go_quiet (fail)
  obtain⟨W1,hW1⟩:∃W1,W0.drewN nq=W1:=⟨_,rfl⟩
  have hd1:Below W0.heap.size W0 W1:=hW1 ▸ below_drewN (Below.refl _ W0) nq
  rw[hW1]
  clear hW1
  have hsz0:=HU.out.size
  replace HU:=hid (HU.out.trans (hd1.mono hsz0))
  have HUB:=HU
  replace NB:=bl NB hd1
  clear hd1 hsz0 c0 c1 c2
  have c0:=NB.out.cell 0
  have c1:=NB.out.cell 1
  have c2:=NB.out.cell 2
  simp at c0 c1 c2
  go_upto_region 3 with fail
  by_cases y1:k=1
  ·subst y1
   go_wp2
   go_ret
   exact⟨ret_bool (a:=false) (Eq.symm (by simp[Wri.fields,HT0.out]<;>omega)),HU.out⟩
  have n1:(k==1)=false:=bn y1
  go_upto_region 5 with fail
  by_cases y3:k=3
  ·subst y3
   go_wp2
   go_ret
   exact⟨ret_bool (a:=false) (Eq.symm (by simp[Wri.fields,HT0.out]<;>omega)),HU.out⟩
  have n3:(k==3)=false:=bn y3
  go_upto_region 7 with fail
  by_cases y29:k=29
  ·subst y29
   go_wp2_with fail
   refine (HN.out _ (HE.out.below HUB.out HE.out.big)).mono ?_
   rintro e wn ⟨rfl,hb⟩
   have HU2:=hid (HU.out.trans (hb.mono HU.out.size))
   clear hb
   cases nb with
   | false=>
    go_wp2
    go_ret
    exact⟨ret_bool (a:=false) (Eq.symm (by simp[Wri.fields,HT0.out,HNB.out]<;>omega)),HU2.out⟩
   | true=>
    go_wp2
    go_ret
    exact⟨ret_bool (a:=false) (Eq.symm (by simp[Wri.fields,HT0.out,HNB.out]<;>omega)),HU2.out⟩
  have n29:(k==29)=false:=bn y29
  go_upto_region 10 with fail
  by_cases y2:k=2
  ·subst y2
   go_wp2
   go_ret
   exact⟨ret_bool (a:=true) (Eq.symm (by simp[Wri.fields,HT0.out]<;>omega)),HU.out⟩
  have n2:(k==2)=false:=bn y2
  go_upto_region 12 with fail
  by_cases y5:k=5
  ·subst y5
   go_wp2_with fail
   refine (HN.out _ (HE.out.below HUB.out HE.out.big)).mono ?_
   rintro e wn ⟨rfl,hb⟩
   have HU2:=hid (HU.out.trans (hb.mono HU.out.size))
   clear hb
   cases nb with
   | false=>
    go_wp2
    go_ret
    exact⟨ret_bool (a:=false) (Eq.symm (by simp[Wri.fields,HT0.out,HNB.out]<;>omega)),HU2.out⟩
   | true=>
    go_wp2
    go_ret
    exact⟨ret_bool (a:=true) (Eq.symm (by simp[Wri.fields,HT0.out,HNB.out]<;>omega)),HU2.out⟩
  have n5:(k==5)=false:=bn y5
  go_upto_region 13 with fail
  by_cases y8:k=8
  ·subst y8
   go_wp2_with fail
   refine (HN.out _ (HE.out.below HUB.out HE.out.big)).mono ?_
   rintro e wn ⟨rfl,hb⟩
   have HU2:=hid (HU.out.trans (hb.mono HU.out.size))
   clear hb
   cases nb with
   | false=>
    go_wp2
    go_ret
    exact⟨ret_bool (a:=false) (Eq.symm (by simp[Wri.fields,HT0.out,HNB.out]<;>omega)),HU2.out⟩
   | true=>
    go_wp2
    go_ret
    exact⟨ret_bool (a:=true) (Eq.symm (by simp[Wri.fields,HT0.out,HNB.out]<;>omega)),HU2.out⟩
  have n8:(k==8)=false:=bn y8
  go_upto_region 14 with fail
  by_cases y10:k=10
  ·subst y10
   go_wp2_with fail
   refine (HN.out _ (HE.out.below HUB.out HE.out.big)).mono ?_
   rintro e wn ⟨rfl,hb⟩
   have HU2:=hid (HU.out.trans (hb.mono HU.out.size))
   clear hb
   cases nb with
   | false=>
    go_wp2
    go_ret
    exact⟨ret_bool (a:=false) (Eq.symm (by simp[Wri.fields,HT0.out,HNB.out]<;>omega)),HU2.out⟩
   | true=>
    go_wp2
    go_ret
    exact⟨ret_bool (a:=true) (Eq.symm (by simp[Wri.fields,HT0.out,HNB.out]<;>omega)),HU2.out⟩
  have n10:(k==10)=false:=bn y10
  go_upto_region 15 with fail
  by_cases y13:k=13
  ·subst y13
   go_wp2_with fail
   refine (HN.out _ (HE.out.below HUB.out HE.out.big)).mono ?_
   rintro e wn ⟨rfl,hb⟩
   have HU2:=hid (HU.out.trans (hb.mono HU.out.size))
   clear hb
   cases nb with
   | false=>
    go_wp2
    go_ret
    exact⟨ret_bool (a:=false) (Eq.symm (by simp[Wri.fields,HT0.out,HNB.out]<;>omega)),HU2.out⟩
   | true=>
    go_wp2
    go_ret
    exact⟨ret_bool (a:=true) (Eq.symm (by simp[Wri.fields,HT0.out,HNB.out]<;>omega)),HU2.out⟩
  have n13:(k==13)=false:=bn y13
  go_upto_region 16 with fail
  by_cases y20:k=20
  ·subst y20
   go_wp2_with fail
   refine (HN.out _ (HE.out.below HUB.out HE.out.big)).mono ?_
   rintro e wn ⟨rfl,hb⟩
   have HU2:=hid (HU.out.trans (hb.mono HU.out.size))
   clear hb
   cases nb with
   | false=>
    go_wp2
    go_ret
    exact⟨ret_bool (a:=false) (Eq.symm (by simp[Wri.fields,HT0.out,HNB.out]<;>omega)),HU2.out⟩
   | true=>
    go_wp2
    go_ret
    exact⟨ret_bool (a:=true) (Eq.symm (by simp[Wri.fields,HT0.out,HNB.out]<;>omega)),HU2.out⟩
  have n20:(k==20)=false:=bn y20
  go_upto_region 17 with fail
  by_cases y24:k=24
  ·subst y24
   go_wp2_with fail
   refine (HN.out _ (HE.out.below HUB.out HE.out.big)).mono ?_
   rintro e wn ⟨rfl,hb⟩
   have HU2:=hid (HU.out.trans (hb.mono HU.out.size))
   clear hb
   cases nb with
   | false=>
    go_wp2
    go_ret
    exact⟨ret_bool (a:=false) (Eq.symm (by simp[Wri.fields,HT0.out,HNB.out]<;>omega)),HU2.out⟩
   | true=>
    go_wp2
    go_ret
    exact⟨ret_bool (a:=true) (Eq.symm (by simp[Wri.fields,HT0.out,HNB.out]<;>omega)),HU2.out⟩
  have n24:(k==24)=false:=bn y24
  go_upto_region 19 with fail
  by_cases y9:k=9
  ·subst y9
   go_wp2_with fail
   refine (HN.out _ (HE.out.below HUB.out HE.out.big)).mono ?_
   rintro e wn ⟨rfl,hb⟩
   have HU2:=hid (HU.out.trans (hb.mono HU.out.size))
   clear hb
   cases nb with
   | false=>
    go_wp2
    go_ret
    exact⟨ret_bool (a:=false) (Eq.symm (by simp[Wri.fields,HT0.out,HNB.out]<;>omega)),HU2.out⟩
   | true=>
    go_wp2
    go_ret
    exact⟨ret_bool (a:=true) (Eq.symm (by simp[Wri.fields,HT0.out,HNB.out]<;>omega)),HU2.out⟩
  have n9:(k==9)=false:=bn y9
  go_upto_region 21 with fail
  by_cases y14:k=14
  ·subst y14
   go_wp2_with fail
   refine (HO1.out _ (HE.out.below HUB.out HE.out.big)).mono ?_
   rintro e wn ⟨rfl,rfl⟩
   cases o1 with
   | false=>
    go_wp2
    go_ret
    exact⟨ret_bool (a:=false) (Eq.symm (by simp[Wri.fields,HT0.out,HOA.out]<;>omega)),HU.out⟩
   | true=>
    go_wp2
    go_ret
    exact⟨ret_bool (a:=true) (Eq.symm (by simp[Wri.fields,HT0.out,HOA.out]<;>omega)),HU.out⟩
  have n14:(k==14)=false:=bn y14
  go_upto_region 23 with fail
  by_cases y15:k=15
  ·subst y15
   go_wp2_with fail
   refine (HO2.out _ (HE.out.below HUB.out HE.out.big)).mono ?_
   rintro e wn ⟨rfl,rfl⟩
   cases o2 with
   | false=>
    go_wp2
    go_ret
    exact⟨ret_bool (a:=false) (Eq.symm (by simp[Wri.fields,HT0.out,HOB.out]<;>omega)),HU.out⟩
   | true=>
    go_wp2
    go_ret
    exact⟨ret_bool (a:=true) (Eq.symm (by simp[Wri.fields,HT0.out,HOB.out]<;>omega)),HU.out⟩
  have n15:(k==15)=false:=bn y15
  go_wp2
  go_ret
  exact⟨ret_bool (a:=false) (Eq.symm (by simp[Wri.fields,HT0.out,y1,y3,y29,y2,y5,y8,y10,y13,y20,y24,y9,y14,y15]<;>omega)),HU.out⟩
 have v0:(nu==0)=false:=bn z0
 replace z0:=hid z0
 by_cases hT:T=⟨#[]⟩
 ·have ht0:t=[]:=byt_inj (HT.out.trans (hT.trans rfl))
  subst hT
  go_quiet (fail)
  obtain⟨W1,hW1⟩:∃W1,W0.drewN nq=W1:=⟨_,rfl⟩
  have hd1:Below W0.heap.size W0 W1:=hW1 ▸ below_drewN (Below.refl _ W0) nq
  rw[hW1]
  clear hW1
  have hsz0:=HU.out.size
  replace HU:=hid (HU.out.trans (hd1.mono hsz0))
  have HUB:=HU
  replace NB:=bl NB hd1
  clear hd1 hsz0 c0 c1 c2
  have c0:=NB.out.cell 0
  have c1:=NB.out.cell 1
  have c2:=NB.out.cell 2
  simp at c0 c1 c2
  go_upto_region 3 with fail
  by_cases y1:k=1
  ·subst y1
   by_cases r1:0≤nu
   ·have r1d:decide (0≤nu)=true:=decide_eq_true r1
    by_cases r2:nu≤9007199254740992
    ·have r2d:decide (nu≤9007199254740992)=true:=decide_eq_true r2
     go_wp2
     go_ret
     exact⟨ret_bool (a:=true) (Eq.symm (by simp[Wri.fields,z0.out,ht0,r1,r2]<;>omega)),HU.out⟩
    have r2d:decide (nu≤9007199254740992)=false:=decide_eq_false r2
    go_wp2
    go_ret
    exact⟨ret_bool (a:=false) (Eq.symm (by simp[Wri.fields,z0.out,ht0,r1,r2]<;>omega)),HU.out⟩
   have r1d:decide (0≤nu)=false:=decide_eq_false r1
   go_wp2
   go_ret
   exact⟨ret_bool (a:=false) (Eq.symm (by simp[Wri.fields,z0.out,ht0,r1]<;>omega)),HU.out⟩
  have n1:(k==1)=false:=bn y1
  go_upto_region 5 with fail
  by_cases y3:k=3
  ·subst y3
   by_cases u1:nu=1
   ·subst u1
    go_wp2
    go_ret
    exact⟨ret_bool (a:=true) (Eq.symm (by simp[Wri.fields,z0.out,ht0]<;>omega)),HU.out⟩
   have v1:(nu==1)=false:=bn u1
   have x1:(nu != 1)=true:=by simp[bne,v1]
   go_wp2
   go_ret
   exact⟨ret_bool (a:=false) (Eq.symm (by simp[Wri.fields,z0.out,ht0,u1]<;>omega)),HU.out⟩
  have n3:(k==3)=false:=bn y3
  go_upto_region 7 with fail
  by_cases y29:k=29
  ·subst y29
   by_cases r1:1≤nu
   ·have r1d:decide (1≤nu)=true:=decide_eq_true r1
    by_cases r2:nu≤3
    ·have r2d:decide (nu≤3)=true:=decide_eq_true r2
     by_cases u2:nu=2
     ·subst u2
      go_wp2
      go_ret
      exact⟨ret_bool (a:=true) (Eq.symm (by simp[Wri.fields,z0.out,ht0,r1,r2]<;>omega)),HU.out⟩
     have v2:(nu==2)=false:=bn u2
     have x2:(nu != 2)=true:=by simp[bne,v2]
     go_wp2_with fail
     refine (HN.out _ (HE.out.below HUB.out HE.out.big)).mono ?_
     rintro e wn ⟨rfl,hb⟩
     have HU2:=hid (HU.out.trans (hb.mono HU.out.size))
     clear hb
     cases nb with
     | false=>
      go_wp2
      go_ret
      exact⟨ret_bool (a:=false) (Eq.symm (by simp[Wri.fields,z0.out,HNB.out,u2,r1,r2]<;>omega)),HU2.out⟩
     | true=>
      go_wp2
      go_ret
      exact⟨ret_bool (a:=true) (Eq.symm (by simp[Wri.fields,z0.out,HNB.out,u2,r1,r2]<;>omega)),HU2.out⟩
    have r2d:decide (nu≤3)=false:=decide_eq_false r2
    by_cases u2:nu=2
    ·subst u2
     exfalso
     omega
    have v2:(nu==2)=false:=bn u2
    have x2:(nu != 2)=true:=by simp[bne,v2]
    go_wp2_with fail
    refine (HN.out _ (HE.out.below HUB.out HE.out.big)).mono ?_
    rintro e wn ⟨rfl,hb⟩
    have HU2:=hid (HU.out.trans (hb.mono HU.out.size))
    clear hb
    cases nb with
    | false=>
     go_wp2
     go_ret
     exact⟨ret_bool (a:=false) (Eq.symm (by simp[Wri.fields,z0.out,HNB.out,u2,r1,r2]<;>omega)),HU2.out⟩
    | true=>
     go_wp2
     go_ret
     exact⟨ret_bool (a:=false) (Eq.symm (by simp[Wri.fields,z0.out,HNB.out,u2,r1,r2]<;>omega)),HU2.out⟩
   have r1d:decide (1≤nu)=false:=decide_eq_false r1
   by_cases u2:nu=2
   ·subst u2
    exfalso
    omega
   have v2:(nu==2)=false:=bn u2
   have x2:(nu != 2)=true:=by simp[bne,v2]
   go_wp2_with fail
   refine (HN.out _ (HE.out.below HUB.out HE.out.big)).mono ?_
   rintro e wn ⟨rfl,hb⟩
   have HU2:=hid (HU.out.trans (hb.mono HU.out.size))
   clear hb
   cases nb with
   | false=>
    go_wp2
    go_ret
    exact⟨ret_bool (a:=false) (Eq.symm (by simp[Wri.fields,z0.out,HNB.out,u2,r1]<;>omega)),HU2.out⟩
   | true=>
    go_wp2
    go_ret
    exact⟨ret_bool (a:=false) (Eq.symm (by simp[Wri.fields,z0.out,HNB.out,u2,r1]<;>omega)),HU2.out⟩
  have n29:(k==29)=false:=bn y29
  go_upto_region 10 with fail
  by_cases y2:k=2
  ·subst y2
   go_wp2
   go_ret
   exact⟨ret_bool (a:=false) (Eq.symm (by simp[Wri.fields,z0.out,ht0]<;>omega)),HU.out⟩
  have n2:(k==2)=false:=bn y2
  go_upto_region 12 with fail
  by_cases y5:k=5
  ·subst y5
   go_wp2_with fail
   refine (HN.out _ (HE.out.below HUB.out HE.out.big)).mono ?_
   rintro e wn ⟨rfl,hb⟩
   have HU2:=hid (HU.out.trans (hb.mono HU.out.size))
   clear hb
   cases nb with
   | false=>
    go_wp2
    go_ret
    exact⟨ret_bool (a:=false) (Eq.symm (by simp[Wri.fields,z0.out,HNB.out]<;>omega)),HU2.out⟩
   | true=>
    go_wp2
    go_ret
    exact⟨ret_bool (a:=false) (Eq.symm (by simp[Wri.fields,z0.out,HNB.out]<;>omega)),HU2.out⟩
  have n5:(k==5)=false:=bn y5
  go_upto_region 13 with fail
  by_cases y8:k=8
  ·subst y8
   go_wp2_with fail
   refine (HN.out _ (HE.out.below HUB.out HE.out.big)).mono ?_
   rintro e wn ⟨rfl,hb⟩
   have HU2:=hid (HU.out.trans (hb.mono HU.out.size))
   clear hb
   cases nb with
   | false=>
    go_wp2
    go_ret
    exact⟨ret_bool (a:=false) (Eq.symm (by simp[Wri.fields,z0.out,HNB.out]<;>omega)),HU2.out⟩
   | true=>
    go_wp2
    go_ret
    exact⟨ret_bool (a:=false) (Eq.symm (by simp[Wri.fields,z0.out,HNB.out]<;>omega)),HU2.out⟩
  have n8:(k==8)=false:=bn y8
  go_upto_region 14 with fail
  by_cases y10:k=10
  ·subst y10
   go_wp2_with fail
   refine (HN.out _ (HE.out.below HUB.out HE.out.big)).mono ?_
   rintro e wn ⟨rfl,hb⟩
   have HU2:=hid (HU.out.trans (hb.mono HU.out.size))
   clear hb
   cases nb with
   | false=>
    go_wp2
    go_ret
    exact⟨ret_bool (a:=false) (Eq.symm (by simp[Wri.fields,z0.out,HNB.out]<;>omega)),HU2.out⟩
   | true=>
    go_wp2
    go_ret
    exact⟨ret_bool (a:=false) (Eq.symm (by simp[Wri.fields,z0.out,HNB.out]<;>omega)),HU2.out⟩
  have n10:(k==10)=false:=bn y10
  go_upto_region 15 with fail
  by_cases y13:k=13
  ·subst y13
   go_wp2_with fail
   refine (HN.out _ (HE.out.below HUB.out HE.out.big)).mono ?_
   rintro e wn ⟨rfl,hb⟩
   have HU2:=hid (HU.out.trans (hb.mono HU.out.size))
   clear hb
   cases nb with
   | false=>
    go_wp2
    go_ret
    exact⟨ret_bool (a:=false) (Eq.symm (by simp[Wri.fields,z0.out,HNB.out]<;>omega)),HU2.out⟩
   | true=>
    go_wp2
    go_ret
    exact⟨ret_bool (a:=false) (Eq.symm (by simp[Wri.fields,z0.out,HNB.out]<;>omega)),HU2.out⟩
  have n13:(k==13)=false:=bn y13
  go_upto_region 16 with fail
  by_cases y20:k=20
  ·subst y20
   go_wp2_with fail
   refine (HN.out _ (HE.out.below HUB.out HE.out.big)).mono ?_
   rintro e wn ⟨rfl,hb⟩
   have HU2:=hid (HU.out.trans (hb.mono HU.out.size))
   clear hb
   cases nb with
   | false=>
    go_wp2
    go_ret
    exact⟨ret_bool (a:=false) (Eq.symm (by simp[Wri.fields,z0.out,HNB.out]<;>omega)),HU2.out⟩
   | true=>
    go_wp2
    go_ret
    exact⟨ret_bool (a:=false) (Eq.symm (by simp[Wri.fields,z0.out,HNB.out]<;>omega)),HU2.out⟩
  have n20:(k==20)=false:=bn y20
  go_upto_region 17 with fail
  by_cases y24:k=24
  ·subst y24
   go_wp2_with fail
   refine (HN.out _ (HE.out.below HUB.out HE.out.big)).mono ?_
   rintro e wn ⟨rfl,hb⟩
   have HU2:=hid (HU.out.trans (hb.mono HU.out.size))
   clear hb
   cases nb with
   | false=>
    go_wp2
    go_ret
    exact⟨ret_bool (a:=false) (Eq.symm (by simp[Wri.fields,z0.out,HNB.out]<;>omega)),HU2.out⟩
   | true=>
    go_wp2
    go_ret
    exact⟨ret_bool (a:=false) (Eq.symm (by simp[Wri.fields,z0.out,HNB.out]<;>omega)),HU2.out⟩
  have n24:(k==24)=false:=bn y24
  go_upto_region 19 with fail
  by_cases y9:k=9
  ·subst y9
   go_wp2
   go_ret
   exact⟨ret_bool (a:=false) (Eq.symm (by simp[Wri.fields,z0.out,ht0]<;>omega)),HU.out⟩
  have n9:(k==9)=false:=bn y9
  go_upto_region 21 with fail
  by_cases y14:k=14
  ·subst y14
   go_wp2_with fail
   refine (HO1.out _ (HE.out.below HUB.out HE.out.big)).mono ?_
   rintro e wn ⟨rfl,rfl⟩
   cases o1 with
   | false=>
    go_wp2
    go_ret
    exact⟨ret_bool (a:=false) (Eq.symm (by simp[Wri.fields,z0.out,HOA.out]<;>omega)),HU.out⟩
   | true=>
    go_wp2
    go_ret
    exact⟨ret_bool (a:=false) (Eq.symm (by simp[Wri.fields,z0.out,HOA.out]<;>omega)),HU.out⟩
  have n14:(k==14)=false:=bn y14
  go_upto_region 23 with fail
  by_cases y15:k=15
  ·subst y15
   go_wp2_with fail
   refine (HO2.out _ (HE.out.below HUB.out HE.out.big)).mono ?_
   rintro e wn ⟨rfl,rfl⟩
   cases o2 with
   | false=>
    go_wp2
    go_ret
    exact⟨ret_bool (a:=false) (Eq.symm (by simp[Wri.fields,z0.out,HOB.out]<;>omega)),HU.out⟩
   | true=>
    go_wp2
    go_ret
    exact⟨ret_bool (a:=false) (Eq.symm (by simp[Wri.fields,z0.out,HOB.out]<;>omega)),HU.out⟩
  have n15:(k==15)=false:=bn y15
  go_wp2
  go_ret
  exact⟨ret_bool (a:=false) (Eq.symm (by simp[Wri.fields,z0.out,ht0,y1,y3,y29,y2,y5,y8,y10,y13,y20,y24,y9,y14,y15]<;>omega)),HU.out⟩
 obtain⟨q1,q2,q3⟩:=same_no hT
 have q4:=of_decide_eq_false q2
 have q5:(T.toList==[])=false:=by
  have e:(⟨#[]⟩:ByteArray).toList=[]:=by simp[ByteArray.toList_eq]
  rw[e] at q1
  exact q1
 have q6:T.toList.isEmpty=false:=by
  rw[←HT.out,byt_list]
  cases t with
  | nil=>exact absurd (HT.out.symm.trans rfl) hT
  | cons a l=>rfl
 have ht0:¬t=[]:=fun e=>hT (HT.out.symm.trans (by rw[e];rfl))
 have HT0:=hid ht0
 clear ht0
 go_quiet (fail)
 obtain⟨W1,hW1⟩:∃W1,W0.drewN nq=W1:=⟨_,rfl⟩
 have hd1:Below W0.heap.size W0 W1:=hW1 ▸ below_drewN (Below.refl _ W0) nq
 rw[hW1]
 clear hW1
 have hsz0:=HU.out.size
 replace HU:=hid (HU.out.trans (hd1.mono hsz0))
 have HUB:=HU
 replace NB:=bl NB hd1
 clear hd1 hsz0 c0 c1 c2
 have c0:=NB.out.cell 0
 have c1:=NB.out.cell 1
 have c2:=NB.out.cell 2
 simp at c0 c1 c2
 go_upto_region 3 with fail
 by_cases y1:k=1
 ·subst y1
  by_cases r1:0≤nu
  ·have r1d:decide (0≤nu)=true:=decide_eq_true r1
   by_cases r2:nu≤9007199254740992
   ·have r2d:decide (nu≤9007199254740992)=true:=decide_eq_true r2
    go_wp2
    go_ret
    exact⟨ret_bool (a:=false) (Eq.symm (by simp[Wri.fields,z0.out,HT0.out,r1,r2]<;>omega)),HU.out⟩
   have r2d:decide (nu≤9007199254740992)=false:=decide_eq_false r2
   go_wp2
   go_ret
   exact⟨ret_bool (a:=false) (Eq.symm (by simp[Wri.fields,z0.out,HT0.out,r1,r2]<;>omega)),HU.out⟩
  have r1d:decide (0≤nu)=false:=decide_eq_false r1
  go_wp2
  go_ret
  exact⟨ret_bool (a:=false) (Eq.symm (by simp[Wri.fields,z0.out,HT0.out,r1]<;>omega)),HU.out⟩
 have n1:(k==1)=false:=bn y1
 go_upto_region 5 with fail
 by_cases y3:k=3
 ·subst y3
  by_cases u1:nu=1
  ·subst u1
   go_wp2
   go_ret
   exact⟨ret_bool (a:=false) (Eq.symm (by simp[Wri.fields,z0.out,HT0.out]<;>omega)),HU.out⟩
  have v1:(nu==1)=false:=bn u1
  have x1:(nu != 1)=true:=by simp[bne,v1]
  go_wp2
  go_ret
  exact⟨ret_bool (a:=false) (Eq.symm (by simp[Wri.fields,z0.out,HT0.out,u1]<;>omega)),HU.out⟩
 have n3:(k==3)=false:=bn y3
 go_upto_region 7 with fail
 by_cases y29:k=29
 ·subst y29
  by_cases r1:1≤nu
  ·have r1d:decide (1≤nu)=true:=decide_eq_true r1
   by_cases r2:nu≤3
   ·have r2d:decide (nu≤3)=true:=decide_eq_true r2
    by_cases u2:nu=2
    ·subst u2
     go_wp2
     go_ret
     exact⟨ret_bool (a:=false) (Eq.symm (by simp[Wri.fields,z0.out,HT0.out,r1,r2]<;>omega)),HU.out⟩
    have v2:(nu==2)=false:=bn u2
    have x2:(nu != 2)=true:=by simp[bne,v2]
    go_wp2_with fail
    refine (HN.out _ (HE.out.below HUB.out HE.out.big)).mono ?_
    rintro e wn ⟨rfl,hb⟩
    have HU2:=hid (HU.out.trans (hb.mono HU.out.size))
    clear hb
    cases nb with
    | false=>
     go_wp2
     go_ret
     exact⟨ret_bool (a:=false) (Eq.symm (by simp[Wri.fields,z0.out,HT0.out,HNB.out,u2,r1,r2]<;>omega)),HU2.out⟩
    | true=>
     go_wp2
     go_ret
     exact⟨ret_bool (a:=true) (Eq.symm (by simp[Wri.fields,z0.out,HT0.out,HNB.out,u2,r1,r2]<;>omega)),HU2.out⟩
   have r2d:decide (nu≤3)=false:=decide_eq_false r2
   by_cases u2:nu=2
   ·subst u2
    exfalso
    omega
   have v2:(nu==2)=false:=bn u2
   have x2:(nu != 2)=true:=by simp[bne,v2]
   go_wp2_with fail
   refine (HN.out _ (HE.out.below HUB.out HE.out.big)).mono ?_
   rintro e wn ⟨rfl,hb⟩
   have HU2:=hid (HU.out.trans (hb.mono HU.out.size))
   clear hb
   cases nb with
   | false=>
    go_wp2
    go_ret
    exact⟨ret_bool (a:=false) (Eq.symm (by simp[Wri.fields,z0.out,HT0.out,HNB.out,u2,r1,r2]<;>omega)),HU2.out⟩
   | true=>
    go_wp2
    go_ret
    exact⟨ret_bool (a:=false) (Eq.symm (by simp[Wri.fields,z0.out,HT0.out,HNB.out,u2,r1,r2]<;>omega)),HU2.out⟩
  have r1d:decide (1≤nu)=false:=decide_eq_false r1
  by_cases u2:nu=2
  ·subst u2
   exfalso
   omega
  have v2:(nu==2)=false:=bn u2
  have x2:(nu != 2)=true:=by simp[bne,v2]
  go_wp2_with fail
  refine (HN.out _ (HE.out.below HUB.out HE.out.big)).mono ?_
  rintro e wn ⟨rfl,hb⟩
  have HU2:=hid (HU.out.trans (hb.mono HU.out.size))
  clear hb
  cases nb with
  | false=>
   go_wp2
   go_ret
   exact⟨ret_bool (a:=false) (Eq.symm (by simp[Wri.fields,z0.out,HT0.out,HNB.out,u2,r1]<;>omega)),HU2.out⟩
  | true=>
   go_wp2
   go_ret
   exact⟨ret_bool (a:=false) (Eq.symm (by simp[Wri.fields,z0.out,HT0.out,HNB.out,u2,r1]<;>omega)),HU2.out⟩
 have n29:(k==29)=false:=bn y29
 go_upto_region 10 with fail
 by_cases y2:k=2
 ·subst y2
  go_wp2
  go_ret
  exact⟨ret_bool (a:=false) (Eq.symm (by simp[Wri.fields,z0.out,HT0.out]<;>omega)),HU.out⟩
 have n2:(k==2)=false:=bn y2
 go_upto_region 12 with fail
 by_cases y5:k=5
 ·subst y5
  go_wp2_with fail
  refine (HN.out _ (HE.out.below HUB.out HE.out.big)).mono ?_
  rintro e wn ⟨rfl,hb⟩
  have HU2:=hid (HU.out.trans (hb.mono HU.out.size))
  clear hb
  cases nb with
  | false=>
   go_wp2
   go_ret
   exact⟨ret_bool (a:=false) (Eq.symm (by simp[Wri.fields,z0.out,HT0.out,HNB.out]<;>omega)),HU2.out⟩
  | true=>
   go_wp2
   go_ret
   exact⟨ret_bool (a:=false) (Eq.symm (by simp[Wri.fields,z0.out,HT0.out,HNB.out]<;>omega)),HU2.out⟩
 have n5:(k==5)=false:=bn y5
 go_upto_region 13 with fail
 by_cases y8:k=8
 ·subst y8
  go_wp2_with fail
  refine (HN.out _ (HE.out.below HUB.out HE.out.big)).mono ?_
  rintro e wn ⟨rfl,hb⟩
  have HU2:=hid (HU.out.trans (hb.mono HU.out.size))
  clear hb
  cases nb with
  | false=>
   go_wp2
   go_ret
   exact⟨ret_bool (a:=false) (Eq.symm (by simp[Wri.fields,z0.out,HT0.out,HNB.out]<;>omega)),HU2.out⟩
  | true=>
   go_wp2
   go_ret
   exact⟨ret_bool (a:=false) (Eq.symm (by simp[Wri.fields,z0.out,HT0.out,HNB.out]<;>omega)),HU2.out⟩
 have n8:(k==8)=false:=bn y8
 go_upto_region 14 with fail
 by_cases y10:k=10
 ·subst y10
  go_wp2_with fail
  refine (HN.out _ (HE.out.below HUB.out HE.out.big)).mono ?_
  rintro e wn ⟨rfl,hb⟩
  have HU2:=hid (HU.out.trans (hb.mono HU.out.size))
  clear hb
  cases nb with
  | false=>
   go_wp2
   go_ret
   exact⟨ret_bool (a:=false) (Eq.symm (by simp[Wri.fields,z0.out,HT0.out,HNB.out]<;>omega)),HU2.out⟩
  | true=>
   go_wp2
   go_ret
   exact⟨ret_bool (a:=false) (Eq.symm (by simp[Wri.fields,z0.out,HT0.out,HNB.out]<;>omega)),HU2.out⟩
 have n10:(k==10)=false:=bn y10
 go_upto_region 15 with fail
 by_cases y13:k=13
 ·subst y13
  go_wp2_with fail
  refine (HN.out _ (HE.out.below HUB.out HE.out.big)).mono ?_
  rintro e wn ⟨rfl,hb⟩
  have HU2:=hid (HU.out.trans (hb.mono HU.out.size))
  clear hb
  cases nb with
  | false=>
   go_wp2
   go_ret
   exact⟨ret_bool (a:=false) (Eq.symm (by simp[Wri.fields,z0.out,HT0.out,HNB.out]<;>omega)),HU2.out⟩
  | true=>
   go_wp2
   go_ret
   exact⟨ret_bool (a:=false) (Eq.symm (by simp[Wri.fields,z0.out,HT0.out,HNB.out]<;>omega)),HU2.out⟩
 have n13:(k==13)=false:=bn y13
 go_upto_region 16 with fail
 by_cases y20:k=20
 ·subst y20
  go_wp2_with fail
  refine (HN.out _ (HE.out.below HUB.out HE.out.big)).mono ?_
  rintro e wn ⟨rfl,hb⟩
  have HU2:=hid (HU.out.trans (hb.mono HU.out.size))
  clear hb
  cases nb with
  | false=>
   go_wp2
   go_ret
   exact⟨ret_bool (a:=false) (Eq.symm (by simp[Wri.fields,z0.out,HT0.out,HNB.out]<;>omega)),HU2.out⟩
  | true=>
   go_wp2
   go_ret
   exact⟨ret_bool (a:=false) (Eq.symm (by simp[Wri.fields,z0.out,HT0.out,HNB.out]<;>omega)),HU2.out⟩
 have n20:(k==20)=false:=bn y20
 go_upto_region 17 with fail
 by_cases y24:k=24
 ·subst y24
  go_wp2_with fail
  refine (HN.out _ (HE.out.below HUB.out HE.out.big)).mono ?_
  rintro e wn ⟨rfl,hb⟩
  have HU2:=hid (HU.out.trans (hb.mono HU.out.size))
  clear hb
  cases nb with
  | false=>
   go_wp2
   go_ret
   exact⟨ret_bool (a:=false) (Eq.symm (by simp[Wri.fields,z0.out,HT0.out,HNB.out]<;>omega)),HU2.out⟩
  | true=>
   go_wp2
   go_ret
   exact⟨ret_bool (a:=false) (Eq.symm (by simp[Wri.fields,z0.out,HT0.out,HNB.out]<;>omega)),HU2.out⟩
 have n24:(k==24)=false:=bn y24
 go_upto_region 19 with fail
 by_cases y9:k=9
 ·subst y9
  go_wp2_with fail
  refine (HN.out _ (HE.out.below HUB.out HE.out.big)).mono ?_
  rintro e wn ⟨rfl,hb⟩
  have HU2:=hid (HU.out.trans (hb.mono HU.out.size))
  clear hb
  cases nb with
  | false=>
   go_wp2
   go_ret
   exact⟨ret_bool (a:=false) (Eq.symm (by simp[Wri.fields,z0.out,HT0.out,HNB.out]<;>omega)),HU2.out⟩
  | true=>
   go_wp2
   go_ret
   exact⟨ret_bool (a:=false) (Eq.symm (by simp[Wri.fields,z0.out,HT0.out,HNB.out]<;>omega)),HU2.out⟩
 have n9:(k==9)=false:=bn y9
 go_upto_region 21 with fail
 by_cases y14:k=14
 ·subst y14
  go_wp2_with fail
  refine (HO1.out _ (HE.out.below HUB.out HE.out.big)).mono ?_
  rintro e wn ⟨rfl,rfl⟩
  cases o1 with
  | false=>
   go_wp2
   go_ret
   exact⟨ret_bool (a:=false) (Eq.symm (by simp[Wri.fields,z0.out,HT0.out,HOA.out]<;>omega)),HU.out⟩
  | true=>
   go_wp2
   go_ret
   exact⟨ret_bool (a:=false) (Eq.symm (by simp[Wri.fields,z0.out,HT0.out,HOA.out]<;>omega)),HU.out⟩
 have n14:(k==14)=false:=bn y14
 go_upto_region 23 with fail
 by_cases y15:k=15
 ·subst y15
  go_wp2_with fail
  refine (HO2.out _ (HE.out.below HUB.out HE.out.big)).mono ?_
  rintro e wn ⟨rfl,rfl⟩
  cases o2 with
  | false=>
   go_wp2
   go_ret
   exact⟨ret_bool (a:=false) (Eq.symm (by simp[Wri.fields,z0.out,HT0.out,HOB.out]<;>omega)),HU.out⟩
  | true=>
   go_wp2
   go_ret
   exact⟨ret_bool (a:=false) (Eq.symm (by simp[Wri.fields,z0.out,HT0.out,HOB.out]<;>omega)),HU.out⟩
 have n15:(k==15)=false:=bn y15
 go_wp2
 go_ret
 exact⟨ret_bool (a:=false) (Eq.symm (by simp[Wri.fields,z0.out,HT0.out,y1,y3,y29,y2,y5,y8,y10,y13,y20,y24,y9,y14,y15]<;>omega)),HU.out⟩
end Go.Proofs.YtflmjbmdmoifhaaGreatDoor
namespace Go.Proofs.YtflmjbmdmoifhaaGreatDoor
open Go.Lib (hid)
open Go.RowKit
theorem wpList_load_row_g {P:Program} {ops:Array Oper} {rest:List Oper} {o:Oper} {a:Act} {w:World} {Q:Exit→Act→World→Prop} (hw:Region.wanted o (yielded ops a.tmps)=true) (ty:TypeId) (x:Operand) (ho:o.op= .load ty x)
  (g:Nat) (hx:a.eval x= .pointer (some ⟨g,0,none⟩)) (t:TypeId) (cs:Array Value) (d:TypeDesc) (hg:Box w g t cs)
  (hu:P.underlying ty=some d) (hd:(match d with | .struct _ | .array _ _=>true | _=>false)=true) (hi:(P.info? ty).map (·.size)=some cs.size)
  (h:wpList P ops Q rest (a.put o.dst (.agg cs)) w):wpList P ops Q (o :: rest) a w:=
 wpList_step fun K hK=>by
  rw[if_pos hw]
  exact wp_load_row ty x ho g hx t cs (0,0) d hg hu hd hi (hK _ _ h)
end Go.Proofs.YtflmjbmdmoifhaaGreatDoor
namespace Go.Proofs.YtflmjbmdmoifhaaGreatDoor
open Go.Lib (hid)
open Go.RowKit
theorem right_eq (k nu:Int) (t:List UInt8) (l:List Pars.Node) (fn lp:Bool):Wri.right (.mk k nu t l) fn lp=((Wri.form k nu l.length).2&&(Wri.fields k nu t&&(!(decide (k=25)&& !fn)&&(!(decide (k=26∨k=27)&& !lp)&&(Wri.count (Wri.form k nu l.length).1 l.length&&Wri.rights (Wri.bare (Wri.form k nu l.length).1) k fn lp 0 l))))):=by rw[Wri.right]
theorem rights_cons (g:List UInt8) (k:Int) (fn lp:Bool) (i:Nat) (x:Pars.Node) (l:List Pars.Node) (c:UInt8) (hc:g.getD (min i (g.length - 1)) 0=c):Wri.rights g k fn lp i (x :: l)=(Wri.sort x c&&(Wri.right x (fn||decide (c=103)) (decide (c=108)||(lp&&(!decide (c=103)&& !decide (k=9))))&&Wri.rights g k fn lp (i+1) l)):=by rw[Wri.rights,hc]
theorem drop_cons {α:Type} {l:List α} {j:Nat} {x:α} (h:l[j]? =some x):l.drop j=x :: l.drop (j+1):=by
 obtain⟨h1,h2⟩:=List.getElem?_eq_some_iff.1 h
 rw[List.drop_eq_getElem_cons h1,h2]
theorem bare_le (f:List UInt8):(Wri.bare f).length≤f.length:=by
 unfold Wri.bare Lib.trimSuffix
 split
 ·simp
 ·exact Nat.le_refl _
def LenLe (m:Nat) (f:List UInt8):Prop:=f.length≤m+3
theorem plain_len (k:Int) (m:Nat):LenLe m (Wri.plain k m).1:=by
 have h:(fun p:List UInt8×Bool=>LenLe m p.1) (Wri.plain k m):=by
  unfold Wri.plain
  repeat' apply Wri.pick (P:=fun p:List UInt8×Bool=>LenLe m p.1)
  all_goals (unfold LenLe;simp;try omega)
 exact h
theorem form_len (k nu:Int) (m:Nat):(Wri.form k nu m).1.length≤m+3:=by
 show LenLe m _
 unfold Wri.form
 simp only
 repeat' apply Wri.pick (P:=LenLe m)
 all_goals first
  | exact plain_len k m
  | (unfold LenLe;simp;done)
def RightLe (N:Nat):Prop:=∀(n:Pars.Node) (cs:Array Value) (w:World) (S:Nat→Prop) (fn lp:Bool),Wri.wg n≤N→Wri.wg n≤70368744177000→NodeAt w S n cs→EnvW w→
  Calls Tryz.prog 37 #[.agg cs,.bool fn,.bool lp] w fun e w'=>e= .returned (.bool (Wri.right n fn lp))∧Below w.heap.size w w'
set_option maxRecDepth 100000 in
set_option maxHeartbeats 4000000 in
theorem right_step {N:Nat} (IH:RightLe N) (k nu:Int) (t:List UInt8) (l:List Pars.Node) (cs:Array Value) (w:World) (S:Nat→Prop) (fn lp:Bool) (h:Wri.wg (.mk k nu t l)≤N+1) (hb:Wri.wg (.mk k nu t l)≤70368744177000) (hn:NodeAt w S (.mk k nu t l) cs) (he:EnvW w):
  Calls Tryz.prog 37 #[.agg cs,.bool fn,.bool lp] w fun e w'=>e= .returned (.bool (Wri.right (.mk k nu t l) fn lp))∧Below w.heap.size w w':=by
 unfold NodeAt at hn
 obtain⟨A,cap,css,rfl,hc1,hc2,hrow,hk⟩:=hn
 have HROW:=hid hrow
 have HK:=hid hk
 simp only[Wri.wg] at h hb
 have hll:=Wri.wgs_len l
 have HFM:=hid (fun W=>form_any k nu t A l.length cap (by omega) W)
 have HFD:=hid (fun W (hW:EnvW W)=>fields_any k nu t (by omega) A l.length cap W hW)
 have HRQ:=hid (right_eq k nu t l fn lp)
 obtain⟨f,hf⟩:∃q,(Wri.form k nu l.length).1=q:=⟨_,rfl⟩
 obtain⟨ib,hib⟩:∃q,(Wri.form k nu l.length).2=q:=⟨_,rfl⟩
 obtain⟨fb,hfb⟩:∃q,Wri.fields k nu t=q:=⟨_,rfl⟩
 have hfl:f.length≤l.length+3:=by rw[←hf];exact form_len k nu l.length
 have hst:Wri.star f=true→Wri.bare f≠[]:=by rw[←hf];exact Wri.star_bare k nu l.length
 rw[hf,hib] at HFM
 rw[hfb] at HFD
 rw[hf,hib,hfb] at HRQ
 have HE:=hid he
 clear hrow hk hf hib hfb he
 obtain⟨F,hF⟩:∃q,byt f=q:=⟨_,rfl⟩
 rw[hF] at HFM
 obtain⟨sb,hsb⟩:∃q,Wri.star f=q:=⟨_,rfl⟩
 obtain⟨g,hg⟩:∃q,Wri.bare f=q:=⟨_,rfl⟩
 obtain⟨GB,hGB⟩:∃q,byt g=q:=⟨_,rfl⟩
 have HSF:Hid (∀W,Calls Tryz.prog 65 #[.string F,.string ⟨#[42]⟩] W fun e w'=>e= .returned (.bool sb)∧w'=W):=hid (fun W=>by have:=Tryz.strings_HasSuffix (byt f) ⟨#[42]⟩ W (by rw[byt_size];omega);rw[byt_data] at this;rw[←hF, ←hsb];exact this)
 have HTF:Hid (∀W,Calls Tryz.prog 66 #[.string F,.string ⟨#[42]⟩] W fun e w'=>e= .returned (.string GB)∧w'=W):=hid (fun W=>by have:=Tryz.strings_TrimSuffix (byt f) ⟨#[42]⟩ W (by rw[byt_size];omega);rw[byt_data] at this;rw[←hF, ←hGB, ←hg];exact this)
 obtain⟨gz,hgz⟩:∃q,g.length=q:=⟨_,rfl⟩
 have hGZ:GB.size=gz:=by rw[←hGB,byt_size];exact hgz
 have hgl:gz≤l.length+3:=by have:=bare_le f;rw[hg] at this;omega
 have HCT:Hid (Wri.count f l.length=(decide (l.length=gz)||(sb&&decide (gz≤l.length+1)))):=hid (by unfold Wri.count;rw[hsb,hg,hgz])
 have HST:Hid (sb=true→1≤gz):=hid (fun hs=>by have:=hst (hsb.trans hs);rw[hg] at this;rw[←hgz];exact List.length_pos_iff.2 this)
 rw[hg] at HRQ
 have HGZ:=hid hgz
 have HGB:=hid hGB
 clear hF hsb hg hGB hgz hst
 obtain⟨cells,hcells⟩:∃q,nc k nu t (.slice A l.length cap)=q:=⟨_,rfl⟩
 have hinf:(Tryz.prog.info? 24).map (·.size)=some cells.size:=by rw[←hcells];exact info_nod
 have HINF:=hid hinf
 clear hinf
 have hce0:cells[0]? =some (.int .i64 k):=by rw[←hcells];rfl
 have hce3:cells[3]? =some (.slice A l.length cap):=by rw[←hcells];rfl
 have HC0:=hid hce0
 have HC3:=hid hce3
 rw[hcells] at HFM HFD
 rw[hcells]
 clear hcells hce0 hce3
 go_enter Tryz.func37,Tryz.ntmps37
 go_upto_region 1 with fail
 refine gen_world (F:=fun W=>Box W w.heap.size 24 cells∧Below w.heap.size w W) ⟨Box.new w _ _,below1 w _⟩ ?_
 rintro W0 ⟨b0,hU⟩
 have NB:=hid b0
 have HU:=hid hU
 clear b0 hU
 have nb:=NB.out
 go_wp2_with (refine wpList_load_row rfl 24 (.tmp 3) rfl w.heap.size rfl _ cells (0,0) _ nb Tryz.underlying24 rfl HINF.out ?_)
 refine (HFM.out _).mono ?_
 rintro e w1 ⟨rfl,hb1⟩
 replace NB:=bl NB hb1
 have hsz:=HU.out.size
 replace HU:=hid (HU.out.trans (hb1.mono hsz))
 clear hb1 nb hsz
 go_upto_region 2 with fail
 go_cut [47] from 14 (fun s47 wx=>s47= .bool (!(ib&&(fb&&(!(decide (k=25)&& !fn)&& !(decide (k=26∨k=27)&& !lp)))))∧Hid (Box wx w.heap.size 24 cells)∧Hid (Below w.heap.size w wx))
 case first=>
  have c0:=NB.out.cell 0
  rw[HC0.out] at c0
  have c3:=NB.out.cell 3
  rw[HC3.out] at c3
  cases ib with
  | false=>(go_wp2;go_meet;exact⟨by simp,NB,HU⟩)
  | true=>
   have nb:=NB.out
   go_wp2_with (refine wpList_load_row_g (by kernel_rfl) 24 (.tmp 3) rfl w.heap.size rfl _ cells _ nb Tryz.underlying24 rfl HINF.out ?_)
   refine (HFD.out _ (HE.out.below HU.out HE.out.big)).mono ?_
   rintro e w2 ⟨rfl,hb1⟩
   replace NB:=bl NB hb1
   have hsz:=HU.out.size
   replace HU:=hid (HU.out.trans (hb1.mono hsz))
   clear hb1 nb hsz c0 c3
   have c0:=NB.out.cell 0
   rw[HC0.out] at c0
   have c3:=NB.out.cell 3
   rw[HC3.out] at c3
   cases fb with
   | false=>(go_wp2;go_meet;exact⟨by simp,NB,HU⟩)
   | true=>
    obtain⟨b25,n25⟩:∃b,(k==25)=b:=⟨_,rfl⟩
    obtain⟨b26,n26⟩:∃b,(k==26)=b:=⟨_,rfl⟩
    obtain⟨b27,n27⟩:∃b,(k==27)=b:=⟨_,rfl⟩
    have HB:=hid (show decide (k=25)=b25∧decide (k=26∨k=27)=(b26||b27) by rw[←n25, ←n26, ←n27];constructor<;>simp[Bool.beq_eq_decide_eq])
    cases b25<;>cases fn<;>cases b26<;>cases b27<;>cases lp<;>(go_wp2;go_meet;exact⟨by simp[HB.out.1,HB.out.2],NB,HU⟩)
 case rest=>
 obtain⟨rfl,NB',HU'⟩:=hcut
 clear NB HU
 have NB:=NB'
 have HU:=HU'
 clear NB' HU'
 have HBD:Hid (Wri.right (.mk k nu t l) fn lp=(!(!(ib&&(fb&&(!(decide (k=25)&& !fn)&& !(decide (k=26∨k=27)&& !lp)))))&&(Wri.count f l.length&&Wri.rights g k fn lp 0 l))):=hid (by rw[HRQ.out];simp[Bool.and_assoc])
 obtain⟨bad,hbad⟩:∃b,(!(ib&&(fb&&(!(decide (k=25)&& !fn)&& !(decide (k=26∨k=27)&& !lp)))))=b:=⟨_,rfl⟩
 rw[hbad] at HBD ⊢
 clear hbad HRQ
 cases bad with
 | true=>(go_wp2;go_ret;exact⟨ret_bool (a:=false) (Eq.symm (by rw[HBD.out];rfl)),HU.out⟩)
 | false=>
  go_wp2_with fail
  refine (HSF.out _).mono ?_
  rintro e w3 ⟨rfl,rfl⟩
  go_wp2_with fail
  refine (HTF.out _).mono ?_
  rintro e w4 ⟨rfl,rfl⟩
  rw[HCT.out] at HBD
  have c0:=NB.out.cell 0
  rw[HC0.out] at c0
  have c3:=NB.out.cell 3
  rw[HC3.out] at c3
  go_upto_region 6 with fail
  go_cut [70] from 14 (fun s70 wx=>s70= .bool (!(decide (l.length=gz)||(sb&&decide (gz≤l.length+1))))∧Hid (Box wx w.heap.size 24 cells)∧Hid (Below w.heap.size w wx))
  case first=>
   by_cases yl:l.length=gz
   ·have d1:((l.length:Int)==(gz:Int))=true:=by rw[beq_iff_eq];omega
    have d2:((l.length:Int) != (gz:Int))=false:=by simp[bne,d1]
    have YL:=hid yl
    clear yl
    go_wp2
    go_meet
    exact⟨by simp[YL.out],NB,HU⟩
   ·have d1:((l.length:Int)==(gz:Int))=false:=by rw[beq_eq_false_iff_ne];omega
    have d2:((l.length:Int) != (gz:Int))=true:=by simp[bne,d1]
    have d3:¬(l.length:Int)=(gz:Int):=by omega
    cases sb with
    | false=>(go_wp2;go_meet;exact⟨by simp[yl],NB,HU⟩)
    | true=>
     have hgp:=HST.out rfl
     have wz0:IntKind.i64.wrap ((gz:Int) - 1)=(gz:Int) - 1:=by rw[IntKind.wrap_i64];omega
     by_cases yg:gz≤l.length+1
     ·have d4:(gz:Int) - 1≤(l.length:Int):=by omega
      have d5:decide ((gz:Int) - 1≤(l.length:Int))=true:=decide_eq_true d4
      go_wp2
      go_meet
      exact⟨by simp[yl,yg],NB,HU⟩
     ·have d4:¬(gz:Int) - 1≤(l.length:Int):=by omega
      have d5:decide ((gz:Int) - 1≤(l.length:Int))=false:=decide_eq_false d4
      go_wp2
      go_meet
      exact⟨by simp[yl,yg],NB,HU⟩
  case rest=>
  obtain⟨rfl,NB',HU'⟩:=hcut
  clear NB HU c0 c3
  have NB:=NB'
  have HU:=HU'
  clear NB' HU'
  have HGP:Hid ((decide (l.length=gz)||(sb&&decide (gz≤l.length+1)))=true→0<l.length→1≤gz):=hid (fun hc h0=>by
   simp only[Bool.or_eq_true,Bool.and_eq_true,decide_eq_true_eq] at hc
   rcases hc with hc | hc
   ·omega
   ·exact HST.out hc.1)
  obtain⟨cn,hcn⟩:∃b,(decide (l.length=gz)||(sb&&decide (gz≤l.length+1)))=b:=⟨_,rfl⟩
  rw[hcn] at HBD HGP ⊢
  clear hcn
  cases cn with
  | false=>(go_wp2;go_ret;exact⟨ret_bool (a:=false) (Eq.symm (by rw[HBD.out];rfl)),HU.out⟩)
  | true=>
   have HRR:Hid (Wri.right (.mk k nu t l) fn lp=Wri.rights g k fn lp 0 (l.drop 0)):=hid (by rw[HBD.out];rfl)
   have c0:=NB.out.cell 0
   rw[HC0.out] at c0
   have c3:=NB.out.cell 3
   rw[HC3.out] at c3
   go_wp2
   go_loopg [74] l.length (fun gg s74 wr=>∃j:Nat,j≤l.length∧l.length - j≤gg∧s74= .int .i64 (j:Int)∧Hid (Box wr w.heap.size 24 cells)∧Hid (Below w.heap.size w wr)∧Hid (Wri.right (.mk k nu t l) fn lp=Wri.rights g k fn lp j (l.drop j)))
   case atStart=>exact⟨0,Nat.zero_le _,by omega,rfl,NB,HU,HRR⟩
   case round=>
    clear NB HU HRR c0 c3
    obtain⟨j,hj,hg2,rfl,NB,HU,HRR⟩:=hrel
    have c0:=NB.out.cell 0
    rw[HC0.out] at c0
    have c3:=NB.out.cell 3
    rw[HC3.out] at c3
    by_cases hlt:j<l.length
    ·have hgp:1≤gz:=HGP.out (by simp) (by omega)
     have hltz:(j:Int)<(l.length:Int):=by omega
     have hltd:decide ((j:Int)<(l.length:Int))=true:=decide_eq_true hltz
     have wj:IntKind.i64.wrap ((j:Int)+1)=(j:Int)+1:=by rw[IntKind.wrap_i64];omega
     have wz:IntKind.i64.wrap ((gz:Int) - 1)=(gz:Int) - 1:=by rw[IntKind.wrap_i64];omega
     obtain⟨x,hx⟩:∃x,l[j]? =some x:=⟨_,List.getElem?_eq_getElem hlt⟩
     have hxw:=Wri.wg_mem (List.mem_of_getElem? hx)
     have HDR:=hid (drop_cons hx)
     obtain⟨xc,hxc,hnx,hfl2⟩:=NodesAt.get HK.out hx
     obtain⟨g0,o0,rfl,hS,hg0,hr0⟩:=HROW.out (by omega)
     have hc4:xc.size=4:=NodeAt.size hnx
     have HR0:Hid (wr.rangeAt g0 (o0+j * 4) xc.toList):=hid (fun i u hu=>by
      rw[Nat.add_assoc,HU.out.cell (p:=⟨g0,o0+(j * 4+i),none⟩) hg0]
      exact hr0 (j * 4+i) u (hfl2 i u hu))
     have HNX:=hid (NodeAt.keep (S1:=fun _=>True) (fun _ _ _=>trivial) HU.out.size (fun g _ hg=>HU.out.block g hg) hnx)
     obtain⟨mj,hmj⟩:∃q,min j (gz - 1)=q:=⟨_,rfl⟩
     have hmg:mj<g.length:=by rw[HGZ.out];omega
     obtain⟨c,hc⟩:∃c,g[mj]? =some c:=⟨_,List.getElem?_eq_getElem hmg⟩
     have HM:Hid (min (j:Int) ((gz:Int) - 1)=(mj:Int)):=hid (by omega)
     have hix:∀W,(Instr.index 9 (.string GB) (.int .i64 (mj:Int))).run Tryz.prog W= .ok (.int .u8 (c.toNat:Int)) W:=fun W=>Jl.run_at GB c (mj:Int) (by omega) (by rw[←HGB.out,byt_data];simpa using hc) W
     have HCD:Hid (g.getD (min j (g.length - 1)) 0=c):=hid (by rw[HGZ.out,hmj];simp[List.getD,hc])
     have HSO:Hid (∀W,Calls Tryz.prog 67 #[.agg xc,.int .u8 (c.toNat:Int)] W fun e w'=>e= .returned (.bool (Wri.sort x c))∧Below W.heap.size W w'):=hid (fun W=>by
      obtain⟨xk,xn,xt,xl⟩:=x
      unfold NodeAt at hnx
      obtain⟨A',cap',css',rfl,_⟩:=hnx
      exact sort_any xk xn xt xl A' xl.length cap' c W)
     have hinf:(Tryz.prog.info? 24).map (·.size)=some xc.toList.length:=by rw[Array.length_toList,hc4];exact info_nod
     have HXI:=hid hinf
     have hinf2:(Tryz.prog.info? 24).map (·.size)=some xc.size:=by rw[hc4];exact info_nod
     have HXI2:=hid hinf2
     have H4:Hid ((4:Nat)=xc.size):=hid hc4.symm
     have HONE:=hid (NodeAt.one hnx)
     have HXW:Hid (Wri.wg x≤N∧Wri.wg x≤70368744177000):=hid ⟨by omega,by omega⟩
     have HRC:=hid (rights_cons g k fn lp j x (l.drop (j+1)) c HCD.out)
     have HRN:=hid (HRR.out.trans ((congrArg (Wri.rights g k fn lp j) HDR.out).trans HRC.out))
     have hwr:=HU.out.size
     clear hx hxc hnx hfl2 hr0 hinf hinf2 hc4 hmj hmg hc hxw HRC
     obtain⟨ci,hci⟩:∃q:Int,(c.toNat:Int)=q:=⟨_,rfl⟩
     have HCI:=hid hci
     rw[hci] at hix HSO
     clear hci
     go_upto_region 11 with (first | (refine wpList_load_mid rfl 24 (.tmp 77) rfl g0 (o0+j * 4) rfl xc.toList _ HR0.out Tryz.underlying24 rfl HXI.out ?_) | (refine wpList_store_box rfl 24 (.tmp 11) (.tmp 78) rfl wr.heap.size xc rfl (by simp[Act.eval,Act.put]) 24 _ (Box.new wr _ _) HXI2.out H4.out HONE.out ?_;intro w5 hx5 hu5 hz5;have HZ5:=hid hz5;clear hz5))
     have hb5:Below wr.heap.size wr w5:=((Below.refl _ wr).alloc (Nat.le_refl _) _).trans (hu5.own (Nat.le_refl _) (by simp))
     have EB:=hid hx5
     replace HNX:=hid (HNX.out.below hb5)
     replace NB:=bl NB hb5
     replace HU:=hid (HU.out.trans (hb5.mono hwr))
     clear hx5 hu5 hb5 hwr c0 c3
     have c0:=NB.out.cell 0
     rw[HC0.out] at c0
     have c3:=NB.out.cell 3
     rw[HC3.out] at c3
     go_upto_region 12 with (refine wpList_min2 rfl (.tmp 80) (.tmp 83) _ rfl _ _ _ rfl rfl HM.out ?_)
     obtain⟨a1,ha1⟩:∃b,(fn||decide (c=103))=b:=⟨_,rfl⟩
     obtain⟨a2,ha2⟩:∃b,(decide (c=108)||(lp&&(!decide (c=103)&& !decide (k=9))))=b:=⟨_,rfl⟩
     obtain⟨so,hso⟩:∃b,Wri.sort x c=b:=⟨_,rfl⟩
     obtain⟨rb,hrb⟩:∃b,Wri.right x a1 a2=b:=⟨_,rfl⟩
     rw[ha1,ha2,hso,hrb] at HRN
     rw[hso] at HSO
     have HA1:=hid ha1
     have HA2:=hid ha2
     have HRB:=hid hrb
     clear ha1 ha2 hso hrb
     go_cut [74,113] from 74 to 114 (fun s74 s113 wx=>s74= .int .i64 (j:Int)∧s113= .bool (!(so&&rb))∧Hid (Box wx w.heap.size 24 cells)∧Hid (Below w.heap.size w wx))
     case first=>
      have eb:=EB.out
      go_wp2_with (refine wpList_load_row rfl 24 (.tmp 11) rfl wr.heap.size rfl _ xc (0,0) _ eb Tryz.underlying24 rfl HXI2.out ?_)
      refine (HSO.out _).mono ?_
      rintro e w6 ⟨rfl,hb6⟩
      have hsz:=HU.out.size
      replace EB:=bl EB hb6
      replace HNX:=hid (HNX.out.below hb6)
      replace NB:=bl NB hb6
      replace HU:=hid (HU.out.trans (hb6.mono hsz))
      clear hb6 hsz eb c0 c3
      have c0:=NB.out.cell 0
      rw[HC0.out] at c0
      have c3:=NB.out.cell 3
      rw[HC3.out] at c3
      cases so with
      | false=>(go_wp2;go_meet;exact⟨rfl,by simp,NB,HU⟩)
      | true=>
       have eb:=EB.out
       have HCV:Hid (decide (c=103)=(ci==103)∧decide (c=108)=(ci==108)∧decide (k=9)=(k==9)):=hid (by
        have hv:∀v:UInt8,decide (c=v)=(ci==(v.toNat:Int)):=fun v=>by
         rw[←HCI.out,Bool.beq_eq_decide_eq]
         exact decide_eq_decide.2 ⟨fun h=>by rw[h],fun h=>UInt8.toNat_inj.1 (by omega)⟩
        exact⟨hv 103,hv 108,(Bool.beq_eq_decide_eq k 9).symm⟩)
       rw[HCV.out.1] at HA1 HA2
       rw[HCV.out.2.1,HCV.out.2.2] at HA2
       clear HCV
       have e103:(ci != 103)= !(ci==103):=rfl
       have e9:(k != 9)= !(k==9):=rfl
       obtain⟨z3,n3⟩:∃b,(ci==103)=b:=⟨_,rfl⟩
       obtain⟨z8,n8⟩:∃b,(ci==108)=b:=⟨_,rfl⟩
       obtain⟨z9,n9⟩:∃b,(k==9)=b:=⟨_,rfl⟩
       rw[n3] at e103
       rw[n9] at e9
       rw[n3,n8,n9] at HA2
       rw[n3] at HA1
       have hL:=fun W=>IH x xc W (fun _=>True) a1 a2 HXW.out.1 HXW.out.2
       have HL:=hid hL
       clear hL
       cases z3<;>cases fn<;>cases z8<;>cases lp<;>cases z9<;>(have e1:=HA1.out;have e2:=HA2.out;simp only[Bool.or_true,Bool.true_or,Bool.or_false,Bool.false_or,Bool.and_true,Bool.true_and,Bool.and_false,Bool.false_and,Bool.not_true,Bool.not_false] at e1 e2 e103 e9;subst e1 e2;go_wp2_with (refine wpList_load_row_g (by kernel_rfl) 24 (.tmp 11) rfl wr.heap.size rfl _ xc _ eb Tryz.underlying24 rfl HXI2.out ?_);refine (HL.out _ HNX.out (HE.out.below HU.out HE.out.big)).mono ?_;rw[HRB.out];rintro e w7 ⟨rfl,hb7⟩;have hsz:=HU.out.size;replace NB:=bl NB hb7;replace HU:=hid (HU.out.trans (hb7.mono hsz));clear hb7 hsz eb;go_wp2;go_meet;exact⟨rfl,by simp,NB,HU⟩)
     case rest=>
     obtain⟨rfl,rfl,NB',HU'⟩:=hcut
     clear NB HU c0 c3
     have NB:=NB'
     have HU:=HU'
     clear NB' HU'
     have HSR:Hid (Wri.right (.mk k nu t l) fn lp=((so&&rb)&&Wri.rights g k fn lp (j+1) (l.drop (j+1)))):=hid (by rw[HRN.out,Bool.and_assoc])
     obtain⟨sr,hsr⟩:∃b,(so&&rb)=b:=⟨_,rfl⟩
     rw[hsr] at HSR ⊢
     clear hsr
     cases sr with
     | false=>(go_wp2;go_ret;exact⟨ret_bool (a:=false) (Eq.symm (by rw[HSR.out];rfl)),HU.out⟩)
     | true=>
      go_wp2
      go_roundg (l.length - (j+1))
      case measure=>omega
      case rel=>exact⟨j+1,by omega,by omega,rfl,NB,HU,hid (by rw[HSR.out];rfl)⟩
    ·have hltz:¬(j:Int)<(l.length:Int):=by omega
     have hltd:decide ((j:Int)<(l.length:Int))=false:=decide_eq_false hltz
     go_wp2
     go_ret
     exact⟨ret_bool (a:=true) (Eq.symm (by rw[HRR.out,List.drop_of_length_le (by omega)];rfl)),HU.out⟩
end Go.Proofs.YtflmjbmdmoifhaaGreatDoor
namespace Go.Proofs.YtflmjbmdmoifhaaGreatDoor
open Go.Lib (hid)
open Go.RowKit
theorem right_le:∀N,RightLe N
 | 0=>by intro n cs w S fn lp h;cases n;simp[Wri.wg] at h
 | N+1=>by
  have IH:=right_le N
  intro n cs w S fn lp h hb hn he
  obtain⟨k,nu,t,l⟩:=n
  exact right_step IH k nu t l cs w S fn lp h hb hn he
theorem right_any {n:Pars.Node} {cs:Array Value} {w:World} {S:Nat→Prop} (fn lp:Bool) (hb:Wri.wg n≤70368744177000) (hn:NodeAt w S n cs) (he:EnvW w):
  Calls Tryz.prog 37 #[.agg cs,.bool fn,.bool lp] w fun e w'=>e= .returned (.bool (Wri.right n fn lp))∧Below w.heap.size w w':=right_le _ n cs w S fn lp (Nat.le_refl _) hb hn he
mutual
theorem size_wg:∀n:Pars.Node,Pars.size n≤Wri.wg n
 | .mk _ _ t l=>by simp only[Pars.size,Wri.wg];have:=sizes_wgs l;omega
theorem sizes_wgs:∀l:List Pars.Node,Pars.sizes l≤Wri.wgs l
 | []=>by simp[Pars.sizes]
 | n :: l=>by simp only[Pars.sizes,Wri.wgs];have:=size_wg n;have:=sizes_wgs l;omega
end
set_option maxRecDepth 100000 in
set_option maxHeartbeats 4000000 in
theorem check_is {n:Pars.Node} {cs:Array Value} {w:World} {S:Nat→Prop} (hb:Wri.wg n≤70368744177000) (hn:NodeAt w S n cs) (he:EnvW w):
  Calls Tryz.prog 25 #[.agg cs] w fun e w'=>e= .returned (.int .i64 (Wri.check n:Int))∧Below w.heap.size w w':=by
 have hsz:=Nat.le_trans (size_wg n) hb
 have hds:=Pars.deep_size n
 have HN:=hid (NodeAt.keep (S1:=fun _=>True) (w1:=w) (fun _ _ _=>trivial) (Nat.le_refl _) (fun _ _ _=>rfl) hn)
 have HE:=hid he
 have hinf:(Tryz.prog.info? 24).map (·.size)=some cs.size:=by rw[NodeAt.size hn];exact info_nod
 have HINF:=hid hinf
 have hc0:cs[0]? =some (.int .i64 n.kind):=by obtain⟨k,nu,t,l⟩:=n;unfold NodeAt at hn;obtain⟨A,cap,css,rfl,_⟩:=hn;rfl
 have HC0:=hid hc0
 have HCK:Hid (Wri.check n=if n.kind≠30∨Wri.right n false false=false then 3 else if 40<Pars.deep n then 2 else 0):=hid rfl
 obtain⟨k,hk⟩:∃k,n.kind=k:=⟨_,rfl⟩
 obtain⟨rb,hrb⟩:∃b,Wri.right n false false=b:=⟨_,rfl⟩
 have HRB:=hid hrb
 rw[hk] at HC0
 rw[hk,hrb] at HCK
 clear hn he hinf hc0 hk hrb
 go_enter Tryz.func25,Tryz.ntmps25
 go_upto_region 1 with fail
 refine gen_world (F:=fun W=>Box W w.heap.size 24 cs∧Below w.heap.size w W) ⟨Box.new w _ _,below1 w _⟩ ?_
 rintro W0 ⟨b0,hU⟩
 have NB:=hid b0
 have HU:=hid hU
 have c0:=b0.cell 0
 rw[HC0.out] at c0
 clear b0 hU
 by_cases y:k=30
 ·subst y
  have nb:=NB.out
  go_wp2_with (refine wpList_load_row_g (by kernel_rfl) 24 (.tmp 1) rfl w.heap.size rfl _ cs _ nb Tryz.underlying24 rfl HINF.out ?_)
  refine (right_any false false hb (HN.out.keep (w1:=W0) (S1:=fun _=>True) (fun _ _ _=>trivial) HU.out.size (fun g _ hg=>HU.out.block g hg)) (HE.out.below HU.out HE.out.big)).mono ?_
  rw[HRB.out]
  rintro e w1 ⟨rfl,hb1⟩
  have hsz1:=HU.out.size
  replace NB:=bl NB hb1
  replace HU:=hid (HU.out.trans (hb1.mono hsz1))
  clear hb1 hsz1 nb c0
  cases rb with
  | false=>
   go_wp2
   go_ret
   exact⟨by rw[HCK.out];rfl,HU.out⟩
  | true=>
   have nb:=NB.out
   go_wp2_with (refine wpList_load_row rfl 24 (.tmp 1) rfl w.heap.size rfl _ cs (0,0) _ nb Tryz.underlying24 rfl HINF.out ?_)
   refine (deep_any (HN.out.keep (w1:=w1) (S1:=fun _=>True) (fun _ _ _=>trivial) HU.out.size (fun g _ hg=>HU.out.block g hg)) (by omega)).mono ?_
   rintro e w2 ⟨rfl,hb2⟩
   have hsz1:=HU.out.size
   replace HU:=hid (HU.out.trans (hb2.mono hsz1))
   clear hb2 hsz1 nb
   by_cases z:40<Pars.deep n
   ·have d1:decide ((40:Int)<(Pars.deep n:Int))=true:=decide_eq_true (by omega)
    have d2:(40:Int)<(Pars.deep n:Int):=by omega
    have HZ:=hid z
    clear z
    go_wp2
    go_ret
    exact⟨by rw[HCK.out,if_neg (by simp),if_pos HZ.out];rfl,HU.out⟩
   ·have d1:decide ((40:Int)<(Pars.deep n:Int))=false:=decide_eq_false (by omega)
    have d2:¬(40:Int)<(Pars.deep n:Int):=by omega
    have HZ:=hid z
    clear z
    go_wp2
    go_ret
    exact⟨by rw[HCK.out,if_neg (by simp),if_neg HZ.out];rfl,HU.out⟩
 ·have n30:(k==30)=false:=bn y
  have b30:(k != 30)=true:=by simp[bne,n30]
  have HY:=hid y
  clear y
  go_wp2
  go_ret
  exact⟨by rw[HCK.out,if_pos (.inl HY.out)];rfl,HU.out⟩
end Go.Proofs.YtflmjbmdmoifhaaGreatDoor

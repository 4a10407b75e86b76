/-
  Texts that the law leans on: SlA, SlF, SlG, PxO, SoA, PxN. Conditions: as each says.
-/
import Derived.Test.YtflmjbmdmoifhaaGreatDoorUAc
import Derived.Test.YtflmjbmdmoifhaaGreatDoorUAr
import Derived.Test.YtflmjbmdmoifhaaGreatDoorUAt
import Derived.Test.YtflmjbmdmoifhaaGreatDoorShelfC
import Derived.Test.YtflmjbmdmoifhaaGreatDoorUAq
import Derived.Test.YtflmjbmdmoifhaaGreatDoorRows
import Derived.Deep.Slices
import Derived.Deep.Strs
import Derived.ProofKit
import Derived.OpenShut
import Derived.SizedLaws
import Derived.Lib.SmallJoins
import Derived.ChangeSame
import Derived.Test.YtflmjbmdmoifhaaGreatDoorUAd
import Derived.Test.YtflmjbmdmoifhaaGreatDoorUAo
import Derived.LaidMore
import Derived.Lib.LaidTab
import Derived.Stop.LaidErr
import Derived.Deep.DeepHandedRow
import Derived.Deep.DeepWitnessRowRef
import Derived.Test.YtflmjbmdmoifhaaGreatDoorUAa
set_option linter.unusedSimpArgs false
set_option linter.unusedVariables false
namespace Go.Proofs.YtflmjbmdmoifhaaGreatDoor
open Go.Lib (hid)
open Go.RowKit
theorem kn_nil (w:World) (kb:Nat):KnAt w kb [] (.slice none 0 0):=⟨none,0,rfl,Nat.le_refl _,by decide,fun h=>absurd h (by decide)⟩
theorem ok4_any (a b c d:Int) (w1:World):Calls Tryz.prog 10 #[.slice (some ⟨w1.heap.size,0,none⟩) 4 4] (w1.alloc (.cells #[.int .i64 a,.int .i64 b,.int .i64 c,.int .i64 d] 28)) fun e w'=>e= .returned (.bool (decide (a=0)&&(decide (b=0)&&(decide (c=0)&&decide (d=0)))))∧Below w1.heap.size w1 w':=
 (ok_any [a,b,c,d] w1.heap.size _ (Box.new w1 _ _) (by simp)).mono fun e w' ⟨h1,h2⟩=>⟨by rw[h1];simp,by rw[h2];exact below1 w1 _⟩
theorem own_at {α:Type} {w:World} {B k n cap:Nat} {t:TypeId} {A:Option Addr} {f:α→Array Value} {l:List α} (hk:∀x,(f x).size=k) (h:w.ownsRow B t k (.slice A n cap) n (flat f l)) (hp:0<n):
  ∃g,A=some ⟨g,0,none⟩∧B≤g∧g<w.heap.size∧n≤cap∧∀(j:Nat) (x:α),l[j]? =some x→∀i v,(f x).toList[i]? =some v→w.cell? ⟨g,j * k+i,none⟩=some v:=by
 rcases h.2 with⟨_,h0⟩ | ⟨g,cap',cur,hv,hb,hg,h1,h2,h3,h4⟩
 ·omega
 ·injection hv with hA _ hc
  subst hA hc
  have hb2:Box w g t cur:=hg
  refine⟨g,rfl,hb,hb2.lt,h1,fun j x hx i v hv=> ?_⟩
  have hfl:=flat_len (f:=f) hk l
  have e1:=flat_at (f:=f) hk l j x hx i _ hv
  have e2:cur.toList.take (n * k)=flat f l:=h4
  rw[hb2.cell, ←Array.getElem?_toList, ←e1, ←e2,List.getElem?_take,if_pos (by
   have h5:=(List.getElem?_eq_some_iff.1 e1).1
   rw[←e2,List.length_take] at h5
   omega)]
theorem rename_c {w:World} {n:Pars.Node} {cs:Array Value} {S:Nat→Prop} {kv:Value} {known:List (List UInt8)} {dk:Int} {nm:List UInt8} (he:EnvW w) (hn:NodeAt w S n cs) (hw:Wri.wg n≤1048576) (hk:KnAt w w.heap.size known kv) (hnl:nm.length≤9223372036854775807):
  Calls Tryz.prog 8 #[.agg cs,.int .i64 dk,.string (byt nm),kv] w fun e w'=>∃c,e= .returned (.tuple #[.agg c,.int .i64 ((Scopy.rename n dk nm known).2:Int)])∧NodeAt w' (fun _=>True) (Scopy.rename n dk nm known).1 c∧Below w.heap.size w w':=
 (rename_any he hn (Nat.le_trans (size_wg n) hw) (by omega) hk hnl).mono fun e w' ⟨c,h1,h2,h3⟩=>⟨c,h1,h2.weak (fun _ _=>trivial),h3⟩
set_option maxRecDepth 100000 in
set_option maxHeartbeats 4000000 in
theorem slives_true (w:World) (he:EnvW w):Calls Tryz.prog 9 #[] w (TruthOut w):=by
 have HE:=hid he
 have hbig:=he.big
 have HP:=hid (parse_c Scopy.sIn w he (by decide))
 obtain⟨n,hp,hne,hnd,hnu,hr,hrw,hwr,hfw⟩:=Scopy.s_is
 have HP0:=hid hp
 have HNE:=hid hne
 have HND:=hid hnd
 have HNU:=hid hnu
 have HR:=hid hr
 have HRW:=hid hrw
 have HWR:=hid hwr
 have HFW:=hid hfw
 have HU:=hid (Below.refl w.heap.size w)
 have HWG:=hid (Pars.parse_wg hp)
 have HSZ:=hid (Nat.le_trans (size_wg n) (Pars.parse_wg hp))
 clear he hp hne hnd hnu hr hrw hwr hfw
 go_enter Tryz.func9,Tryz.ntmps9
 go_wp2_with fail
 refine HP.out.mono ?_
 rintro e w1 ⟨n',cs,k,rfl,hn,hb,hpc⟩
 obtain⟨rfl,rfl⟩:n'=n∧k=0:=by
  rcases hpc with⟨h,hk⟩ | ⟨_,⟨_,h⟩ | ⟨_,h⟩⟩
  ·rw[HP0.out] at h;injection h with h;exact⟨h.symm,hk⟩
  ·rw[HP0.out] at h;cases h
  ·rw[HP0.out] at h;cases h
 replace HU:=hid (HU.out.trans (hb.mono HU.out.size))
 have HN:=hid hn
 have HINF:Hid ((Tryz.prog.info? 24).map (·.size)=some cs.size):=hid (by rw[NodeAt.size hn];exact info_nod)
 have H4:Hid ((4:Nat)=cs.size):=hid (NodeAt.size hn).symm
 have HONE:=hid (NodeAt.one hn)
 clear hn hb hpc HP
 go_upto_region 2 with (refine wpList_store_box rfl 24 (.tmp 1) (.tmp 12) rfl w1.heap.size cs rfl rfl 24 _ (Box.new w1 _ _) HINF.out H4.out HONE.out ?_;intro w2 hx hu hz;have HZ:=hid hz;clear hz)
 have hb:Below w1.heap.size w1 w2:=(below1 w1 _).trans (hu.own (Nat.le_refl _) (by simp))
 have EB:=hid hx
 replace HN:=hid (HN.out.below hb)
 replace HU:=hid (HU.out.trans (hb.mono HU.out.size))
 clear hx hu hb
 have eb:=EB.out
 go_wp2_with (refine wpList_load_row rfl 24 (.tmp 1) rfl w1.heap.size rfl _ cs (0,0) _ eb Tryz.underlying24 rfl HINF.out ?_)
 refine (names_any (HE.out.below HU.out hbig) HN.out (by have:=HSZ.out;omega) (by have:=HWG.out;omega) (kn_nil _ _)).mono ?_
 rintro e w3 ⟨dv,uv,ds,us,k,rfl,hd,hv,hq,hb⟩
 obtain⟨rfl,rfl,rfl⟩:ds=[Scopy.d0,Scopy.d1,Scopy.d2]∧us=[([120],0),([121],2)]∧k=0:=by
  rcases hq with⟨_,h1,h2,h3⟩ | ⟨h,_⟩
  ·exact⟨h2.trans HND.out,h3.trans HNU.out,h1⟩
  ·exact absurd HNE.out h
 replace HN:=hid (HN.out.below hb)
 replace EB:=bl EB hb
 replace HU:=hid (HU.out.trans (hb.mono HU.out.size))
 have HD:=hid hd
 have HV:=hid hv
 clear hd hv hq hb eb
 have eb:=EB.out
 go_wp2_with (refine wpList_load_row rfl 24 (.tmp 1) rfl w1.heap.size rfl _ cs (0,0) _ eb Tryz.underlying24 rfl HINF.out ?_)
 refine (rename_c (nm:=[122]) (known:=[]) (HE.out.below HU.out hbig) HN.out (by have:=HWG.out;omega) (kn_nil _ _) (by decide)).mono ?_
 rintro e w4 ⟨c,rfl,hn,hb⟩
 rw[HR.out]
 have HM:=hid hn
 have HMI:Hid ((Tryz.prog.info? 24).map (·.size)=some c.size):=hid (by rw[NodeAt.size hn];exact info_nod)
 have HM4:Hid ((4:Nat)=c.size):=hid (NodeAt.size hn).symm
 have HMO:=hid (NodeAt.one hn)
 replace HD:=hid (own_below HD.out hb)
 replace HV:=hid (own_below HV.out hb)
 replace HU:=hid (HU.out.trans (hb.mono HU.out.size))
 clear hn hb eb
 go_upto_region 4 with (refine wpList_store_box rfl 24 (.tmp 6) (.tmp 23) rfl w4.heap.size c rfl rfl 24 _ (Box.new w4 _ _) HMI.out HM4.out HMO.out ?_;intro w5 hx hu hz;have HZ:=hid hz;clear hz)
 have hb:Below w4.heap.size w4 w5:=(below1 w4 _).trans (hu.own (Nat.le_refl _) (by simp))
 have EM:=hid hx
 replace HM:=hid (HM.out.below hb)
 replace HD:=hid (own_below HD.out hb)
 replace HV:=hid (own_below HV.out hb)
 replace HU:=hid (HU.out.trans (hb.mono HU.out.size))
 clear hx hu hb HN EB
 have em:=EM.out
 go_wp2_with (refine wpList_load_row rfl 24 (.tmp 6) rfl w4.heap.size rfl _ c (0,0) _ em Tryz.underlying24 rfl HMI.out ?_)
 refine (write_c HFW.out HRW.out HM.out (HE.out.below HU.out hbig)).mono ?_
 rintro e w6 ⟨t,k,rfl,hb,hwq⟩
 obtain⟨rfl,rfl⟩:t=Scopy.sOut∧k=0:=by
  rcases hwq with⟨h,hk⟩ | ⟨_,⟨_,h⟩ | ⟨_,h⟩⟩
  ·rw[HWR.out] at h;injection h with h;exact⟨h.symm,hk⟩
  ·rw[HWR.out] at h;cases h
  ·rw[HWR.out] at h;cases h
 replace HD:=hid (own_below HD.out hb)
 replace HV:=hid (own_below HV.out hb)
 replace HU:=hid (HU.out.trans (hb.mono HU.out.size))
 clear hb hwq em HM EM
 obtain⟨Ad,capd,hdv0⟩:=own_slice HD.out
 obtain⟨Au,capu,huv0⟩:=own_slice HV.out
 subst hdv0 huv0
 obtain⟨gd,rfl,hgd,hgd2,hcd,d1⟩:=own_at dc_size HD.out (by decide)
 obtain⟨gu,rfl,hgu,hgu2,hcu,u1⟩:=own_at uc_size HV.out (by decide)
 have c1:w6.cell? ⟨gd,3,none⟩=some (.bool true):=d1 0 _ rfl 3 _ rfl
 have c2:w6.cell? ⟨gd,10,none⟩=some (.int .i64 1):=d1 2 _ rfl 2 _ rfl
 have c3:w6.cell? ⟨gd,11,none⟩=some (.bool false):=d1 2 _ rfl 3 _ rfl
 have c4:w6.cell? ⟨gu,1,none⟩=some (.int .i64 0):=u1 0 _ rfl 1 _ rfl
 have HC:Hid (w6.cell? ⟨gd,3,none⟩=some (.bool true)∧w6.cell? ⟨gd,10,none⟩=some (.int .i64 1)∧w6.cell? ⟨gd,11,none⟩=some (.bool false)∧w6.cell? ⟨gu,1,none⟩=some (.int .i64 0)):=hid ⟨c1,c2,c3,c4⟩
 clear c1 c2 c3 c4 d1 u1 HD HV hgd hgu
 have hcd:3≤capd:=hcd
 have hcu:2≤capu:=hcu
 go_wp2_with fail
 refine (ok4_any 0 0 0 0 w6).mono ?_
 rintro e w7 ⟨rfl,hb⟩
 obtain⟨c1,c2,c3,c4⟩:=HC.out
 rw[←hb.cell (p:=⟨gd,3,none⟩) hgd2] at c1
 rw[←hb.cell (p:=⟨gd,10,none⟩) hgd2] at c2
 rw[←hb.cell (p:=⟨gd,11,none⟩) hgd2] at c3
 rw[←hb.cell (p:=⟨gu,1,none⟩) hgu2] at c4
 replace HU:=hid (HU.out.trans (hb.mono HU.out.size))
 clear hb HC
 have z1:decide ((0:Int)=0)=true:=rfl
 simp only[z1,Bool.and_self]
 have z2:(byt Scopy.sOut)=⟨#[108,101,116,32,122,32,61,32,49,59,32,102,110,32,102,40,121,41,32,123,32,114,101,116,117,114,110,32,122,32,43,32,121,59,32,125]⟩:=rfl
 rw[z2]
 clear z2
 go_wp2
 go_ret
 exact⟨rfl,HU.out⟩
end Go.Proofs.YtflmjbmdmoifhaaGreatDoor
namespace Go.Proofs.YtflmjbmdmoifhaaGreatDoor
open Go.Lib (hid)
open Go.RowKit
def ktx (l:List (List UInt8)):List Value:=l.map fun s=> .string (byt s)
theorem ktx_one (l:List (List UInt8)):∀u∈ktx l,u.oneCell'=true:=by
 intro u hu
 obtain⟨x,_,rfl⟩:=List.mem_map.1 hu
 rfl
theorem ktx_at (l:List (List UInt8)) (j:Nat) (h:j<l.length):(ktx l)[j]? =some (.string ((l.map byt).getD j ByteArray.empty)):=by
 simp[ktx,h,List.getD]
theorem kn_own {w:World} {B n:Nat} {v:Value} {known:List (List UInt8)} (h:w.ownsRow B 9 1 v n (ktx known)) (hn:known.length=n):KnAt w w.heap.size known v:=by
 obtain⟨A,cap,e,h1,h2,h3⟩:=Rd.own h
 subst hn
 refine⟨A,cap,e,h1,h2,fun hp=> ?_⟩
 obtain⟨g,o,e1,h4,h5⟩:=h3 hp
 exact⟨g,o,e1,h4,h4,fun j hj=>h5 j _ (ktx_at known j hj)⟩
theorem kn_clone {w:World} {kb:Nat} {v:Value} {known:List (List UInt8)} (h:KnAt w kb known v) (hl:known.length≤1048576):
  Calls Tryz.prog 14 #[v] w fun e w'=>∃v',e= .returned v'∧w'.ownsRow w.heap.size 9 1 v' known.length (ktx known)∧Below w.heap.size w w':=by
 obtain⟨A,cap,rfl,h1,h2,h3⟩:=h
 cases A with
 | none=>
  have hl0:known=[]:=by
   cases known with
   | nil=>rfl
   | cons x t=>
    obtain⟨_,_,e,_⟩:=h3 (by simp)
    cases e
  subst hl0
  exact (Tryz.slices_Clone_string_nil 0 cap w).mono fun e w' ⟨a,b⟩=>⟨_,a,World.ownsRow_nil _ _ _ _,b ▸ Below.refl _ _⟩
 | some a=>
  by_cases h0:known.length=0
  ·have hl0:known=[]:=List.eq_nil_of_length_eq_zero h0
   subst hl0
   exact (Tryz.slices_Clone_string_zero a cap w).mono fun e w' ⟨v',a,b,_,c⟩=>⟨v',a,b,c⟩
  ·obtain⟨g,o,e,_,h4,h5⟩:=h3 (by omega)
   injection e with e
   subst e
   refine (Tryz.slices_Clone_string g o known.length cap (known.map byt) w (by simp) (by omega) (fun j hj=>h5 j (by simpa using hj))).mono fun e w' ⟨v',a,b,_,c⟩=>⟨v',a,?_,c⟩
   have e1:((known.map byt).take known.length).map Value.string=ktx known:=by rw[List.take_of_length_le (by simp)];simp[ktx,Function.comp_def]
   rw[e1] at b
   exact b
end Go.Proofs.YtflmjbmdmoifhaaGreatDoor
namespace Go.Proofs.YtflmjbmdmoifhaaGreatDoor
open Go.Lib (hid)
open Go.RowKit
theorem parts_str:(Tryz.prog.info? 9).map (fun i=>(i.zero,i.size,i.bytes))=some (some (.string ⟨#[]⟩),1,16):=by kernel_rfl
set_option maxRecDepth 100000 in
set_option maxHeartbeats 8000000 in
theorem suses_true {w:World} {n:Pars.Node} {cs:Array Value} {S:Nat→Prop} {kv:Value} {known:List (List UInt8)} {nm:List UInt8} (he:EnvW w) (hn:NodeAt w S n cs) (hw:Wri.wg n≤1048576) (hk:KnAt w w.heap.size known kv) (hkl:known.length≤1048576):
  Calls Tryz.prog 5 #[.agg cs,kv,.string (byt nm)] w (TruthOut w):=by
 have hsz:Pars.size n≤1048576:=Nat.le_trans (size_wg n) hw
 have HE:=hid he
 have HN:=hid (hn.weak (S1:=fun _=>True) (fun _ _=>trivial))
 have HKA:Hid (∀W,Below w.heap.size w W→KnAt W W.heap.size known kv):=hid (fun W hW=>(hk.fr (Fr.below hW (fun _=>False)) (fun _ _ h=>h)).low fun g _ h=>h)
 have h4:=NodeAt.size hn
 have HINF:Hid ((Tryz.prog.info? 24).map (·.size)=some cs.size):=hid (by rw[h4];exact info_nod)
 have hbig:=he.big
 clear he hn hk h4
 go_enter Tryz.func5,Tryz.ntmps5
 go_upto_region 1 with fail
 refine gen_world (F:=fun W=>Box W w.heap.size 24 cs∧Below w.heap.size w W) ⟨Box.new w _ _,below1 w _⟩ ?_
 rintro w1 ⟨b0,hU⟩
 have HU:=hid hU
 have EB:=hid b0
 replace HN:=hid (HN.out.below hU)
 have eb:=b0
 clear b0 hU
 go_wp2_with (refine wpList_load_row rfl 24 (.tmp 3) rfl w.heap.size rfl _ cs (0,0) _ eb Tryz.underlying24 rfl HINF.out ?_)
 refine (names_any (HE.out.below HU.out hbig) HN.out hsz (by omega) (HKA.out _ HU.out)).mono ?_
 rintro e w2 ⟨dv,uv,ds,us,k,rfl,hd,hv,hq,hb⟩
 have HD:=hid hd
 have HV:=hid hv
 have HQ:=hid hq
 replace HN:=hid (HN.out.below hb)
 replace EB:=bl EB hb
 replace HU:=hid (HU.out.trans (hb.mono HU.out.size))
 clear hd hv hq hb eb
 obtain⟨i0,hi0,hz0,hz1,hz2⟩:=parts_of parts_str
 have h1:Hid (∀u∈ktx [nm],u.oneCell'=true):=hid (ktx_one [nm])
 have hkl2:known.length+1≤1048577:=by omega
 go_upto_region 2 with fail
 go_cut [10,11,12] from 10 to 33 (fun s10 s11 s12 wx=>∃(dv2 uv2:Value) (ds2:List Scopy.Decl) (us2:List (List UInt8×Int)) (k2:Int),s10=dv2∧s11=uv2∧s12= .int .i64 k2∧Hid (wx.ownsRow w2.heap.size 36 4 dv2 ds2.length (flat dc ds2))∧Hid (wx.ownsRow w2.heap.size 39 2 uv2 us2.length (flat uc us2))∧Hid (NQ n (known++[nm]) ds2 us2 k2)∧Hid (Below w2.heap.size w2 wx))
 case first=>
  have HEE:Hid (∀W,Below w2.heap.size w2 W→EnvW W):=hid (fun W hW=>(HE.out.below HU.out hbig).below hW (Nat.le_trans hbig HU.out.size))
  have HKK:Hid (∀W,Below w2.heap.size w2 W→KnAt W W.heap.size known kv):=hid (fun W hW=>HKA.out _ (HU.out.trans (hW.mono HU.out.size)))
  have HNM:Hid (∀(W:World) (v:Value),Below w2.heap.size w2 W→W.ownsRow w2.heap.size 9 1 v (known.length+1) (ktx known++ktx [nm])→Calls Tryz.prog 7 #[.agg cs,v] W fun e w'=>∃dv2 uv2 ds2 us2 k2,e= .returned (.tuple #[dv2,uv2,.int .i64 k2])∧w'.ownsRow w2.heap.size 36 4 dv2 ds2.length (flat dc ds2)∧w'.ownsRow w2.heap.size 39 2 uv2 us2.length (flat uc us2)∧NQ n (known++[nm]) ds2 us2 k2∧Below w2.heap.size w2 w'):=hid (fun W v hW hv=>(names_any (HEE.out _ hW) (HN.out.below hW) hsz (by omega) (kn_own (known:=known++[nm]) (by rw[show ktx (known++[nm])=ktx known++ktx [nm] by simp[ktx]];exact hv) (by simp))).mono fun e w' ⟨dv2,uv2,ds2,us2,k2,e1,e2,e3,e4,e5⟩=>⟨dv2,uv2,ds2,us2,k2,e1,own_base e2 hW.size,own_base e3 hW.size,e4,hW.trans (e5.mono hW.size)⟩)
  have HCL:Hid (∀W,Below w2.heap.size w2 W→Calls Tryz.prog 14 #[kv] W fun e w'=>∃v',e= .returned v'∧w'.ownsRow W.heap.size 9 1 v' known.length (ktx known)∧Below W.heap.size W w'):=hid (fun W hW=>kn_clone (HKK.out W hW) hkl)
  have R1:=hid EB.out.drew
  have HW0:Hid (Below w2.heap.size w2 w2.drew):=hid (Below.refl w2.heap.size w2).drew
  have HSZ:Hid (w.heap.size<w2.heap.size):=hid EB.out.lt
  clear HD HV HQ HN EB
  refine wp_region_until 6 (fun w'=>Box w' w.heap.size 24 cs) (by kernel_rfl) R1.out (fun hHeld=> ?_)
  clear hHeld
  obtain⟨wd,hwd⟩:∃W,w2.drew=W:=⟨_,rfl⟩
  rw[hwd] at R1 HW0
  rw[hwd]
  clear hwd
  refine wpAnyU_take (i:=0) (v:=_) rfl (by kernel_rfl) (by kernel_rfl) (by kernel_rfl) (by kernel_rfl) (by kernel_rfl) (fun _ _ _ h=>h) (yields_load_box (by kernel_rfl) 24 (.tmp 3) rfl w.heap.size 24 cs _ rfl (fun _ h=>h) Tryz.underlying24 rfl HINF.out) R1.out ?_
  (try simp only[Act.put,sq])
  refine tU (i:=1) (v:= ?_) rfl ?_ (.inr R1.out) ?_
  rotate_left
  ·intro w hSw
   go_simp
   try (with_reducible rfl)
  (try simp only[Act.put,sq])
  refine tU (i:=3) (v:= ?_) rfl ?_ (.inr R1.out) ?_
  rotate_left
  ·intro w hSw
   go_simp
   try (with_reducible rfl)
  (try simp only[Act.put,sq])
  refine wpAnyU_ready (rs:=[2,4]) (by kernel_rfl) (by simp) ?_
  refine AllReadyU.cons rfl (fun K hK=> ?_) (AllReadyU.cons rfl (fun K hK=> ?_) AllReadyU.nil)
  ·go_simp
   refine (HCL.out _ HW0.out).mono ?_
   rintro e w3 ⟨v',rfl,hv,hb⟩
   have HVB0:Hid (∀i,v'.ownBlock=some i→w2.heap.size≤i):=hid (fun i e=>by have h1:=(hv.lt i e).1;have h2:=HW0.out.size;omega)
   have HV3:=hid (own_base hv HW0.out.size)
   have HB3:=hid (HW0.out.trans (hb.mono HW0.out.size))
   have R1:=bl R1 hb
   clear hv hb
   refine hK.out _ _ (.inr R1.out) (fun hHeld=> ?_)
   clear hK hHeld K
   (try simp only[Act.put,sq])
   refine rdU 4 rfl fun K hK=> ?_
   go_simp
   have hal:Below w3.heap.size w3 (w3.alloc (.cells #[.string (byt nm)] 9)):=below1 _ _
   have R1:=bl R1 hal
   have HBV:=hid (HB3.out.trans (hal.mono HB3.out.size))
   have HOV:=hid (own_below HV3.out hal)
   have HVB:=HVB0
   clear hal
   refine hK.out _ _ (.inr R1.out) (fun hHeld=> ?_)
   clear hK hHeld K
   (try simp only[Act.put,sq])
   refine rdU 5 rfl fun K hK=> ?_
   refine step_append_lies _ rfl (.tmp 25) (.tmp 27) 25 rfl w2.heap.size 9 i0 _ 1 16 Tryz.underlying25 hi0 hz0 hz1 hz2 rfl (by decide) v' known.length (ktx known) (by simp[Act.eval,Act.put]) HOV.out ⟨w3.heap.size,0,none⟩ 1 1 (ktx [nm]) (by simp[Act.eval,Act.put]) rfl (by exact World.news_of_block (Box.new w3 9 #[.string (byt nm)])) h1.out (by omega) (by unfold maxLen;omega) (by omega) (by have:=HBV.out.size;omega) (w3.alloc (.cells #[.string (byt nm)] 9)).heap.size rfl ?_
   intro g8 cap8 w8 hown8 hgr8 hor8 hlt8
   have HO8:=hid hown8
   have hf8:=Fr.grown hgr8
   have HB8:Hid (Below w2.heap.size w2 w8):=hid (HBV.out.trans (hf8.out (fun i hi e=>by have:=HVB.out i e;omega) HBV.out.size))
   have R1:Hid (Box w8 w.heap.size 24 cs):=hid (hf8.box R1.out (fun e=>by have:=HVB.out _ e;have:=HSZ.out;omega))
   clear hown8 hgr8 hor8 hlt8 hf8
   refine hK.out _ _ (.inr R1.out) (fun hHeld=> ?_)
   clear hK hHeld K
   (try simp only[Act.put,sq])
   refine rdU 6 rfl fun K hK=> ?_
   go_simp
   refine (HNM.out w8 _ HB8.out HO8.out).mono ?_
   rintro e w9 ⟨dv2,uv2,ds2,us2,k2,rfl,q1,q2,q3,q4⟩
   have Q1:=hid q1
   have Q2:=hid q2
   have Q3:=hid q3
   have Q4:=hid q4
   clear q1 q2 q3 q4
   refine hK.out _ _ (.inl (by kernel_rfl)) (fun hHeld=> ?_)
   clear hK hHeld K
   (try simp only[Act.put,sq])
   refine tU (i:=7) (v:= ?_) rfl ?_ (.inl (by kernel_rfl)) ?_
   rotate_left
   ·intro w hSw
    go_simp
    try (with_reducible rfl)
   (try simp only[Act.put,sq])
   refine tU (i:=8) (v:= ?_) rfl ?_ (.inl (by kernel_rfl)) ?_
   rotate_left
   ·intro w hSw
    go_simp
    try (with_reducible rfl)
   (try simp only[Act.put,sq])
   refine tU (i:=9) (v:= ?_) rfl ?_ (.inl (by kernel_rfl)) ?_
   rotate_left
   ·intro w hSw
    go_simp
    try (with_reducible rfl)
   (try simp only[Act.put,sq])
   refine tU (i:=10) (v:= ?_) rfl ?_ (.inl (by kernel_rfl)) ?_
   rotate_left
   ·intro w hSw
    go_simp
    try (with_reducible rfl)
   (try simp only[Act.put,sq])
   refine tU (i:=11) (v:= ?_) rfl ?_ (.inl (by kernel_rfl)) ?_
   rotate_left
   ·intro w hSw
    go_simp
    try (with_reducible rfl)
   (try simp only[Act.put,sq])
   refine tU (i:=12) (v:= ?_) rfl ?_ (.inl (by kernel_rfl)) ?_
   rotate_left
   ·intro w hSw
    go_simp
    try (with_reducible rfl)
   (try simp only[Act.put,sq])
   refine tU (i:=13) (v:= ?_) rfl ?_ (.inl (by kernel_rfl)) ?_
   rotate_left
   ·intro w hSw
    go_simp
    try (with_reducible rfl)
   (try simp only[Act.put,sq])
   refine wpAnyU_done (by kernel_rfl) ?_ _
   go_wp2_with fail
   go_meet
   exact⟨dv2,uv2,ds2,us2,k2,rfl,rfl,rfl,Q1.out,Q2.out,Q3.out,Q4.out⟩
  ·go_simp
   have hal:Below wd.heap.size wd (wd.alloc (.cells #[.string (byt nm)] 9)):=below1 _ _
   have R1:=bl R1 hal
   have HW1:=hid (HW0.out.trans (hal.mono HW0.out.size))
   have HNB:=hid (Box.new wd 9 #[.string (byt nm)])
   clear hal
   refine hK.out _ _ (.inr R1.out) (fun hHeld=> ?_)
   clear hK hHeld K
   (try simp only[Act.put,sq])
   refine rdU 2 rfl fun K hK=> ?_
   go_simp
   refine (HCL.out _ HW1.out).mono ?_
   rintro e w3 ⟨v',rfl,hv,hb⟩
   have HVB:Hid (∀i,v'.ownBlock=some i→w2.heap.size≤i):=hid (fun i e=>by have h1:=(hv.lt i e).1;have h2:=HW1.out.size;omega)
   have HOV:=hid (own_base hv HW1.out.size)
   have HBV:=hid (HW1.out.trans (hb.mono HW1.out.size))
   have R1:=bl R1 hb
   have HNB3:=bl HNB hb
   clear hv hb
   refine hK.out _ _ (.inr R1.out) (fun hHeld=> ?_)
   clear hK hHeld K
   (try simp only[Act.put,sq])
   refine rdU 5 rfl fun K hK=> ?_
   refine step_append_lies _ rfl (.tmp 25) (.tmp 27) 25 rfl w2.heap.size 9 i0 _ 1 16 Tryz.underlying25 hi0 hz0 hz1 hz2 rfl (by decide) v' known.length (ktx known) (by simp[Act.eval,Act.put]) HOV.out ⟨wd.heap.size,0,none⟩ 1 1 (ktx [nm]) (by simp[Act.eval,Act.put]) rfl (by exact World.news_of_block HNB3.out) h1.out (by omega) (by unfold maxLen;omega) (by omega) (by have:=HBV.out.size;omega) (w3).heap.size rfl ?_
   intro g8 cap8 w8 hown8 hgr8 hor8 hlt8
   have HO8:=hid hown8
   have hf8:=Fr.grown hgr8
   have HB8:Hid (Below w2.heap.size w2 w8):=hid (HBV.out.trans (hf8.out (fun i hi e=>by have:=HVB.out i e;omega) HBV.out.size))
   have R1:Hid (Box w8 w.heap.size 24 cs):=hid (hf8.box R1.out (fun e=>by have:=HVB.out _ e;have:=HSZ.out;omega))
   clear hown8 hgr8 hor8 hlt8 hf8
   refine hK.out _ _ (.inr R1.out) (fun hHeld=> ?_)
   clear hK hHeld K
   (try simp only[Act.put,sq])
   refine rdU 6 rfl fun K hK=> ?_
   go_simp
   refine (HNM.out w8 _ HB8.out HO8.out).mono ?_
   rintro e w9 ⟨dv2,uv2,ds2,us2,k2,rfl,q1,q2,q3,q4⟩
   have Q1:=hid q1
   have Q2:=hid q2
   have Q3:=hid q3
   have Q4:=hid q4
   clear q1 q2 q3 q4
   refine hK.out _ _ (.inl (by kernel_rfl)) (fun hHeld=> ?_)
   clear hK hHeld K
   (try simp only[Act.put,sq])
   refine tU (i:=7) (v:= ?_) rfl ?_ (.inl (by kernel_rfl)) ?_
   rotate_left
   ·intro w hSw
    go_simp
    try (with_reducible rfl)
   (try simp only[Act.put,sq])
   refine tU (i:=8) (v:= ?_) rfl ?_ (.inl (by kernel_rfl)) ?_
   rotate_left
   ·intro w hSw
    go_simp
    try (with_reducible rfl)
   (try simp only[Act.put,sq])
   refine tU (i:=9) (v:= ?_) rfl ?_ (.inl (by kernel_rfl)) ?_
   rotate_left
   ·intro w hSw
    go_simp
    try (with_reducible rfl)
   (try simp only[Act.put,sq])
   refine tU (i:=10) (v:= ?_) rfl ?_ (.inl (by kernel_rfl)) ?_
   rotate_left
   ·intro w hSw
    go_simp
    try (with_reducible rfl)
   (try simp only[Act.put,sq])
   refine tU (i:=11) (v:= ?_) rfl ?_ (.inl (by kernel_rfl)) ?_
   rotate_left
   ·intro w hSw
    go_simp
    try (with_reducible rfl)
   (try simp only[Act.put,sq])
   refine tU (i:=12) (v:= ?_) rfl ?_ (.inl (by kernel_rfl)) ?_
   rotate_left
   ·intro w hSw
    go_simp
    try (with_reducible rfl)
   (try simp only[Act.put,sq])
   refine tU (i:=13) (v:= ?_) rfl ?_ (.inl (by kernel_rfl)) ?_
   rotate_left
   ·intro w hSw
    go_simp
    try (with_reducible rfl)
   (try simp only[Act.put,sq])
   refine wpAnyU_done (by kernel_rfl) ?_ _
   go_wp2_with fail
   go_meet
   exact⟨dv2,uv2,ds2,us2,k2,rfl,rfl,rfl,Q1.out,Q2.out,Q3.out,Q4.out⟩
 case rest=>
  obtain⟨dv2,uv2,ds2,us2,k2,rfl,rfl,rfl,q1,q2,q3,q4⟩:=hcut
  have hb:=q4.out
  have HD2:=q1
  have HV2:=q2
  have HQ2:=q3
  replace HD:=hid (own_below HD.out hb)
  replace HV:=hid (own_below HV.out hb)
  replace HU:=hid (HU.out.trans (hb.mono HU.out.size))
  clear hb q1 q2 q3 q4 HN EB hi0 hz0 hz1 hz2 h1
  go_wp2_with fail
  refine (slives_true _ (HE.out.below HU.out hbig)).mono ?_
  rintro e w3 ⟨rfl,hb⟩
  replace HD:=hid (own_below HD.out hb)
  replace HV:=hid (own_below HV.out hb)
  replace HD2:=hid (own_below HD2.out hb)
  replace HV2:=hid (own_below HV2.out hb)
  replace HU:=hid (HU.out.trans (hb.mono HU.out.size))
  clear hb
  by_cases y0:k=0
  ·subst y0
   obtain⟨rfl,rfl,hne⟩:ds=(Scopy.names n known).decls∧us=(Scopy.names n known).uses∧(Scopy.names n known).e=0:=by
    rcases HQ.out with⟨h0,_,h1,h2⟩ | ⟨h,h2,_⟩
    ·exact⟨h1,h2,h0⟩
    ·exact absurd (Int.ofNat_eq_zero.1 h2.symm) h
   have HLAW:Hid (∀u∈(Scopy.names n known).uses, -1≤u.2∧u.2<((Scopy.names n known).decls.length:Int)∧(u.2= -1→u.1∈known)∧∀d,0≤u.2→(Scopy.names n known).decls[u.2.toNat]? =some d→d.name=u.1):=hid (Scopy.uses_law hne)
   have HMORE:Hid (known.length<100→k2=0∧ds2=(Scopy.names n known).decls∧us2=(Scopy.names n known).uses):=hid (by
    intro h
    have hm:=Scopy.more_law hne h nm
    rcases HQ2.out with⟨_,h1,h2,h3⟩ | ⟨h1,_⟩
    ·rw[hm] at h2 h3;exact⟨h1,h2,h3⟩
    ·rw[hm] at h1;exact absurd hne h1)
   have hll:=look_lens (n:=n) (known:=known) (dk:= -1) (nm:=[]) hsz
   rw[names_look] at hll
   obtain⟨ds,hds⟩:∃x,(Scopy.names n known).decls=x:=⟨_,rfl⟩
   obtain⟨us,hus⟩:∃x,(Scopy.names n known).uses=x:=⟨_,rfl⟩
   rw[hds] at HD HLAW HMORE hll
   rw[hus] at HV HLAW HMORE hll
   obtain⟨q,hq⟩:∃q,ds.length=q:=⟨_,rfl⟩
   obtain⟨p,hp⟩:∃p,us.length=p:=⟨_,rfl⟩
   rw[hq] at HD hll HLAW
   rw[hp] at HV hll
   obtain⟨Ad,capd,hdv⟩:=own_slice HD.out
   obtain⟨Au,capu,huv⟩:=own_slice HV.out
   subst hdv huv
   have HQL:=hid hq
   have HP:=hid hp
   obtain⟨hqb,hpb⟩:=hll
   clear hds hus hq hp hne HQ HQ2
   have z0:((0:Int) != 0)=false:=rfl
   go_upto_region 5 with fail
   refine gen_world (F:=fun W=>W=w3) rfl ?_
   rintro w5 rfl
   clear z0
   go_wp2_with fail
   go_loopg [52] p (fun gg s52 wr=>∃j:Nat,j≤p∧p - j≤gg∧s52= .int .i64 (j:Int)∧Hid (Below w5.heap.size w5 wr))
   case atStart=>exact⟨0,Nat.zero_le _,by omega,rfl,Below.refl _ w5⟩
   case round=>
    obtain⟨j,hj,hgg,rfl,BW⟩:=hrel
    by_cases hlt:j<p
    ·have hltz:(j:Int)<(p:Int):=by omega
     have hltd:decide ((j:Int)<(p:Int))=true:=decide_eq_true hltz
     obtain⟨x,hx⟩:∃x,us[j]? =some x:=⟨_,List.getElem?_eq_getElem (by rw[HP.out];exact hlt)⟩
     obtain⟨g,rfl,_,hg2,_,hcu⟩:=own_at uc_size (own_below HV.out BW.out) (by omega)
     have hran:Hid (wr.rangeAt g (j * 2) (uc x).toList):=hid fun i u hu=>hcu j x hx i u hu
     obtain⟨hl1,hl2,hl3,hl4⟩:=HLAW.out x (List.mem_of_getElem? hx)
     have HL3:=hid hl3
     have HL4:=hid hl4
     clear hx hcu hl3 hl4
     go_upto_region 8 with (first | (refine wpList_load_mid rfl 39 (.tmp 54) rfl g (j * 2) rfl (uc x).toList _ hran.out Tryz.underlying39 rfl info_ju ?_) | (refine wpList_store_box rfl 39 (.tmp 14) (.tmp 55) rfl wr.heap.size (uc x) rfl rfl 39 _ (Box.new wr _ _) info_ju rfl (uc_one _) ?_;intro w10 hx10 hu10 hz10;have HX10:=hid hx10;have HU10:=hid hu10;have HZ10:=hid hz10;clear hx10 hu10 hz10))
     have hb10:Below wr.heap.size wr w10:=(below1 wr _).trans (HU10.out.own (Nat.le_refl _) (by simp))
     have u0:w10.cell? ⟨wr.heap.size,0,none⟩=some (.string (byt x.1)):=HX10.out.cell 0
     have u1:w10.cell? ⟨wr.heap.size,1,none⟩=some (.int .i64 x.2):=HX10.out.cell 1
     have HB10:Hid (Below w5.heap.size w5 w10):=hid (BW.out.trans (hb10.mono BW.out.size))
     obtain⟨t,ht⟩:∃t,x.1=t:=⟨_,rfl⟩
     obtain⟨z,hz⟩:∃t,x.2=t:=⟨_,rfl⟩
     rw[ht] at u0 HL3 HL4
     rw[hz] at u1 HL3 HL4 hl1 hl2
     clear hb10 HX10 HU10 HZ10 BW hran ht hz
     have z1:decide (z< -1)=false:=decide_eq_false (by omega)
     have z2:decide ((q:Int)≤z)=false:=decide_eq_false (by omega)
     by_cases y1:z= -1
     ·have hin:known.contains t=true:=by rw[List.contains_iff_mem];exact HL3.out y1
      have HKN:Hid (∀n,Calls Tryz.prog 13 #[kv,.string (byt t)] (w10.drewN n) fun e w'=>e= .returned (.bool true)∧w'=w10.drewN n):=hid (fun n=>by rw[←hin];exact known_any (HKA.out _ (HU.out.trans ((below_drewN HB10.out n).mono HU.out.size))) t)
      have z3:(z== -1)=true:=by rw[y1];rfl
      have z4:decide ((0:Int)≤z)=false:=decide_eq_false (by omega)
      clear hin HL3 HL4 y1 hl1 hl2
      try simp only[Act.put,sq]
      go_quiet ((go_at_call 13;first | exact Calls.quiet_of_same (HKN.out _) | exact quiet_more_same (HKN.out _)))
      go_wp2_with fail
      go_roundg (p - (j+1))
      case measure=>omega
      case rel=>exact⟨j+1,by omega,by omega,by go_num,hid (below_drewN HB10.out nq)⟩
     ·obtain⟨i,rfl⟩:∃i:Nat,z=i:=⟨z.toNat,by omega⟩
      have hiq:i<q:=by omega
      obtain⟨d,hd⟩:∃d,ds[i]? =some d:=⟨_,List.getElem?_eq_getElem (by rw[HQL.out];exact hiq)⟩
      have hdn:=HL4.out d (by omega) (by rw[Int.toNat_natCast];exact hd)
      obtain⟨gd,rfl,_,hgd2,hqc,hcd⟩:=own_at dc_size (own_below HD.out HB10.out) (by omega)
      have c1:w10.cell? ⟨gd,i * 4+1,none⟩=some (.string (byt t)):=by rw[←hdn];exact hcd i d hd 1 _ rfl
      have z3:((i:Int)== -1)=false:=by simp
      have z4:decide ((0:Int)≤(i:Int))=true:=decide_eq_true (by omega)
      have z5:((byt t).toList != (byt t).toList)=false:=by simp
      have hiz:(i:Int)<(q:Int):=by omega
      clear hd hdn hcd HL3 HL4 y1
      try simp only[Act.put,sq]
      go_quiet (fail)
      go_wp2_with fail
      go_roundg (p - (j+1))
      case measure=>omega
      case rel=>exact⟨j+1,by omega,by omega,by go_num,hid (below_drewN HB10.out nq)⟩
    ·have hltz:¬(j:Int)<(p:Int):=by omega
     have hltd:decide ((j:Int)<(p:Int))=false:=decide_eq_false hltz
     obtain rfl:j=p:=by omega
     clear hltz hltd hlt hgg hj
     obtain⟨kn,hkn⟩:∃m,known.length=m:=⟨_,rfl⟩
     have HKN:=hid hkn
     obtain⟨Ak,capk,hkv,hk1,hk2,_⟩:=HKA.out _ HU.out
     rw[hkn] at hkv hk1
     subst hkv
     rw[hkn] at HMORE
     replace HU:=hid (HU.out.trans (BW.out.mono HU.out.size))
     have HD3:Hid (RdL wr 4 dc ds (.slice Ad q capd)):=hid (by have:=Rd.own (own_below HD.out BW.out);unfold RdL;rw[HQL.out];exact this)
     have HV3:Hid (RdL wr 2 uc us (.slice Au j capu)):=hid (by have:=Rd.own (own_below HV.out BW.out);unfold RdL;rw[HP.out];exact this)
     have HD4:Hid (RdL wr 4 dc ds2 _):=hid (Rd.own (own_below HD2.out BW.out))
     have HV4:Hid (RdL wr 2 uc us2 _):=hid (Rd.own (own_below HV2.out BW.out))
     clear hkn HD HV HD2 HV2 BW
     by_cases h100:100≤kn
     ·have z1:decide ((100:Int)≤(kn:Int))=true:=decide_eq_true (by omega)
      clear HMORE HD3 HV3 HD4 HV4
      go_wp2_with fail
      go_ret
      exact⟨rfl,HU.out⟩
     ·have z1:decide ((100:Int)≤(kn:Int))=false:=decide_eq_false (by omega)
      obtain⟨e1,e2,e3⟩:=HMORE.out (by omega)
      rw[e2] at HD4
      rw[e3] at HV4
      have z2:(k2==0)=true:=by rw[e1];rfl
      clear HMORE e1 e2 e3
      go_wp2_with fail
      refine (equal_jd ds ds _ _ _ HD3.out HD4.out (by rw[HQL.out];exact hqb) (by rw[HQL.out];exact hqb)).mono ?_
      rintro e w6 ⟨rfl,hb⟩
      have z3:decide (ds=ds)=true:=decide_eq_true rfl
      rw[z3]
      replace HU:=hid (HU.out.trans (hb.mono HU.out.size))
      have HV5:=hid (HV3.out.below hb)
      have HV6:=hid (HV4.out.below hb)
      clear hb z3
      go_wp2_with fail
      refine (equal_ju us us _ _ _ HV5.out HV6.out (by rw[HP.out];exact hpb) (by rw[HP.out];exact hpb)).mono ?_
      rintro e w7 ⟨rfl,hb⟩
      have z3:decide (us=us)=true:=decide_eq_true rfl
      rw[z3]
      replace HU:=hid (HU.out.trans (hb.mono HU.out.size))
      clear hb z3
      go_wp2_with fail
      go_ret
      exact⟨rfl,HU.out⟩
  ·have z0:(k != 0)=true:=by simp[y0]
   obtain⟨rfl,rfl⟩:ds=[]∧us=[]:=by
    rcases HQ.out with⟨_,h,_⟩ | ⟨_,_,h1,h2⟩
    ·exact absurd h y0
    ·exact⟨h1,h2⟩
   obtain⟨Ad,capd,hdv⟩:=own_slice HD.out
   obtain⟨Au,capu,huv⟩:=own_slice HV.out
   subst hdv huv
   clear y0
   go_wp2_with fail
   refine (slives_true _ (HE.out.below HU.out hbig)).mono ?_
   rintro e w4 ⟨rfl,hb⟩
   replace HU:=hid (HU.out.trans (hb.mono HU.out.size))
   go_wp2
   go_ret
   exact⟨rfl,HU.out⟩
end Go.Proofs.YtflmjbmdmoifhaaGreatDoor
namespace Go.Proofs.YtflmjbmdmoifhaaGreatDoor
open Go.Lib (hid)
open Go.RowKit Go.ChangeShapes Go.WideShapes Go.Joins Go.Deep
instance:Inhabited Pars.Node:=⟨.mk 0 0 [] []⟩
theorem flatA_get:∀(css:List (Array Value)),(∀c∈css,c.size=4)→∀(j:Nat) (u:Value),(flatA css)[j]? =some u→∃c,css[j / 4]? =some c∧c.toList[j % 4]? =some u
 | [],_,j,u,h=>by simp[flatA] at h
 | c :: css,hs,j,u,h=>by
  have hc:c.toList.length=4:=by rw[Array.length_toList];exact hs c (by simp)
  have e:flatA (c :: css)=c.toList++flatA css:=by simp[flatA]
  rw[e] at h
  by_cases hj:j<4
  ·rw[List.getElem?_append_left (by omega)] at h
   refine⟨c,?_,?_⟩
   ·rw[show j / 4=0 by omega];rfl
   ·rw[show j % 4=j by omega];exact h
  ·rw[List.getElem?_append_right (by omega),hc] at h
   obtain⟨d,h1,h2⟩:=flatA_get css (fun c hc=>hs c (by simp[hc])) (j - 4) u h
   refine⟨d,?_,?_⟩
   ·rw[show j / 4=(j - 4) / 4+1 by omega];exact h1
   ·rw[show j % 4=(j - 4) % 4 by omega];exact h2
theorem nodesAt_map {w:World} {S:Nat→Prop} {K:Nat→Pars.Node} {C:Nat→Array Value}:∀L:List Nat,(∀i∈L,NodeAt w S (K i) (C i))→NodesAt w S (L.map K) (L.map C)
 | [],_=>by simp only[List.map_nil];unfold NodesAt;trivial
 | i :: L,h=>by simp only[List.map_cons];unfold NodesAt;exact⟨h i (by simp),nodesAt_map L fun j hj=>h j (by simp[hj])⟩
theorem wgs_map {H:Type} {K:Nat→Pars.Node} {D:Nat→DataW H}:∀L:List Nat,(∀i∈L,Wri.wg (K i)≤Rows.uptoBulk (D i))→Wri.wgs (L.map K)≤Rows.uptoBulkAll (L.map D)
 | [],_=>by simp[Wri.wgs]
 | i :: L,h=>by
  have h1:=h i (by simp)
  have h2:=wgs_map L fun j hj=>h j (by simp[hj])
  simp only[List.map_cons,Wri.wgs,Rows.uptoBulkAll]
  omega
theorem c4_nod:Tryz.prog.cellsOf 24=4:=by kernel_rfl
theorem c1_int:Tryz.prog.cellsOf 3=1:=by kernel_rfl
theorem c1_str:Tryz.prog.cellsOf 9=1:=by kernel_rfl
theorem c1_row:Tryz.prog.cellsOf 22=1:=by kernel_rfl
section
variable {H : Type} {enc : TypeId × Value → H} {w : World} {base : Nat} {spare : Nat → Bool} {held : Bool}
set_option maxRecDepth 100000 in
theorem open_node:∀(fuel:Nat) {cs:List Value} {x:DataW H×List MemPlace},DataW.trod enc Tryz.prog w base spare held fuel 24 cs=some x→∃(n:Pars.Node) (ca:Array Value),cs=ca.toList∧NodeAt w (fun _=>True) n ca∧Wri.wg n≤Rows.uptoBulk x.1:=by
 intro fuel
 induction fuel using Nat.strongRecOn with
 | _ fuel ih=>
 intro cs x h
 obtain⟨xs,m,hm,hxx,hl,hx,hf⟩:=DataW.trod_struct Tryz.underlying24 h
 rw[c4_nod] at hl
 match cs,hl with
 | [c0,c1,c2,c3],_=>
  match xs,hx with
  | [y0,y1,y2,y3],_=>
   have f0:DataW.trod enc Tryz.prog w base spare held m 3 [c0]=some y0:=by have:=hf 0 _ rfl;simpa [c1_int] using this
   have f1:DataW.trod enc Tryz.prog w base spare held m 3 [c1]=some y1:=by have:=hf 1 _ rfl;simpa [c1_int] using this
   have f2:DataW.trod enc Tryz.prog w base spare held m 9 [c2]=some y2:=by have:=hf 2 _ rfl;simpa [c1_str] using this
   have f3:DataW.trod enc Tryz.prog w base spare held m 22 [c3]=some y3:=by have:=hf 3 _ rfl;simpa [c1_row] using this
   obtain⟨a0,e0,d0,_⟩:=DataW.trod_int Tryz.underlying3 f0
   obtain⟨a1,e1,d1,_⟩:=DataW.trod_int Tryz.underlying3 f1
   obtain⟨s2,e2,d2,_⟩:=DataW.trod_string Tryz.underlying9 f2
   obtain⟨a2,rfl⟩:=byt_of s2
   simp at e0 e1 e2
   subst e0 e1 e2
   subst hxx d0 d1 d2
   rcases DataW.trod_slice Tryz.underlying22 f3 with⟨e3,hy3⟩ | ⟨a,len,cap,elems,rest,m2,hm2,e3,hy3,_,hlc,hcap,hel,hi,_,_⟩
   ·simp at e3
    subst e3 hy3
    refine⟨.mk a0 a1 a2 [],nc a0 a1 a2 (.slice none 0 0),rfl,NodeAt.leaf _ _ _ _ _,?_⟩
    simp[Wri.wg,Wri.wgs,Rows.uptoBulk,Rows.uptoBulkAll,byt]
    omega
   ·simp at e3
    subst e3
    rw[c4_nod] at hi
    have key:∀i,i<len→∃p:Pars.Node×Array Value,w.cells? base (a.add (i * 4)) 4=some p.2.toList∧NodeAt w (fun _=>True) p.1 p.2∧Wri.wg p.1≤Rows.uptoBulk ((elems.getD i (.nil,[])).1):=by
     intro i hil
     have hii:=hi i hil
     rw[List.getElem?_eq_getElem (by omega)] at hii
     obtain⟨cs',h1,h2⟩:=Option.bind_eq_some_iff.1 hii
     obtain⟨k,ck,rfl,hk,hwk⟩:=ih m2 (by omega) h2
     refine⟨(k,ck),h1,hk,?_⟩
     simpa [List.getD,List.getElem?_eq_getElem (show i<elems.length by omega)] using hwk
    obtain⟨F,hF⟩:=choose_lt (α:=Pars.Node×Array Value) (n:=len) key
    have hcell:∀i,i<len→∀j,j<4→w.cell? (a.add (i * 4+j))=(F i).2.toList[j]? :=by
     intro i hil j hj
     obtain⟨_,_,h3⟩:=World.cells?_some (hF i hil).1
     rw[←add_add]
     exact h3 j hj
    have hlen:((List.range len).map fun i=>(F i).1).length=len:=by simp
    have hnn:NodesAt w (fun _=>True) ((List.range len).map fun i=>(F i).1) ((List.range len).map fun i=>(F i).2):=nodesAt_map _ fun i hi2=>(hF i (List.mem_range.1 hi2)).2.1
    refine⟨.mk a0 a1 a2 ((List.range len).map fun i=>(F i).1),nc a0 a1 a2 (.slice (some a) len cap),rfl,?_,?_⟩
    ·unfold NodeAt
     refine⟨some a,cap,_,by rw[hlen],by rw[hlen];exact hlc,by unfold maxLen at hcap;omega,fun hn=> ?_,hnn⟩
     rw[hlen] at hn
     have hsz:∀i,i<len→(F i).2.size=4:=fun i hil=>NodeAt.size (hF i hil).2.1
     have h0:=hcell 0 hn 0 (by omega)
     have h0l:0<(F 0).2.toList.length:=by rw[Array.length_toList,hsz 0 hn];omega
     rw[List.getElem?_eq_getElem h0l,show a.add (0 * 4+0)=a by simp[Addr.add]] at h0
     obtain⟨g,o,sp⟩:=a
     have hsp:sp=none:=World.cell?_spot h0
     subst hsp
     have hadd:∀n,Addr.add ⟨g,o,none⟩ n=⟨g,o+n,none⟩:=by intro n;unfold Addr.add;split<;>simp_all
     refine⟨g,o,rfl,trivial,?_,?_⟩
     ·have:w.cell? ⟨g,o,none⟩≠none:=by rw[h0];simp
      by_cases hg:g<w.heap.size
      ·exact hg
      ·exfalso;apply this;simp[World.cell?,Array.getElem?_eq_none (Nat.le_of_not_lt hg)]
     ·intro j u hu
      obtain⟨c,h1,h2⟩:=flatA_get _ (fun c hc=>by
       obtain⟨i,hi2,rfl⟩:=List.mem_map.1 hc
       exact hsz i (List.mem_range.1 hi2)) j u hu
      have hjl:j / 4<len:=by
       have:=(List.getElem?_eq_some_iff.1 h1).1
       simpa using this
      have hc:c=(F (j / 4)).2:=by
       have h3:((List.range len).map fun i=>(F i).2)[j / 4]? =some ((F (j / 4)).2):=by simp[hjl]
       rw[h3] at h1
       injection h1 with h1
       exact h1.symm
      subst hc
      have h4:=hcell (j / 4) hjl (j % 4) (Nat.mod_lt _ (by omega))
      rw[show j / 4 * 4+j % 4=j by omega,hadd,h2] at h4
      exact h4
    ·have hw:=wgs_map (K:=fun i=>(F i).1) (D:=fun i=>(elems.getD i (.nil,[])).1) (List.range len) fun i hi2=>(hF i (List.mem_range.1 hi2)).2.2
     have he:(List.range len).map (fun i=>(elems.getD i (.nil,[])).1)=elems.map (·.1):=by rw[map_by_index elems (.nil,[]) (·.1),hel]
     rw[he] at hw
     subst hy3
     simp only[Wri.wg,List.map_cons,List.map_nil,Rows.uptoBulk,Rows.uptoBulkAll,byt]
     simp
     omega
variable {r : Reach} {b0 : Nat} {v : Value} {d : DataW H} {p : List MemPlace}
set_option maxRecDepth 100000 in
theorem open_tree (hv:Value.okWide Tryz.prog w r b0 24 v) (h:DataW.Trod enc Tryz.prog w base spare held 24 v d p):∃(n:Pars.Node) (ca:Array Value),v= .agg ca∧NodeAt w (fun _=>True) n ca∧Wri.wg n≤Rows.uptoBulk d:=by
 obtain⟨cs,rfl,_⟩:=okWide_struct Tryz.underlying24 hv
 obtain⟨fuel,hf⟩:=h
 obtain⟨n,ca,e,hn,hw⟩:=open_node fuel hf
 exact⟨n,ca,congrArg Value.agg (Array.toList_inj.1 e),hn,hw⟩
end
end Go.Proofs.YtflmjbmdmoifhaaGreatDoor
namespace Go.Proofs.YtflmjbmdmoifhaaGreatDoor
open Go.Lib (hid)
open Go.RowKit Go.ChangeShapes Go.WideShapes Go.Joins Go.Deep
theorem bulk_lits {H:Type} {f:Nat→DataW H}:∀L:List Nat,L.length≤Rows.uptoBulkAll (L.map f)
 | []=>by simp
 | i :: L=>by
  have h2:=bulk_lits (f:=f) L
  have h1:1≤Rows.uptoBulk (f i):=by
   generalize f i=d
   unfold Rows.uptoBulk
   split<;>omega
  simp only[List.map_cons,List.length_cons,Rows.uptoBulkAll]
  omega
section
variable {H : Type} {enc : TypeId × Value → H} {w : World} {base : Nat} {spare : Nat → Bool} {held : Bool} {r : Reach} {b0 : Nat} {v : Value} {d : DataW H} {p : List MemPlace}
set_option maxRecDepth 100000 in
theorem open_known (hv:Value.okWide Tryz.prog w r b0 25 v) (h:DataW.Trod enc Tryz.prog w base spare held 25 v d p):∃known:List (List UInt8),KnAt w w.heap.size known v∧known.length≤Rows.uptoBulk d:=by
 obtain⟨fuel,hf⟩:=h
 obtain⟨A0,l0,c0,rfl⟩:=okWide_slice Tryz.underlying25 hv
 have hc:∀A l c,(Value.slice A0 l0 c0).cells.toList=[.slice A l c]→Value.slice A0 l0 c0= .slice A l c:=by
  intro A l c he
  simpa [Value.cells] using he
 rcases open_strs Tryz.underlying25 Tryz.underlying9 c1_str hf with⟨e,hx⟩ | ⟨a,len,cap,m,Sx,e,_,hl,hm,hmm,hx,hi⟩
 ·rw[hc _ _ _ e]
  exact⟨[],⟨none,0,rfl,Nat.le_refl _,by decide,fun h=>absurd h (by decide)⟩,Nat.zero_le _⟩
 ·have hlm:len≤m:=by rw[hmm];split<;>omega
  rw[hc _ _ _ e]
  have hlen:((List.range len).map fun i=>(Sx i).data.toList).length=len:=by simp
  refine⟨(List.range len).map fun i=>(Sx i).data.toList,⟨some a,cap,by rw[hlen],by rw[hlen];exact hl,by unfold maxLen at hm;omega,fun hn=> ?_⟩,?_⟩
  ·rw[hlen] at hn
   have h0:=(hi 0 (by omega)).1
   have ha0:a.add 0=a:=by simp[Addr.add]
   rw[ha0] at h0
   obtain⟨g,o,sp⟩:=a
   have hsp:sp=none:=World.cell?_spot h0
   subst hsp
   have hadd:∀n,Addr.add ⟨g,o,none⟩ n=⟨g,o+n,none⟩:=by intro n;unfold Addr.add;split<;>simp_all
   have hg:g<w.heap.size:=by
    have:w.cell? ⟨g,o,none⟩≠none:=by rw[h0];simp
    by_cases hg:g<w.heap.size
    ·exact hg
    ·exfalso;apply this;simp[World.cell?,Array.getElem?_eq_none (Nat.le_of_not_lt hg)]
   refine⟨g,o,rfl,hg,hg,fun j hj=> ?_⟩
   rw[hlen] at hj
   have h1:=(hi j (by omega)).1
   rw[hadd] at h1
   rw[h1]
   simp[List.getD,hj,byt]
  ·rw[hlen]
   have hd:d=_:=congrArg Prod.fst hx
   rw[hd]
   have:=bulk_lits (H:=H) (f:=fun i=> .lit (.string (Sx i).data.toList)) (List.range len)
   simp only[List.length_range] at this
   simp only[Rows.uptoBulk]
   omega
end
end Go.Proofs.YtflmjbmdmoifhaaGreatDoor
namespace Go.Proofs.YtflmjbmdmoifhaaGreatDoor
open Go.Lib (hid)
open Go.RowKit
def laidList:List (String×DataW Unit):=[("math/bits.deBruijn32tab",Rows.laid_math_bits_deBruijn32tab),("math/bits.deBruijn64tab",Rows.laid_math_bits_deBruijn64tab),("internal/strconv.uint64pow10",Rows.laid_internal_strconv_uint64pow10),("unicode.White_Space",Rows.laid_unicode_White_Space),("strings.asciiSpace",Rows.laid_strings_asciiSpace)]
theorem gTypePow:(Tryz.prog.globals[3]?).map (·.type)=some 186:=by kernel_rfl
theorem tabCellsPow:Tryz.prog.cellsOf 186=20:=by kernel_rfl
theorem wordCellsPow:Tryz.prog.cellsOf 173=1:=by kernel_rfl
theorem pow_data:(Rows.laid_internal_strconv_uint64pow10:DataW Unit)=Lib.tabData .u64 Lib.pow10Tab:=by kernel_rfl
theorem gTypeSpace:(Tryz.prog.globals[0]?).map (·.type)=some 134:=by kernel_rfl
theorem tabCellsSpace:Tryz.prog.cellsOf 134=256:=by kernel_rfl
theorem byteCells1:Tryz.prog.cellsOf 5=1:=by kernel_rfl
theorem space_data:(Rows.laid_strings_asciiSpace:DataW Unit)=Lib.tabData .u8 Lib.asciiSpaceTab:=by kernel_rfl
theorem heap7 {W:World} (h:W.ShapedOpen Tryz.prog):7≤W.heap.size:=by
 have hs:(((begin Tryz.prog (fun _ _=>0) default).world.heap[6]?).bind Obj.row?).isSome=true:=by kernel_rfl
 obtain⟨⟨z,t⟩,hz⟩:=Option.isSome_iff_exists.1 hs
 have hg:6<Tryz.prog.globals.size:=of_decide_eq_true (by kernel_rfl)
 obtain⟨cs,hc,_⟩:=h.1 6 z t hg hz
 have:=(Array.getElem?_eq_some_iff.1 hc).1
 omega
theorem env_of {W:World} (h:laidMet Tryz.prog laidList W) (hs:W.ShapedOpen Tryz.prog):EnvW W:=by
 have h2:=h
 unfold laidList at h2
 rw[pow_data,space_data] at h2
 refine⟨?_,?_,?_,heap7 hs⟩
 ·exact Lib.tabIs_of_head (rest:=[]) Jl.gSpace gTypeSpace Tryz.underlying134 Tryz.underlying5 byteCells1 tabCellsSpace h2.tail.tail.tail.tail
 ·exact Lib.tabIs_of_head gPow gTypePow Tryz.underlying186 Tryz.underlying173 wordCellsPow tabCellsPow h2.tail.tail
 ·exact cell_of_shapedOpen_int (zero:= #[.int .i64 0]) (t:=3) hs (of_decide_eq_true (by kernel_rfl)) (by kernel_rfl) rfl (by kernel_rfl) (by kernel_rfl) Tryz.underlying3
end Go.Proofs.YtflmjbmdmoifhaaGreatDoor

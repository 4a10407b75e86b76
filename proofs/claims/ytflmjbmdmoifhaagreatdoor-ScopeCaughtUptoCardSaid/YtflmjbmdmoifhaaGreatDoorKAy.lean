/-
  Texts that the law leans on: ScC, ScF, Seen, SlC. Conditions: as each says.
-/
import Derived.Test.YtflmjbmdmoifhaaGreatDoorKAb
import Derived.Test.YtflmjbmdmoifhaaGreatDoorKAc
import Derived.Maps.OwnOps
import Derived.Maps.Views
import Derived.Test.YtflmjbmdmoifhaaGreatDoorKAu
import Derived.Test.YtflmjbmdmoifhaaGreatDoorKAa
set_option linter.unusedSimpArgs false
set_option linter.unusedVariables false
namespace Scopy
open Pars (Node Bs)
theorem caughts (known:List Bs) (dk:Int) (nm:Bs):Keeps (hs known dk nm) (fun _=>True) Caughts (fun s=>1≤s.top.deep) where
 push _ _ _:=trivial
 pop _ _:=trivial
 decl _ _ _ _:=trivial
 use _ _ _:=trivial
 pushI d s _ i:=⟨i.used,i.param⟩
 pushP s:=by show 1≤s.top.deep+1;omega
 popI s _ i:=⟨i.used,i.param⟩
 declI k t s _ i p:=by
  rcases decl_cases (known:=known) (dk:=dk) (nm:=nm) k t s with⟨_,e⟩ | ⟨_,_,e⟩ | ⟨_,hn,e⟩
  ·rw[e];exact i
  ·rw[e];exact⟨i.used,i.param⟩
  ·rw[e]
   have h:∀(j:Nat) (d:Decl),(s.decls++[⟨k,t,s.top.deep,false⟩])[j]? =some d→s.decls[j]? =some d∨d=⟨k,t,s.top.deep,false⟩:=fun j d h=>by
    by_cases hj:j<s.decls.length
    ·rw[List.getElem?_append_left hj] at h;exact .inl h
    ·rw[List.getElem?_append_right (by omega)] at h
     cases hj2:j - s.decls.length with
     | zero=>rw[hj2] at h;simp at h;exact .inr h.symm
     | succ m=>rw[hj2] at h;simp at h
   refine⟨fun j d hd hc=> ?_,fun j d hd hk=> ?_⟩
   ·rcases h j d hd with h | rfl
    ·exact i.used j d h hc
    ·cases hc
   ·rcases h j d hd with h | rfl
    ·exact i.param j d h hk
    ·exact p hk
 declP k t s p:=by
  rcases decl_cases (known:=known) (dk:=dk) (nm:=nm) k t s with⟨_,e⟩ | ⟨_,_,e⟩ | ⟨_,hn,e⟩<;>rw[e]<;>exact p
 useI t s _ i:=by
  rcases use_cases (known:=known) (dk:=dk) (nm:=nm) t s with⟨_,e⟩ | ⟨_,k,hf,e⟩ | ⟨_,hf,hc,e⟩ | ⟨_,_,_,e⟩
  ·rw[e];exact i
  ·rw[e]
   refine⟨fun j d hd hc=> ?_,fun j d hd hk=> ?_⟩
   ·have hd:(mark s.decls k s.top.deep)[j]? =some d:=hd
    rw[mark_get] at hd
    by_cases hj:k=j
    ·subst hj
     exact⟨(t,(k:Int)),by simp,rfl⟩
    ·simp only[if_neg hj] at hd
     obtain⟨u,h1,h2⟩:=i.used j d (by simpa using hd) hc
     exact⟨u,by simp[h1],h2⟩
   ·have hd:(mark s.decls k s.top.deep)[j]? =some d:=hd
    rw[mark_get,Option.map_eq_some_iff] at hd
    obtain⟨x,h1,h2⟩:=hd
    have h3:x.kind=d.kind∧x.deep=d.deep:=by rw[←h2];split<;>exact⟨rfl,rfl⟩
    rw[←h3.2]
    exact i.param j x h1 (h3.1.trans hk)
  ·rw[e]
   refine⟨fun j d hd hc=> ?_,i.param⟩
   obtain⟨u,h1,h2⟩:=i.used j d hd hc
   exact⟨u,by simp[h1],h2⟩
  ·rw[e];exact⟨i.used,i.param⟩
end Scopy
namespace Scopy
open Pars (Node Bs)
theorem names_tells {n:Node} {known:List Bs} (h:(names n known).e=0):Tells known (names n known):=by
 obtain⟨_,_,h3⟩:=names_ok h
 unfold names
 rw[h3]
 exact tr_inv (tells known (-1) []) _ n start trivial (start_tells known)
theorem uses_law {n:Node} {known:List Bs} (h:(names n known).e=0) (u:Bs×Int) (hu:u∈(names n known).uses): -1≤u.2∧u.2<((names n known).decls.length:Int)∧(u.2= -1→u.1∈known)∧∀d,0≤u.2→(names n known).decls[u.2.toNat]? =some d→d.name=u.1:=by
 rcases (names_tells h).use u hu with⟨h1,h2⟩ | ⟨k,d,h1,h2,h3⟩
 ·exact⟨by omega,by omega,fun _=>h2,fun d hd=>by omega⟩
 ·have:=(List.getElem?_eq_some_iff.1 h2).1
  refine⟨by omega,by omega,fun e=>by omega,fun d2 _ hd=> ?_⟩
  rw[h1] at hd
  have hd:(names n known).decls[k]? =some d2:=by simpa using hd
  rw[h2] at hd
  injection hd with hd
  subst hd
  exact h3
theorem caught_law {n:Node} {known:List Bs} (h:(names n known).e=0) (k:Nat) (d:Decl) (hd:(names n known).decls[k]? =some d):(d.caught=true→∃u∈(names n known).uses,u.2=(k:Int))∧(d.kind=10→1≤d.deep):=by
 obtain⟨_,_,h3⟩:=names_ok h
 have i:Caughts (names n known):=by
  unfold names
  rw[h3]
  exact tr_inv (caughts known (-1) []) _ n start trivial ⟨fun k d hd=>by simp[start] at hd,fun k d hd=>by simp[start] at hd⟩
 exact⟨i.used k d hd,i.param k d hd⟩
end Scopy
namespace Seeny
open Go Go.Maps
def seen (l:List Int):DataW Unit:=setOf (.lit (.int .i64 1)) (l.map (Lit.int .i64))
theorem seen_keys (l:List Int):∀x∈l.map (Lit.int .i64),WideAt.IsKeyLit x:=by
 intro x hx
 obtain⟨n,_,rfl⟩:=List.mem_map.1 hx
 trivial
theorem seen_map (l:List Int):IsMap (seen l):=(tidy_setOf _ _ (seen_keys l)).isMap
theorem seen_snoc (l:List Int) (n:Int):seen (l++[n])=(seen l).put (.int .i64 n) (.lit (.int .i64 1)):=by
 unfold seen
 rw[List.map_append,List.map_cons,List.map_nil,setOf_snoc]
theorem atKey_seen (n:Int) (z:DataW Unit):∀l:List Int,(seen l.reverse).atKey (.int .i64 n) z=if l.contains n then .lit (.int .i64 1) else z
 | []=>rfl
 | m :: l=>by
  rw[List.reverse_cons,seen_snoc]
  by_cases h:n=m
  ·subst h
   rw[atKey_put_same (k:= .int .i64 n) (seen_map l.reverse) trivial]
   simp
  ·rw[atKey_put_other (by intro e;injection e with _ e;exact h e),atKey_seen n z l]
   have:(m :: l).contains n=l.contains n:=by simp[h]
   rw[this]
end Seeny
namespace Go.Proofs.YtflmjbmdmoifhaaGreatDoor
open Go.Lib (hid)
open Go.RowKit Go.Maps
theorem intKey:Keyed Tryz.prog 3:=int_keyed Tryz.underlying3
theorem zero_intv (w:World):(zeroValue 3).run Tryz.prog w= .ok (.int .i64 0) w:=by kernel_rfl
end Go.Proofs.YtflmjbmdmoifhaaGreatDoor
namespace Go.Proofs.YtflmjbmdmoifhaaGreatDoor
open Go.Lib (hid)
open Go.RowKit Go.Maps
theorem smap_kept {w w1:World} {m k:Nat} {d:DataW Unit} {row:Option Nat} (h:w.ownsMap Tryz.prog 3 (plainElem (H:=Unit) Tryz.prog 3) m k d) (hg:w.grownBy w1 row) (hr:some m≠row):w1.ownsMap Tryz.prog 3 (plainElem (H:=Unit) Tryz.prog 3) m k d:=h.kept hg hr
theorem smap_below {w w1:World} {m k:Nat} {d:DataW Unit} (h:w.ownsMap Tryz.prog 3 (plainElem (H:=Unit) Tryz.prog 3) m k d) (hb:Below w.heap.size w w1):w1.ownsMap Tryz.prog 3 (plainElem (H:=Unit) Tryz.prog 3) m k d:=
 smap_kept (row:=none) h ⟨hb.os,hb.tape,hb.output,hb.size,fun i hi _=>hb.block i hi⟩ (by simp)
set_option maxRecDepth 100000 in
theorem slook_seen {w:World} {m k:Nat} {gone:List Int} {n:Int} (h:w.ownsMap Tryz.prog 3 (plainElem (H:=Unit) Tryz.prog 3) m k (Seeny.seen gone)) (hw:(Lit.int .i64 n).wf=true):
  (Instr.lookup 47 (.map (some m)) (.int .i64 n) false).run Tryz.prog w= .ok (.int .i64 (if gone.contains n then 1 else 0)) w:=by
 have hkey:=keyOf_int_mk (P:=Tryz.prog) Tryz.underlying3 hw
 obtain⟨c,hrun,hat,_⟩:=h.lookup_int (t:=47) intKey Tryz.underlying47 Tryz.underlying3 (zero_intv _) hkey
 have ha:=Seeny.atKey_seen n (.lit (.int .i64 0)) gone.reverse
 rw[List.reverse_reverse,hat] at ha
 have hcr:gone.reverse.contains n=gone.contains n:=by simp
 rw[hcr] at ha
 rw[hrun]
 by_cases hc:gone.contains n=true
 ·rw[if_pos hc] at ha ⊢;injection ha with ha;injection ha with _ ha;rw[ha]
 ·rw[if_neg hc] at ha ⊢;injection ha with ha;injection ha with _ ha;rw[ha]
theorem swf {n:Int} (h1: -1≤n) (h2:n≤4000000):(Lit.int .i64 n).wf=true:=WalkArith.wf_i64 (by omega)
set_option maxRecDepth 100000 in
set_option maxHeartbeats 8000000 in
theorem scaught_true {w:World} {n:Pars.Node} {cs:Array Value} {S:Nat→Prop} {kv:Value} {known:List (List UInt8)} (he:EnvW w) (hn:NodeAt w S n cs) (hw:Wri.wg n≤1048576) (hk:KnAt w w.heap.size known kv):
  Calls Tryz.prog 6 #[.agg cs,kv] w (TruthOut w):=by
 have hsz:Pars.size n≤1048576:=Nat.le_trans (size_wg n) hw
 have HE:=hid he
 have HN:=hid (hn.weak (S1:=fun _=>True) (fun _ _=>trivial))
 have HKA:Hid (∀W,Below w.heap.size w W→KnAt W W.heap.size known kv):=hid (fun W hW=>(hk.fr (Fr.below hW (fun _=>False)) (fun _ _ h=>h)).low fun g _ h=>h)
 have h4:=NodeAt.size hn
 have HINF:Hid ((Tryz.prog.info? 24).map (·.size)=some cs.size):=hid (by rw[h4];exact info_nod)
 have hbig:=he.big
 clear he hn hk h4
 go_enter Tryz.func6,Tryz.ntmps6
 go_upto_region 1 with fail
 refine gen_world (F:=fun W=>Box W w.heap.size 24 cs∧Below w.heap.size w W) ⟨Box.new w _ _,below1 w _⟩ ?_
 rintro w1 ⟨b0,hU⟩
 have HU:=hid hU
 have EB:=hid b0
 replace HN:=hid (HN.out.below hU)
 have eb:=b0
 clear b0 hU
 go_wp2_with (refine wpList_load_row rfl 24 (.tmp 2) rfl w.heap.size rfl _ cs (0,0) _ eb Tryz.underlying24 rfl HINF.out ?_)
 refine (names_any (HE.out.below HU.out hbig) HN.out hsz (by omega) (HKA.out _ HU.out)).mono ?_
 rintro e w2 ⟨dv,uv,ds,us,k,rfl,hd,hv,hq,hb⟩
 have HD:=hid hd
 have HV:=hid hv
 have HQ:=hid hq
 replace HN:=hid (HN.out.below hb)
 replace EB:=bl EB hb
 replace HU:=hid (HU.out.trans (hb.mono HU.out.size))
 clear hd hv hq hb eb
 go_wp2_with fail
 refine (slives_true _ (HE.out.below HU.out hbig)).mono ?_
 rintro e w3 ⟨rfl,hb⟩
 replace HD:=hid (own_below HD.out hb)
 replace HV:=hid (own_below HV.out hb)
 replace HU:=hid (HU.out.trans (hb.mono HU.out.size))
 clear hb HN EB
 by_cases y0:k=0
 ·subst y0
  obtain⟨rfl,rfl,hne⟩:ds=(Scopy.names n known).decls∧us=(Scopy.names n known).uses∧(Scopy.names n known).e=0:=by
   rcases HQ.out with⟨h0,_,h1,h2⟩ | ⟨h,h2,_⟩
   ·exact⟨h1,h2,h0⟩
   ·exact absurd (Int.ofNat_eq_zero.1 h2.symm) h
  have HLAW:Hid (∀(k:Nat) (d:Scopy.Decl),(Scopy.names n known).decls[k]? =some d→(d.caught=true→∃u∈(Scopy.names n known).uses,u.2=(k:Int))∧(d.kind=10→1≤d.deep)):=hid (Scopy.caught_law hne)
  have hll:=look_lens (n:=n) (known:=known) (dk:= -1) (nm:=[]) hsz
  rw[names_look] at hll
  have HUSE:Hid (∀u∈(Scopy.names n known).uses, -1≤u.2∧u.2≤4000000):=hid (fun u hu=>by have:=Scopy.uses_law hne u hu;omega)
  obtain⟨ds,hds⟩:∃x,(Scopy.names n known).decls=x:=⟨_,rfl⟩
  obtain⟨us,hus⟩:∃x,(Scopy.names n known).uses=x:=⟨_,rfl⟩
  rw[hds] at HD HLAW hll
  rw[hus] at HV HLAW hll HUSE
  obtain⟨q,hq⟩:∃q,ds.length=q:=⟨_,rfl⟩
  obtain⟨p,hp⟩:∃p,us.length=p:=⟨_,rfl⟩
  rw[hq] at HD hll
  rw[hp] at HV hll
  obtain⟨Ad,capd,hdv⟩:=own_slice HD.out
  obtain⟨Au,capu,huv⟩:=own_slice HV.out
  subst hdv huv
  have HQL:=hid hq
  have HP:=hid hp
  obtain⟨hqb,hpb⟩:=hll
  clear hds hus hq hp hne HQ
  have z0:((0:Int) != 0)=false:=rfl
  have hmm:=@run_makeMap Tryz.prog
  go_upto_region 5 with fail
  have hmo:=World.ownsMap_made (H:=Unit) w3 Tryz.prog 3 (plainElem Tryz.prog 3)
  refine gen_world (F:=fun W=>Below w3.heap.size w3 W∧w3.heap.size<W.heap.size∧W.ownsMap Tryz.prog 3 (plainElem (H:=Unit) Tryz.prog 3) w3.heap.size 0 (Seeny.seen [])) ⟨below1 w3 _,by simp,by simpa [Seeny.seen,setOf] using hmo⟩ ?_
  rintro W ⟨hb,hzW,hom⟩
  have HOM:=hid hom
  have HWZ:=hid hzW
  have HB0:=hid hb
  have HMB:Hid (w.heap.size≤w3.heap.size):=hid HU.out.size
  clear hmm hmo hb hom hzW
  go_wp2_with fail
  go_loopg [30] p (fun gg s30 wr=>∃j:Nat,j≤p∧p - j≤gg∧s30= .int .i64 (j:Int)∧w3.heap.size<wr.heap.size∧Hid (Below w3.heap.size w3 wr)∧Hid (wr.ownsMap Tryz.prog 3 (plainElem (H:=Unit) Tryz.prog 3) w3.heap.size j (Seeny.seen ((us.take j).map (·.2)))))
  case atStart=>exact⟨0,Nat.zero_le _,by omega,rfl,HWZ.out,HB0,HOM⟩
  case round=>
   obtain⟨j,hj,hgg,rfl,hzr,BW,MO⟩:=hrel
   by_cases hlt:j<p
   ·have hltz:(j:Int)<(p:Int):=by omega
    have hltd:decide ((j:Int)<(p:Int))=true:=decide_eq_true hltz
    obtain⟨x,hx⟩:∃x,us[j]? =some x:=⟨_,List.getElem?_eq_getElem (by rw[HP.out];exact hlt)⟩
    obtain⟨gu,rfl,_,hgu2,_,hcu⟩:=own_at uc_size (own_below HV.out BW.out) (by omega)
    have hran:Hid (wr.rangeAt gu (j * 2) (uc x).toList):=hid fun i u hu=>hcu j x hx i u hu
    have hxb:=HUSE.out x (List.mem_of_getElem? hx)
    have HKEY:=hid (keyOf_int_mk (P:=Tryz.prog) Tryz.underlying3 (swf hxb.1 hxb.2))
    have HX:=hid hx
    clear hx hcu hxb
    go_upto_region 8 with (first | (refine wpList_load_mid rfl 39 (.tmp 32) rfl gu (j * 2) rfl (uc x).toList _ hran.out Tryz.underlying39 rfl info_ju ?_) | (refine wpList_store_box rfl 39 (.tmp 10) (.tmp 33) rfl wr.heap.size (uc x) rfl rfl 39 _ (Box.new wr _ _) info_ju rfl (uc_one _) ?_;intro w10 hx10 hu10 hz10;have HX10:=hid hx10;have HU10:=hid hu10;have HZ10:=hid hz10;clear hx10 hu10 hz10))
    have hb10:Below wr.heap.size wr w10:=(below1 wr _).trans (HU10.out.own (Nat.le_refl _) (by simp))
    have q1:w10.cell? ⟨wr.heap.size,1,none⟩=some (.int .i64 x.2):=HX10.out.cell 1
    have HB10:Hid (Below w3.heap.size w3 w10):=hid (BW.out.trans (hb10.mono BW.out.size))
    have MO10:=hid (smap_below MO.out hb10)
    have hz10:w3.heap.size<w10.heap.size:=Nat.lt_of_lt_of_le hzr hb10.size
    clear hb10 HX10 HU10 HZ10 BW MO hran
    go_wp2_with (at_mapUpdate;refine wpList_mapUpdate_own _ rfl _ _ _ 47 rfl 3 3 intKey Tryz.underlying47 _ w3.heap.size j _ rfl MO10.out (by unfold maxLen;omega) _ _ _ rfl rfl HKEY.out _ [] (plainElem_int Tryz.underlying3 (by decide)) ?_;intro w8 hown8 hgrow8)
    have h8:Below w3.heap.size w10 w8:=Upd.own (B:=w3.heap.size) hgrow8 (Nat.le_refl _) (by omega)
    have hz8:=h8.size
    go_roundg (p - (j+1))
    case measure=>omega
    case rel=>
     refine⟨j+1,by omega,by omega,by go_num,by omega,hid (HB10.out.trans h8),?_⟩
     show World.ownsMap _ _ _ _ _ _ _
     rw[List.take_add_one,HX.out,List.map_append]
     simp only[Option.toList_some,List.map_cons,List.map_nil]
     rw[Seeny.seen_snoc]
     exact hown8
   ·have hltz:¬(j:Int)<(p:Int):=by omega
    have hltd:decide ((j:Int)<(p:Int))=false:=decide_eq_false hltz
    obtain rfl:j=p:=by omega
    have MOF:Hid (wr.ownsMap Tryz.prog 3 (plainElem (H:=Unit) Tryz.prog 3) w3.heap.size j (Seeny.seen (us.map (·.2)))):=hid (by have h:=MO.out;rwa [List.take_of_length_le (by rw[HP.out];omega)] at h)
    obtain⟨w5,hw5⟩:∃W,wr=W:=⟨_,rfl⟩
    rw[hw5] at BW MOF hzr
    have HZ5:=hid hzr
    clear MO HOM HB0 HWZ hzr
    go_upto_region 10 with fail
    go_wp2_with fail
    clear hw5
    have HMO5:=hid MOF.out
    go_loopg [40] q (fun gg s40 wr=>∃j:Nat,j≤q∧q - j≤gg∧s40= .int .i64 (j:Int)∧Hid (Below w5.heap.size w5 wr))
    case atStart=>exact⟨0,Nat.zero_le _,by omega,rfl,Below.refl _ w5⟩
    case round=>
     obtain⟨i,hi,hgg2,rfl,BW2⟩:=hrel
     by_cases hlt2:i<q
     ·have hltz2:(i:Int)<(q:Int):=by omega
      have hltd2:decide ((i:Int)<(q:Int))=true:=decide_eq_true hltz2
      obtain⟨d,hd⟩:∃d,ds[i]? =some d:=⟨_,List.getElem?_eq_getElem (by rw[HQL.out];exact hlt2)⟩
      obtain⟨gd,rfl,_,hgd2,_,hcd⟩:=own_at dc_size (own_below (own_below HD.out BW.out) BW2.out) (by omega)
      have hran:Hid (wr.rangeAt gd (i * 4) (dc d).toList):=hid fun k u hu=>hcd i d hd k u hu
      obtain⟨hlaw1,hlaw2⟩:=HLAW.out i d hd
      have HL1:=hid hlaw1
      have HL2:=hid hlaw2
      clear hd hcd hlaw1 hlaw2
      go_upto_region 13 with (first | (refine wpList_load_mid rfl 36 (.tmp 43) rfl gd (i * 4) rfl (dc d).toList _ hran.out Tryz.underlying36 rfl info_jd ?_) | (refine wpList_store_box rfl 36 (.tmp 12) (.tmp 44) rfl wr.heap.size (dc d) rfl rfl 36 _ (Box.new wr _ _) info_jd rfl (dc_one _) ?_;intro w10 hx10 hu10 hz10;have HX10:=hid hx10;have HU10:=hid hu10;have HZ10:=hid hz10;clear hx10 hu10 hz10))
      have hb10:Below wr.heap.size wr w10:=(below1 wr _).trans (HU10.out.own (Nat.le_refl _) (by simp))
      have hb5:Below w5.heap.size w5 w10:=BW2.out.trans (hb10.mono BW2.out.size)
      have q0:w10.cell? ⟨wr.heap.size,0,none⟩=some (.int .i64 d.kind):=HX10.out.cell 0
      have q2:w10.cell? ⟨wr.heap.size,2,none⟩=some (.int .i64 (d.deep:Int)):=HX10.out.cell 2
      have q3:w10.cell? ⟨wr.heap.size,3,none⟩=some (.bool d.caught):=HX10.out.cell 3
      have hrun:=slook_seen (smap_below HMO5.out hb5) (n:=(i:Int)) (swf (by omega) (by omega))
      have HB5:=hid hb5
      have z1:decide ((d.deep:Int)<0)=false:=decide_eq_false (by omega)
      clear hb10 hb5 HX10 HU10 HZ10 BW2 hran
      obtain⟨cg,hcg⟩:∃b,d.caught=b:=⟨_,rfl⟩
      obtain⟨dp,hdp⟩:∃b,d.deep=b:=⟨_,rfl⟩
      obtain⟨kd,hkd⟩:∃b,d.kind=b:=⟨_,rfl⟩
      rw[hcg] at q3 HL1
      rw[hdp] at q2 z1 HL2
      rw[hkd] at q0 HL2
      clear hcg hdp hkd
      have hseen:cg=true→(us.map (·.2)).contains (i:Int)=true:=by
       intro h
       obtain⟨u,hu,hu2⟩:=HL1.out h
       rw[List.contains_iff_mem]
       exact List.mem_map.2 ⟨u,hu,hu2⟩
      cases cg with
      | false=>
       clear hseen hrun
       by_cases y1:kd=10
       ·have y2:1≤dp:=HL2.out y1
        subst y1
        have z2:decide ((dp:Int)<1)=false:=decide_eq_false (by omega)
        have z3:decide (dp<1)=false:=decide_eq_false (by omega)
        clear y2
        go_wp2_with fail
        go_roundg (q - (i+1))
        case measure=>omega
        case rel=>exact⟨i+1,by omega,by omega,by go_num,HB5⟩
       ·have z2:(kd==10)=false:=by simp[y1]
        have z3:decide (kd=10)=false:=by simp[y1]
        clear y1
        go_wp2_with fail
        go_roundg (q - (i+1))
        case measure=>omega
        case rel=>exact⟨i+1,by omega,by omega,by go_num,HB5⟩
      | true=>
       rw[if_pos (hseen rfl)] at hrun
       clear hseen
       by_cases y1:kd=10
       ·have y2:1≤dp:=HL2.out y1
        subst y1
        have z2:decide ((dp:Int)<1)=false:=decide_eq_false (by omega)
        have z3:decide (dp<1)=false:=decide_eq_false (by omega)
        clear y2
        go_wp2_with fail
        go_roundg (q - (i+1))
        case measure=>omega
        case rel=>exact⟨i+1,by omega,by omega,by go_num,HB5⟩
       ·have z2:(kd==10)=false:=by simp[y1]
        have z3:decide (kd=10)=false:=by simp[y1]
        clear y1
        go_wp2_with fail
        go_roundg (q - (i+1))
        case measure=>omega
        case rel=>exact⟨i+1,by omega,by omega,by go_num,HB5⟩
     ·have hltz2:¬(i:Int)<(q:Int):=by omega
      have hltd2:decide ((i:Int)<(q:Int))=false:=decide_eq_false hltz2
      go_wp2
      go_ret
      exact⟨rfl,HU.out.trans ((BW.out.trans (BW2.out.mono BW.out.size)).mono HMB.out)⟩
 ·have z0:(k != 0)=true:=by simp[y0]
  have z1:decide (k=0)=false:=by simp[y0]
  clear y0
  go_wp2_with fail
  refine (slives_true _ (HE.out.below HU.out hbig)).mono ?_
  rintro e w4 ⟨rfl,hb⟩
  replace HU:=hid (HU.out.trans (hb.mono HU.out.size))
  go_wp2
  go_ret
  exact⟨rfl,HU.out⟩
end Go.Proofs.YtflmjbmdmoifhaaGreatDoor

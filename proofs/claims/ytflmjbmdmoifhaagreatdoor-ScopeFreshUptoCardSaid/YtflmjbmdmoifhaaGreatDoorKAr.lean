/-
  Texts that the law leans on: SmP, PwM, JlBu, PwA, PwB, PwL. Conditions: as each says.
-/
import Derived.Test.YtflmjbmdmoifhaaGreatDoorKAq
import Derived.Test.YtflmjbmdmoifhaaGreatDoorKAo
import Derived.Test.YtflmjbmdmoifhaaGreatDoorKAl
import Derived.Test.YtflmjbmdmoifhaaGreatDoorKAc
import Derived.Test.YtflmjbmdmoifhaaGreatDoorShelf
import Derived.Shelf.Strings.BuilderX
import Derived.Lib.Builder
import Derived.Lib.AppendStr
import Derived.Lib.UnsafeStr
import Derived.Lib.MakeNoZero
import Derived.OwnWalk
import Derived.Laws.Externs
import Derived.Recover
import Derived.Test.YtflmjbmdmoifhaaGreatDoorKAp
import Derived.Test.YtflmjbmdmoifhaaGreatDoorKAa
set_option linter.unusedSimpArgs false
set_option linter.unusedVariables false
namespace Go.Proofs.YtflmjbmdmoifhaaGreatDoor
open Go.Lib (hid)
open Go.RowKit
theorem decl_named {w:World} {B n cap:Nat} {A:Option Addr} {ds:List Scopy.Decl} {k:Nat} {d:Scopy.Decl} (nm:List UInt8) (h:w.ownsRow B 36 4 (.slice A n cap) n (flat dc ds)) (hn:ds.length=n) (hk:ds[k]? =some d):
  ∃g,A=some ⟨g,0,none⟩∧B≤g∧g<w.heap.size∧n≤cap∧k<n∧w.cell? ⟨g,k * 4+1,none⟩=some (.string (byt d.name))∧w.frozen? ⟨g,k * 4+1,none⟩=false∧
   (w.setCell ⟨g,k * 4+1,none⟩ (.string (byt nm))).ownsRow B 36 4 (.slice A n cap) n (flat dc (ds.set k {d with name:=nm})):=by
 have hkl:k<ds.length:=(List.getElem?_eq_some_iff.1 hk).1
 rcases h.2 with⟨_,h0⟩ | ⟨g,cap',cur,hv,hb,hg,h1,h2,h3,h4⟩
 ·omega
 ·injection hv with hA _ hc
  subst hA hc
  have hgl:g<w.heap.size:=(Array.getElem?_eq_some_iff.1 hg).1
  have hfl:=flat_len (f:=dc) dc_size ds
  have hb2:Box w g 36 cur:=hg
  have cell:w.cell? ⟨g,k * 4+1,none⟩=some (.string (byt d.name)):=by
   have e1:=flat_at (f:=dc) dc_size ds k d hk 1 _ (show (dc d).toList[1]? =some (.string (byt d.name)) from rfl)
   rw[hb2.cell, ←Array.getElem?_toList, ←e1, ←h4,List.getElem?_take,if_pos (by omega)]
  refine⟨g,rfl,hb,hgl,h1,by omega,cell,hb2.frozen _,?_⟩
  have hset:=hb2.set (k * 4+1) (.string (byt nm))
  have e5:cur.toList.take (n * 4)=flat dc ds:=h4
  refine⟨by rw[flat_len (f:=dc) dc_size,List.length_set,hn],.inr ⟨g,cap,cur.setIfInBounds (k * 4+1) (.string (byt nm)),rfl,hb,hset,h1,h2,by simpa using h3,?_⟩⟩
  rw[Array.toList_setIfInBounds,List.take_set,e5]
  have hsplit:ds=ds.take k++d :: ds.drop (k+1):=by
   have:=List.take_append_drop k ds
   rw[List.drop_eq_getElem_cons hkl,(List.getElem?_eq_some_iff.1 hk).2] at this
   exact this.symm
  have hlk:(ds.take k).length=k:=by simp;omega
  have e6:ds.set k {d with name:=nm}=ds.take k++{d with name:=nm} :: ds.drop (k+1):=by
   conv=>lhs;rw[hsplit]
   rw[List.set_append_right _ _ (by omega),hlk,Nat.sub_self]
   rfl
  rw[e6]
  conv=>lhs;rw[hsplit]
  rw[flat_append,flat_append,flat_cons,flat_cons]
  have hfk:=flat_len (f:=dc) dc_size (ds.take k)
  rw[hlk] at hfk
  rw[List.set_append_right _ _ (by omega),hfk,show k * 4+1 - k * 4=1 by omega]
  rfl
theorem setName_set {ds:List Scopy.Decl} {k:Nat} {d:Scopy.Decl} (nm:List UInt8) (h:ds[k]? =some d):Scopy.setName ds k nm=ds.set k {d with name:=nm}:=by
 apply List.ext_getElem?
 intro j
 rw[Scopy.setName_get,List.getElem?_set]
 by_cases e:k=j
 ·subst e
  rw[h,if_pos rfl,if_pos (List.getElem?_eq_some_iff.1 h).1]
  simp
 ·rw[if_neg e]
  cases ds[j]? <;>simp[e]
theorem use_cell {w:World} {B n cap:Nat} {A:Option Addr} {us:List (List UInt8×Int)} {k:Nat} {u:List UInt8×Int} (h:w.ownsRow B 39 2 (.slice A n cap) n (flat uc us)) (hk:us[k]? =some u) (hn:us.length=n):
  ∃g,A=some ⟨g,0,none⟩∧B≤g∧g<w.heap.size∧w.cell? ⟨g,k * 2,none⟩=some (.string (byt u.1))∧w.cell? ⟨g,k * 2+1,none⟩=some (.int .i64 u.2):=by
 have hkl:k<us.length:=(List.getElem?_eq_some_iff.1 hk).1
 rcases h.2 with⟨_,h0⟩ | ⟨g,cap',cur,hv,hb,hg,h1,h2,h3,h4⟩
 ·omega
 ·injection hv with hA _ hc
  subst hA hc
  have hb2:Box w g 39 cur:=hg
  have hfl:=flat_len (f:=uc) uc_size us
  refine⟨g,rfl,hb,hb2.lt,?_,?_⟩
  ·have e1:=flat_at (f:=uc) uc_size us k u hk 0 _ (show (uc u).toList[0]? =some (.string (byt u.1)) from rfl)
   rw[hb2.cell, ←Array.getElem?_toList, ←e1, ←h4,List.getElem?_take,if_pos (by omega)]
   rfl
  ·have e1:=flat_at (f:=uc) uc_size us k u hk 1 _ (show (uc u).toList[1]? =some (.int .i64 u.2) from rfl)
   rw[hb2.cell, ←Array.getElem?_toList, ←e1, ←h4,List.getElem?_take,if_pos (by omega)]
def RenameOut (w:World) (r:Pars.Node×Nat) (e:Ending) (w':World):Prop:=∃c,e= .returned (.tuple #[.agg c,.int .i64 (r.2:Int)])∧NodeAt w' (fun g=>w.heap.size≤g) r.1 c∧Below w.heap.size w w'
structure LkAt (w:World) (B l:Nat) (kv:Value) (dk:Int) (nm:List UInt8) (s:Scopy.St) (dv uv:Value):Prop where
 bl:B≤l
 box:Box w l 53 (lkc kv dv uv s.e dk nm)
 decls:w.ownsRow (l+1) 36 4 dv s.decls.length (flat dc s.decls)
 uses:w.ownsRow (l+1) 39 2 uv s.uses.length (flat uc s.uses)
 ap:Apart dv uv
theorem LkAt.below {w w1:World} {B l:Nat} {kv:Value} {dk:Int} {nm:List UInt8} {s:Scopy.St} {dv uv:Value} (h:LkAt w B l kv dk nm s dv uv) (hb:Below w.heap.size w w1):LkAt w1 B l kv dk nm s dv uv:=⟨h.bl,h.box.below hb h.box.lt,own_below h.decls hb,own_below h.uses hb,h.ap⟩
theorem KnAt.low {w:World} {kb kb2:Nat} {known:List (List UInt8)} {v:Value} (h:KnAt w kb known v) (hk:∀g,g<kb→g<w.heap.size→g<kb2):KnAt w kb2 known v:=by
 obtain⟨A,cap,e,q1,q2,q3⟩:=h
 exact⟨A,cap,e,q1,q2,fun hp=>by obtain⟨g,o,e1,q4,q5,q6⟩:=q3 hp;exact⟨g,o,e1,hk g q4 q5,q5,q6⟩⟩
set_option maxRecDepth 100000 in
set_option maxHeartbeats 8000000 in
theorem rename_any {w:World} {n:Pars.Node} {cs:Array Value} {S:Nat→Prop} {kv:Value} {known:List (List UInt8)} {dk:Int} {nm:List UInt8} (he:EnvW w) (hn:NodeAt w S n cs) (hsz:Pars.size n≤1048576) (hw:Wri.wg n≤1099511627776) (hk:KnAt w w.heap.size known kv) (hnl:nm.length≤9223372036854775807):
  Calls Tryz.prog 8 #[.agg cs,.int .i64 dk,.string (byt nm),kv] w (RenameOut w (Scopy.rename n dk nm known)):=by
 replace hn:=NodeAt.keep (S1:=fun g=>g<w.heap.size) (w1:=w) (fun g _ h=>h) (Nat.le_refl _) (fun _ _ _=>rfl) hn
 have HE:=hid he
 have HN:=hid hn
 have HK:=hid hk
 have h4:=NodeAt.size hn
 have HINF:Hid ((Tryz.prog.info? 24).map (·.size)=some cs.size):=hid (by rw[h4];exact info_nod)
 clear he hn hk h4
 go_enter Tryz.func8,Tryz.ntmps8
 go_upto_region 1 with fail
 refine gen_world (F:=fun W=>Box W w.heap.size 24 cs∧Box W (w.heap.size+1) 24 #[.int .i64 0,.int .i64 0,.string ⟨#[]⟩,.slice none 0 0]∧Below w.heap.size w W∧W.heap.size=w.heap.size+2) ⟨(Box.new w _ _).alloc _,by have:=Box.new (w.alloc (.cells cs 24 (0,0))) 24 #[.int .i64 0,.int .i64 0,.string ⟨#[]⟩,.slice none 0 0];simpa using this,(below1 w _).alloc (by simp) _,by simp⟩ ?_
 rintro W0 ⟨b0,b1,hU,hz0⟩
 have HZ0:=hid hz0
 have HU:=hid hU
 have NA:=hid b0
 have NB:=hid b1
 have na:=b0
 have HCALL:=hid (looked_any (w:=W0) (dk:= -1) (nm:=[]) (HE.out.below HU.out HE.out.big) (HN.out.keep (w1:=W0) (S1:=fun _=>True) (fun _ _ _=>trivial) HU.out.size (fun g _ hg=>HU.out.block g hg)) hsz (by omega) ((HK.out.fr (Fr.below HU.out (fun _=>False)) (fun _ _ h=>h)).low fun g _ h=>h) (fun h=>absurd h (by decide)))
 clear b0 b1 hU hz0
 go_wp2_with (refine wpList_load_row rfl 24 (.tmp 4) rfl w.heap.size rfl _ cs (0,0) _ na Tryz.underlying24 rfl HINF.out ?_)
 refine HCALL.out.mono ?_
 rintro e w1 ⟨l,c,dv,uv,rfl,hl,hb,hd,hu,hap,hn1,hb1⟩
 rw[names_look] at hb hd hu
 have HL1:Hid (LkAt w1 W0.heap.size l kv (-1) [] (Scopy.names n known) dv uv):=hid ⟨hl,hb,hd,hu,hap⟩
 have HU1:=hid (HU.out.trans (hb1.mono HU.out.size))
 have hc4:=NodeAt.size hn1
 have hc1:=NodeAt.one hn1
 have hic:(Tryz.prog.info? 24).map (·.size)=some c.size:=by rw[hc4];exact info_nod
 have NA1:=bl NA hb1
 have NB1:=bl NB hb1
 clear na hb hd hu hn1 hb1 HCALL hl hap NA NB
 go_upto_region 2 with (refine wpList_store_box rfl 24 (.tmp 10) (.tmp 24) rfl w1.heap.size c rfl rfl 24 _ (Box.new w1 _ _) hic hc4.symm hc1 ?_;intro w2 hx2 hu2 hz2;have HX2:=hid hx2;have HU2:=hid hu2;have HZ2:=hid hz2;clear hx2 hu2 hz2)
 have hb:Below w1.heap.size w1 w2:=(below1 w1 _).trans (HU2.out.own (Nat.le_refl _) (by simp))
 have HL2:=hid (HL1.out.below hb)
 have HB2:=hid (HU1.out.trans (hb.mono HU1.out.size))
 have NA2:=bl NA1 hb
 have NB2:=bl NB1 hb
 have l3:=HL2.out.box.cell 3
 simp[lkc] at l3
 obtain⟨ec,hec⟩:∃x,(Scopy.names n known).e=x:=⟨_,rfl⟩
 have HEC:=hid hec
 rw[hec] at l3
 clear hb hec hc4 hc1 hic HL1 HX2 HU2 HZ2 HU1 NA1 NB1
 by_cases h0:ec=0
 ·subst h0
  have d0:(((0:Nat):Int) != 0)=false:=rfl
  have d1:((0:Int) != 0)=false:=rfl
  have HTK:Hid (Calls Tryz.prog 18 #[.string (byt nm)] w2 fun e w'=>Jl.TokOut w2 (Lexy.toks nm) e w'):=hid (by
   have he2:=HE.out.below HB2.out HE.out.big
   have:=Jl.tokens_any (byt nm) w2 he2.sp (by have:=he2.big;omega) (by rw[byt_size];omega)
   rw[byt_data] at this
   exact this)
  go_wp2_with fail
  refine HTK.out.mono ?_
  intro e w3 ht
  obtain⟨A,cap,hdv0⟩:=own_slice HL2.out.decls
  obtain⟨m,hm⟩:∃m,(Scopy.names n known).decls.length=m:=⟨_,rfl⟩
  have HM:=hid hm
  rw[hm] at hdv0
  obtain⟨bd,hbd0⟩:∃b,(!decide (0≤dk∧dk<(m:Int)∧Wri.name nm=true))=b:=⟨_,rfl⟩
  have HBD:=hid hbd0
  have hnk:Wri.name nm=match Lexy.toks nm with | .ok [t]=>decide (t.kind=1)&&decide (t.text=nm) | _=>false:=rfl
  have hcase:∃(tv:Value) (te:Int) (ts:List Lexy.Tok),e= .returned (.tuple #[tv,.int .i64 te])∧Below w2.heap.size w2 w3∧((te≠0∧Wri.name nm=false∧tv= .slice none 0 0)∨(te=0∧Lexy.toks nm= .ok ts∧∃A2 cap2,tv= .slice A2 ts.length cap2∧w3.ownsRow w2.heap.size 58 5 (.slice A2 ts.length cap2) ts.length (Jl.tokCells ts))):=by
   cases hk:Lexy.toks nm with
   | err ke=>
    rw[hk] at ht hnk
    obtain⟨rfl,hb⟩:=ht
    have:=toks_err hk
    exact⟨_,_,[],rfl,hb,.inl ⟨by omega,hnk,rfl⟩⟩
   | ok ts=>
    rw[hk] at ht
    obtain⟨A2,cap2,rfl,hown,hb⟩:=ht
    exact⟨_,_,ts,rfl,hb,.inr ⟨rfl,rfl,A2,cap2,rfl,hown⟩⟩
  obtain⟨tv,te,ts,rfl,hb3,hcs⟩:=hcase
  have HCS:=hid hcs
  have HNK:=hid hnk
  have HL3:=hid (HL2.out.below hb3)
  have HB3:=hid (HB2.out.trans (hb3.mono HB2.out.size))
  have NA3:=bl NA2 hb3
  have NB3:=bl NB2 hb3
  have l1:=HL3.out.box.cell 1
  simp[lkc,hdv0] at l1
  have HDV:=hid hdv0
  have hm4:=look_lens (n:=n) (known:=known) (dk:= -1) (nm:=[]) hsz
  rw[names_look,hm] at hm4
  have hm40:=hm4.1
  clear hdv0 hm hbd0 hnk hcs hb3 ht HTK l3 HL2 HB2 NA2 NB2 hm4
  go_upto_region 5 with fail
  go_cut [75] from 41 to 76 (fun s75 wx=>s75= .bool bd∧wx=w3)
  case first=>
   by_cases y1:dk<0
   ·have hbd:bd=true:=by rw[←HBD.out];simp;exact .inl y1
    have z1:decide (dk<0)=true:=decide_eq_true y1
    go_wp2_with fail
    go_meet
    exact⟨by rw[hbd],rfl⟩
   ·have z1:decide (dk<0)=false:=decide_eq_false y1
    by_cases y2:dk<(m:Int)
    ·have z2:decide ((m:Int)≤dk)=false:=decide_eq_false (by omega)
     have z2':¬(m:Int)≤dk:=by omega
     rcases HCS.out with⟨y3,hnf,rfl⟩ | ⟨rfl,hto,A2,cap2,rfl,hown⟩
     ·have hbd:bd=true:=by rw[←HBD.out,hnf];simp
      have z3:(te != 0)=true:=by simp[y3]
      go_wp2_with fail
      go_meet
      exact⟨by rw[hbd],rfl⟩
     ·have z3:((0:Int) != 0)=false:=rfl
      have hn1:=HNK.out
      rw[hto] at hn1
      obtain⟨q,hq⟩:∃q,ts.length=q:=⟨_,rfl⟩
      by_cases y4:q=1
      ·subst y4
       obtain⟨tk,rfl⟩:∃tk,ts=[tk]:=List.length_eq_one_iff.1 hq
       simp only[] at hn1
       have z4:(((1:Nat):Int) != 1)=false:=rfl
       have z4':((1:Int) != 1)=false:=rfl
       obtain⟨g,rfl,hg1,hg2,hc⟩:=own_cells5 hown (by simp)
       have c0:w3.cell? ⟨g,0,none⟩=some (.int .i64 (tk.kind:Int)):=hc 0 _ rfl
       have c3:w3.cell? ⟨g,3,none⟩=some (.string (byt tk.text)):=hc 3 _ rfl
       have HN1:=hid hn1
       simp only[List.length_cons,List.length_nil] at hown hq ⊢
       clear hc hown hq hto hn1
       by_cases y5:tk.kind=1
       ·have z5:((tk.kind:Int) != 1)=false:=by simp;omega
        by_cases y6:tk.text=nm
        ·have hbd:bd=false:=by rw[←HBD.out,HN1.out];simp[y5,y6];omega
         rw[y6] at c3
         have z6:((byt nm).toList==(byt nm).toList)=true:=by simp
         go_wp2_with fail
         go_meet
         exact⟨by rw[hbd],rfl⟩
        ·have hbd:bd=true:=by rw[←HBD.out,HN1.out];simp[y6]
         have z6:((byt tk.text).toList==(byt nm).toList)=false:=by rw[byt_list,byt_list];simpa using y6
         have z8:¬(byt tk.text).toList=(byt nm).toList:=by rw[byt_list,byt_list];exact y6
         have z9:decide ((byt tk.text).toList=(byt nm).toList)=false:=decide_eq_false z8
         go_wp2_with fail
         go_meet
         exact⟨by rw[hbd],rfl⟩
       ·have hbd:bd=true:=by rw[←HBD.out,HN1.out];simp[y5]
        have z5:((tk.kind:Int) != 1)=true:=by simp;omega
        go_wp2_with fail
        go_meet
        exact⟨by rw[hbd],rfl⟩
      ·have hbd:bd=true:=by
        rw[←HBD.out,hn1]
        rcases ts with _ | ⟨t1,_ | ⟨t2,ts⟩⟩
        ·simp
        ·simp at hq;omega
        ·simp
       have z4:((ts.length:Int) != 1)=true:=by rw[hq];simp;omega
       clear hown hn1 hto hq
       go_wp2_with fail
       go_meet
       exact⟨by rw[hbd],rfl⟩
    ·have hbd:bd=true:=by rw[←HBD.out];simp;exact .inr (.inl (by omega))
     have z2:decide ((m:Int)≤dk)=true:=decide_eq_true (by omega)
     have z2':(m:Int)≤dk:=by omega
     go_wp2_with fail
     go_meet
     exact⟨by rw[hbd],rfl⟩
  case rest=>
   obtain⟨rfl,rfl⟩:=hcut
   cases bd with
   | true=>
    have HRN:Hid (Scopy.rename n dk nm known=(Scopy.zero,1)):=hid (by
     unfold Scopy.rename
     have h:=HBD.out
     simp only[Bool.not_eq_true',decide_eq_false_iff_not] at h
     rw[if_neg (by rw[HEC.out];simp),HM.out,if_pos h])
    have nb:=NB3.out
    go_wp2_with (first | (refine wpList_store_box rfl 24 (.tmp 8) (.tmp 76) rfl (w.heap.size+1) #[.int .i64 0,.int .i64 0,.string ⟨#[]⟩,.slice none 0 0] rfl rfl 24 _ nb info_nod rfl (by simp[Value.oneCell']) ?_;intro wy hxz huz hzz;have HZZ:=hid hzz;clear hzz) | (refine bodyPost_ret (results_box_tmp rfl _ _ (w.heap.size+1) 24 _ _ rfl hxz Tryz.underlying24 rfl info_nod) rfl ?_))
    rw[HRN.out]
    exact⟨_,rfl,NodeAt.leaf _ _ 0 0 [],HB3.out.trans (huz.own (by omega) HB3.out.size)⟩
   | false=>
    have hin:0≤dk∧dk<(m:Int)∧Wri.name nm=true:=by
     have h:=HBD.out
     simp only[Bool.not_eq_false',decide_eq_true_eq] at h
     exact h
    have HIN:=hid hin
    have HRN:Hid (Scopy.rename n dk nm known=if (Scopy.names (Scopy.look known dk nm n).2 known).e=0∧(Scopy.names (Scopy.look known dk nm n).2 known).uses.map (·.2)=(Scopy.names n known).uses.map (·.2)∧(Scopy.names (Scopy.look known dk nm n).2 known).decls=Scopy.setName (Scopy.names n known).decls dk.toNat nm then ((Scopy.look known dk nm n).2,0) else (Scopy.zero,6)):=hid (by
     unfold Scopy.rename
     rw[if_neg (by rw[HEC.out];simp),HM.out,if_neg (fun h=>h hin)])
    have hms:=Scopy.look_size (known:=known) (dk:=dk) (nm:=nm) n hsz
    have hmw:=Scopy.look_wg (known:=known) (dk:=dk) (nm:=nm) n hsz (Scopy.name_len hin.2.2)
    have na:=NA3.out
    have HWC:Hid (w.heap.size≤wc.heap.size):=hid HB3.out.size
    have HKA:Hid (∀W,Below w.heap.size w W→KnAt W W.heap.size known kv):=hid (fun W hW=>(HK.out.fr (Fr.below hW (fun _=>False)) (fun _ _ h=>h)).low fun g _ h=>h)
    have HCALL:=hid (looked_any (w:=wc) (dk:=dk) (nm:=nm) (HE.out.below HB3.out HE.out.big) (HN.out.keep (w1:=wc) (S1:=fun _=>True) (fun _ _ _=>trivial) HB3.out.size (fun g _ hg=>HB3.out.block g hg)) hsz (by omega) (HKA.out _ HB3.out) (fun _=>hin.2.2))
    go_wp2_with (refine wpList_load_row rfl 24 (.tmp 4) rfl w.heap.size rfl _ cs (0,0) _ na Tryz.underlying24 rfl HINF.out ?_)
    refine HCALL.out.mono ?_
    rintro e w4 ⟨l4,c4,dv4,uv4,rfl,hl4,hb4,hd4,hu4,hap4,hn4,hbb4⟩
    have HN4:=hid hn4
    have HG0:Hid (∀g,dv.ownBlock=some g→g<wc.heap.size):=hid (fun g e=>(HL3.out.decls.lt g e).2)
    have HNZ:Hid (w.heap.size+1<wc.heap.size):=hid NB3.out.lt
    have HS4:Hid (wc.heap.size≤w4.heap.size):=hid hbb4.size
    have HL4:=hid (HL3.out.below hbb4)
    have HB4:=hid (HB3.out.trans (hbb4.mono HB3.out.size))
    have NB4:=bl NB3 hbb4
    have hs4:=NodeAt.size hn4
    have ho4:=NodeAt.one hn4
    have hi4:(Tryz.prog.info? 24).map (·.size)=some c4.size:=by rw[hs4];exact info_nod
    clear na hl4 hb4 hd4 hu4 hap4 hn4 hbb4 HCALL HL3 HB3 NB3 NA3 hin l1
    go_upto_region 8 with (refine wpList_store_box rfl 24 (.tmp 14) (.tmp 83) rfl w4.heap.size c4 rfl rfl 24 _ (Box.new w4 _ _) hi4 hs4.symm ho4 ?_;intro w5 hx5 hu5 hz5;have HX5:=hid hx5;have HU5:=hid hu5;have HZ5:=hid hz5;clear hx5 hu5 hz5)
    have hb5:Below w4.heap.size w4 w5:=(below1 w4 _).trans (HU5.out.own (Nat.le_refl _) (by simp))
    have HS5:Hid (w4.heap.size≤w5.heap.size):=hid hb5.size
    have HN5:=hid (HN4.out.below hb5)
    have HL5:=hid (HL4.out.below hb5)
    have HB5:=hid (HB4.out.trans (hb5.mono HB4.out.size))
    have NB5:=bl NB4 hb5
    have HI4:=hid hi4
    have HW4:Hid (w.heap.size≤w4.heap.size):=hid HB4.out.size
    have na:=HX5.out
    have HCALL:=hid (looked_any (w:=w5) (dk:= -1) (nm:=[]) (HE.out.below HB5.out HE.out.big) HN5.out hms (by omega) (HKA.out _ HB5.out) (fun h=>absurd h (by decide)))
    clear hb5 HN4 HL4 HB4 NB4 HU5 HZ5 hs4 ho4
    go_wp2_with (refine wpList_load_row rfl 24 (.tmp 14) rfl w4.heap.size rfl _ c4 (0,0) _ na Tryz.underlying24 rfl hi4 ?_)
    refine HCALL.out.mono ?_
    rintro e w6 ⟨l6,c6,dv6,uv6,rfl,hl6,hb6,hd6,hu6,hap6,hn6,hbb6⟩
    rw[names_look] at hb6 hd6 hu6
    have HO6:Hid (LkAt w6 w5.heap.size l6 kv (-1) [] (Scopy.names (Scopy.look known dk nm n).2 known) dv6 uv6):=hid ⟨hl6,hb6,hd6,hu6,hap6⟩
    have HN6:=hid (HN5.out.below hbb6)
    have HX6:=bl HX5 hbb6
    have HL6:=hid (HL5.out.below hbb6)
    have HB6:=hid (HB5.out.trans (hbb6.mono HB5.out.size))
    have NB6:=bl NB5 hbb6
    have hs6:=NodeAt.size hn6
    have ho6:=NodeAt.one hn6
    have hi6:(Tryz.prog.info? 24).map (·.size)=some c6.size:=by rw[hs6];exact info_nod
    clear na hl6 hb6 hd6 hu6 hap6 hn6 hbb6 HCALL HL5 HB5 NB5 HN5 HX5
    go_upto_region 9 with (refine wpList_store_box rfl 24 (.tmp 16) (.tmp 89) rfl w6.heap.size c6 rfl rfl 24 _ (Box.new w6 _ _) hi6 hs6.symm ho6 ?_;intro w7 hx7 hu7 hz7;have HX7:=hid hx7;have HU7:=hid hu7;have HZ7:=hid hz7;clear hx7 hu7 hz7)
    have hb7:Below w6.heap.size w6 w7:=(below1 w6 _).trans (HU7.out.own (Nat.le_refl _) (by simp))
    have HO7:=hid (HO6.out.below hb7)
    have HN7:=hid (HN6.out.below hb7)
    have HX7b:=bl HX6 hb7
    have HL7:=hid (HL6.out.below hb7)
    have HB7:=hid (HB6.out.trans (hb7.mono HB6.out.size))
    have NB7:=bl NB6 hb7
    clear hb7 HO6 HN6 HX6 HL6 HB6 NB6 HU7 HZ7 HX7 hs6 ho6 hi6
    obtain⟨so,hso⟩:∃x,Scopy.names (Scopy.look known dk nm n).2 known=x:=⟨_,rfl⟩
    obtain⟨sn,hsn⟩:∃x,Scopy.names n known=x:=⟨_,rfl⟩
    have hlo:=look_lens (n:=(Scopy.look known dk nm n).2) (known:=known) (dk:= -1) (nm:=[]) hms
    have hln:=look_lens (n:=n) (known:=known) (dk:= -1) (nm:=[]) hsz
    rw[names_look,hso] at hlo
    rw[names_look,hsn] at hln
    rw[hso] at HO7
    rw[hsn] at HL7 HEC HM
    rw[hso,hsn] at HRN
    clear hso hsn
    obtain⟨Au,capu,huv0⟩:=own_slice HL7.out.uses
    obtain⟨Ao,capo,huo0⟩:=own_slice HO7.out.uses
    obtain⟨Do,capd,hdo0⟩:=own_slice HO7.out.decls
    have HDO:=hid hdo0
    obtain⟨nu,hnu⟩:∃q,sn.uses.length=q:=⟨_,rfl⟩
    obtain⟨no,hno⟩:∃q,so.uses.length=q:=⟨_,rfl⟩
    have HNU:=hid hnu
    have HNO:=hid hno
    rw[hnu] at huv0 hln
    rw[hno] at huo0 hlo
    have HUV:=hid huv0
    have HUO:=hid huo0
    have hdv1:=HDV.out
    have l1:=HL7.out.box.cell 1
    have l2:=HL7.out.box.cell 2
    have o1:=HO7.out.box.cell 1
    have o2:=HO7.out.box.cell 2
    have o3:=HO7.out.box.cell 3
    simp[lkc,huv0,hdv1] at l1 l2
    simp[lkc,huo0] at o1 o2 o3
    obtain⟨eo,heo⟩:∃x,so.e=x:=⟨_,rfl⟩
    have HEO:=hid heo
    rw[heo] at o3
    clear hdo0 hnu hno huv0 huo0 hdv1 heo
    by_cases y1:eo=0
    ·subst y1
     by_cases y2:no=nu
     ·subst y2
      have z1:(((0:Nat):Int) != 0)=false:=rfl
      have z2:((no:Int) != (no:Int))=false:=by simp
      have z3:((0:Int) != 0)=false:=rfl
      go_upto_region 9 with fail
      go_quiet (fail)
      obtain⟨w8,hw8⟩:∃W,w7.drewN nq=W:=⟨_,rfl⟩
      have f78:Fr w7 w8 (fun _=>False):=hw8 ▸ Fr.drewN w7 nq _
      rw[hw8]
      have hb8:Below w7.heap.size w7 w8:=f78.out (fun _ _ h=>h) (Nat.le_refl _)
      have HL8:=hid (HL7.out.below hb8)
      have HO8:=hid (HO7.out.below hb8)
      have HN8:=hid (HN7.out.below hb8)
      have HX8:=bl HX7b hb8
      have NB8:=bl NB7 hb8
      have HB8:=hid (HB7.out.trans (hb8.mono HB7.out.size))
      have hin:=HIN.out
      obtain⟨k,hk⟩:∃k:Nat,dk=k:=⟨dk.toNat,by omega⟩
      have hkm:k<m:=by omega
      obtain⟨d,hd⟩:∃d,sn.decls[k]? =some d:=⟨_,List.getElem?_eq_getElem (by rw[HM.out];exact hkm)⟩
      have hdv1:=HDV.out
      obtain⟨g0,hA,hg0,hg0l,hmc,_,n1,n1f,hset⟩:=decl_named nm (by have:=HL8.out.decls;rw[hdv1,HM.out] at this;exact this) HM.out hd
      subst hA
      have HSET:=hid hset
      have HSN:Hid (Scopy.setName sn.decls dk.toNat nm=sn.decls.set k {d with name:=nm}):=hid (by rw[hk,Int.toNat_natCast];exact setName_set nm hd)
      have l1:=HL8.out.box.cell 1
      simp[lkc,hdv1] at l1
      have hkz:(k:Int)<(m:Int):=by omega
      have hlg:l<g0:=by omega
      have hgw:g0<wc.heap.size:=HG0.out g0 (by rw[hdv1];rfl)
      have hgo:g0<l6:=by have:=HO8.out.bl;have:=HS4.out;have:=HS5.out;omega
      have hm1:=HL8.out.bl
      have hm2:=HO8.out.bl
      have hz0:=HZ0.out
      subst hk
      clear hw8 hb8 f78 hset hd hdv1 l2 o1 o2 o3 z1 z2 z3 HL7 HO7 HN7 HX7b NB7 HB7
      go_upto_region 12 with fail
      refine gen_world (F:=fun W=>W.ownsRow (l+1) 36 4 (.slice (some ⟨g0,0,none⟩) m cap) m (flat dc (sn.decls.set k {d with name:=nm}))∧Box W l 53 (lkc kv dv uv sn.e (-1) [])∧W.ownsRow (l+1) 39 2 uv sn.uses.length (flat uc sn.uses)∧LkAt W w5.heap.size l6 kv (-1) [] so dv6 uv6∧NodeAt W (fun g=>wc.heap.size≤g) (Scopy.look known k nm n).2 c4∧Box W w4.heap.size 24 c4∧Box W (w.heap.size+1) 24 #[.int .i64 0,.int .i64 0,.string ⟨#[]⟩,.slice none 0 0]∧Below w.heap.size w W) ?hw9 ?_
      case hw9=>
       have f9:Fr w8 (w8.setCell ⟨g0,k * 4+1,none⟩ (.string (byt nm))) (fun i=>i=g0):=Fr.set _ _ _
       have hap:=HL8.out.ap
       rw[HDV.out] at hap
       have hs4:=HS4.out
       have hnz:=HNZ.out
       refine⟨HSET.out,f9.box HL8.out.box (by show ¬l=g0;omega),f9.own HL8.out.uses (fun g hg (e:g=g0)=>hap g0 rfl (e ▸ hg)),⟨HO8.out.bl,f9.box HO8.out.box (by show ¬l6=g0;omega),f9.own HO8.out.decls (fun g hg (e:g=g0)=>by have:=(HO8.out.decls.lt g hg).1;omega),f9.own HO8.out.uses (fun g hg (e:g=g0)=>by have:=(HO8.out.uses.lt g hg).1;omega),HO8.out.ap⟩,HN8.out.keep (fun _ h _=>h) f9.size (fun g h hg=>f9.block g hg (fun (e:g=g0)=>by have h:wc.heap.size≤g:=h;omega)),f9.box HX8.out (by show ¬w4.heap.size=g0;omega),f9.box NB8.out (by show ¬w.heap.size+1=g0;omega),HB8.out.trans (f9.out (fun i hi (e:i=g0)=>by omega) HB8.out.size)⟩
      rintro w9 ⟨p1,p2,p3,p4,p5,p6,p7,p8⟩
      have HD9:=hid p1
      have HL9:=hid p2
      have HU9:=hid p3
      have HO9:=hid p4
      have HN9:=hid p5
      have HX9:=hid p6
      have NB9:=hid p7
      have HB9:=hid p8
      have HW9:Hid (w.heap.size≤w9.heap.size):=hid p8.size
      have o2:=p4.box.cell 2
      have huo0:=HUO.out
      simp[lkc,huo0] at o2
      clear p1 p2 p3 p4 p5 p6 p7 p8 HL8 HO8 HN8 HX8 NB8 HB8 HSET huo0 l1 n1 n1f hz0 hm1 hm2 hgw hgo hlg hg0 hg0l hmc hin hms hmw hm40 HCS HNK hi4
      try clear l1
      try clear hnl
      go_wp2_with fail
      go_loopg [123] no (fun gg s123 wr=>∃j:Nat,j≤no∧no - j≤gg∧s123= .int .i64 (j:Int)∧Hid (Below w9.heap.size w9 wr)∧Hid ((so.uses.take j).map (·.2)=(sn.uses.take j).map (·.2)))
      case atStart=>exact⟨0,Nat.zero_le _,by omega,rfl,Below.refl _ w9,rfl⟩
      case round=>
       obtain⟨j,hj,hgg,rfl,BW,AA⟩:=hrel
       by_cases hlt:j<no
       ·have hltz:(j:Int)<(no:Int):=by omega
        have hltd:decide ((j:Int)<(no:Int))=true:=decide_eq_true hltz
        obtain⟨x,hx⟩:∃x,so.uses[j]? =some x:=⟨_,List.getElem?_eq_getElem (by rw[HNO.out];exact hlt)⟩
        obtain⟨y,hy⟩:∃y,sn.uses[j]? =some y:=⟨_,List.getElem?_eq_getElem (by rw[HNU.out];exact hlt)⟩
        have hor:=own_below HO9.out.uses BW.out
        have hur:=own_below HU9.out BW.out
        rw[HUO.out,HNO.out] at hor
        rw[HUV.out,HNU.out] at hur
        obtain⟨g2,hA2,_,hg2,e1,e2⟩:=use_cell hor hx HNO.out
        obtain⟨g3,hA3,hB3,hg3,e3,e4⟩:=use_cell hur hy HNU.out
        subst hA2 hA3
        have l2:=(HL9.out.below BW.out HL9.out.lt).cell 2
        have huv0:=HUV.out
        simp[lkc,huv0] at l2
        have hlr:l<wr.heap.size:=by have:=HL9.out.lt;have:=BW.out.size;omega
        have hran:Hid (wr.rangeAt g2 (j * 2) (uc x).toList):=hid (by
         intro i u hu
         rcases i with _ | _ | i
         ·rw[←(Option.some.inj hu:_=u)];exact e1
         ·rw[←(Option.some.inj hu:_=u)];exact e2
         ·simp[uc] at hu)
        have HX:=hid hx
        have HY:=hid hy
        have HWR:Hid (w9.heap.size≤wr.heap.size):=hid BW.out.size
        have E4:=hid e4
        have L2:=hid l2
        clear hx hy hor hur huv0 e1 e2 e3 e4 o2 l2
        go_upto_region 15 with (first | (refine wpList_load_mid rfl 39 (.tmp 126) rfl g2 (j * 2) rfl (uc x).toList _ hran.out Tryz.underlying39 rfl info_ju ?_) | (refine wpList_store_box rfl 39 (.tmp 19) (.tmp 127) rfl wr.heap.size (uc x) rfl rfl 39 _ (Box.new wr _ _) info_ju rfl (uc_one _) ?_;intro w10 hx10 hu10 hz10;have HX10:=hid hx10;have HU10:=hid hu10;have HZ10:=hid hz10;clear hx10 hu10 hz10))
        have hb10:Below wr.heap.size wr w10:=(below1 wr _).trans (HU10.out.own (Nat.le_refl _) (by simp))
        have q4:w10.cell? ⟨g3,j * 2+1,none⟩=some (.int .i64 y.2):=by rw[hb10.cell (p:=⟨g3,j * 2+1,none⟩) hg3];exact E4.out
        have q2:w10.cell? ⟨l,2,none⟩=some (.slice (some ⟨g3,0,none⟩) no capu):=by rw[hb10.cell (p:=⟨l,2,none⟩) hlr];exact L2.out
        have q1:w10.cell? ⟨wr.heap.size,1,none⟩=some (.int .i64 x.2):=HX10.out.cell 1
        have HB10:Hid (Below w9.heap.size w9 w10):=hid (BW.out.trans (hb10.mono BW.out.size))
        clear hb10 HU10 HZ10
        by_cases hxy:x.2=y.2
        ·have z1:(x.2 != y.2)=false:=by simp[hxy]
         go_quiet (fail)
         go_wp2_with fail
         go_roundg (no - (j+1))
         case measure=>omega
         case rel=>exact⟨j+1,by omega,by omega,by go_num,hid (below_drewN HB10.out nq),hid (by
          rw[List.take_add_one,List.take_add_one,HX.out,HY.out,List.map_append,List.map_append,AA.out]
          simp[hxy])⟩
        ·have z1:(x.2 != y.2)=true:=by simp[hxy]
         have HR6:Hid (Scopy.rename n k nm known=(Scopy.zero,6)):=hid (by
          rw[HRN.out,if_neg]
          rintro⟨_,h,_⟩
          have h1:=congrArg (fun l:List Int=>l[j]?) h
          simp only[List.getElem?_map,HX.out,HY.out,Option.map_some,Option.some.injEq] at h1
          exact hxy h1)
         go_quiet (fail)
         have HBq:=hid (HB9.out.trans ((below_drewN HB10.out nq).mono HB9.out.size))
         have NBq:=hid (NB9.out.below (below_drewN HB10.out nq) NB9.out.lt)
         have nb:=NBq.out
         go_wp2_with (first | (refine wpList_store_box rfl 24 (.tmp 8) (.tmp 139) rfl (w.heap.size+1) #[.int .i64 0,.int .i64 0,.string ⟨#[]⟩,.slice none 0 0] rfl rfl 24 _ nb info_nod rfl (by simp[Value.oneCell']) ?_;intro wy hxz huz hzz;have HZZ:=hid hzz;clear hzz) | (refine bodyPost_ret (results_box_tmp rfl _ _ (w.heap.size+1) 24 _ _ rfl hxz Tryz.underlying24 rfl info_nod) rfl ?_))
         rw[HR6.out]
         exact⟨_,rfl,NodeAt.leaf _ _ 0 0 [],HBq.out.trans (huz.own (by omega) HBq.out.size)⟩
       ·have hltz:¬(j:Int)<(no:Int):=by omega
        have hltd:decide ((j:Int)<(no:Int))=false:=decide_eq_false hltz
        obtain rfl:j=no:=by omega
        have hus:so.uses.map (·.2)=sn.uses.map (·.2):=by
         have:=AA.out
         rwa [List.take_of_length_le (by rw[HNO.out];omega),List.take_of_length_le (by rw[HNU.out];omega)] at this
        have HUS:=hid hus
        clear hltz hltd hlt hgg hj
        clear hus o2
        have hdo0:=HDO.out
        have r1:wr.cell? ⟨l6,1,none⟩=some (.slice Do so.decls.length capd):=by have:=(HO9.out.below BW.out).box.cell 1;simp[lkc,hdo0] at this;exact this
        have r2:wr.cell? ⟨l,1,none⟩=some (.slice (some ⟨g0,0,none⟩) m cap):=by have:=(HL9.out.below BW.out HL9.out.lt).cell 1;have hdv1:=HDV.out;simp[lkc,hdv1] at this;exact this
        have R1:=hid r1
        have R2:=hid r2
        have hod:=own_below HO9.out.decls BW.out
        have hld:=own_below HD9.out BW.out
        rw[hdo0] at hod
        have hlen:(sn.decls.set k {d with name:=nm}).length=m:=by rw[List.length_set,HM.out]
        have hrd1:RdL wr 4 dc so.decls (.slice Do so.decls.length capd):=Rd.own hod
        have hrd2:RdL wr 4 dc (sn.decls.set k {d with name:=nm}) (.slice (some ⟨g0,0,none⟩) m cap):=by have:=Rd.own hld;unfold RdL;rw[hlen];exact this
        have HEQ:Hid (∀W,Below wr.heap.size wr W→Calls Tryz.prog 15 #[.slice Do so.decls.length capd,.slice (some ⟨g0,0,none⟩) m cap] W fun e w'=>e= .returned (.bool (decide (so.decls=sn.decls.set k {d with name:=nm})))∧Below W.heap.size W w'):=hid (fun W hW=>equal_jd so.decls _ _ _ W (hrd1.below hW) (hrd2.below hW) (by omega) (by rw[List.length_set];exact hln.1))
        obtain⟨bq,hbq⟩:∃b,decide (so.decls=sn.decls.set k {d with name:=nm})=b:=⟨_,rfl⟩
        have HBQ:=hid hbq
        rw[hbq] at HEQ
        have HB11:=hid (HB9.out.trans (BW.out.mono HB9.out.size))
        have NB11:=hid (NB9.out.below BW.out NB9.out.lt)
        have HX11:=hid (HX9.out.below BW.out HX9.out.lt)
        have HN11:=hid (HN9.out.below BW.out)
        clear r1 r2 hod hld hrd1 hrd2 hbq hdo0 hlen
        go_upto_region 18 with fail
        refine wp_region_until 8 (fun w'=>w'.cell? ⟨l6,1,none⟩=some (.slice Do so.decls.length capd)∧w'.cell? ⟨l,1,none⟩=some (.slice (some ⟨g0,0,none⟩) m cap)) (by kernel_rfl) ⟨R1.out,R2.out⟩ (fun hHeld=> ?_)
        clear hHeld
        obtain⟨wd,hwd⟩:∃wd,wr.drew=wd:=⟨_,rfl⟩
        have R1:Hid (wd.cell? ⟨l6,1,none⟩=some (.slice Do so.decls.length capd)):=hid (hwd ▸ R1.out)
        have R2:Hid (wd.cell? ⟨l,1,none⟩=some (.slice (some ⟨g0,0,none⟩) m cap)):=hid (hwd ▸ R2.out)
        have HBD:Hid (Below wr.heap.size wr wd):=hid (hwd ▸ (Below.refl wr.heap.size wr).drew)
        rw[hwd]
        clear hwd
        refine tU (i:=0) (v:= ?_) rfl ?_ (.inr ⟨R1.out,R2.out⟩) ?_
        rotate_left
        ·intro w hSw
         go_simp
         try (with_reducible rfl)
        (try simp only[Act.put,sq])
        refine tU (i:=1) (v:= ?_) rfl ?_ (.inr ⟨R1.out,R2.out⟩) ?_
        rotate_left
        ·intro w hSw
         go_simp
         try (with_reducible rfl)
        (try simp only[Act.put,sq])
        refine tU (i:=2) (v:= ?_) rfl ?_ (.inr ⟨R1.out,R2.out⟩) ?_
        rotate_left
        ·intro w hSw
         go_simp
         try (with_reducible rfl)
        (try simp only[Act.put,sq])
        refine tV (i:=3) (v:= ?_) rfl ?_ ⟨R1.out,R2.out⟩ ?_
        rotate_left
        ·intro w hSw
         have c1:=hSw.1
         have c2:=hSw.2
         go_simp
         try (with_reducible rfl)
        (try simp only[Act.put,sq])
        refine tU (i:=4) (v:= ?_) rfl ?_ (.inr ⟨R1.out,R2.out⟩) ?_
        rotate_left
        ·intro w hSw
         go_simp
         try (with_reducible rfl)
        (try simp only[Act.put,sq])
        refine tU (i:=5) (v:= ?_) rfl ?_ (.inr ⟨R1.out,R2.out⟩) ?_
        rotate_left
        ·intro w hSw
         go_simp
         try (with_reducible rfl)
        (try simp only[Act.put,sq])
        refine tU (i:=6) (v:= ?_) rfl ?_ (.inr ⟨R1.out,R2.out⟩) ?_
        rotate_left
        ·intro w hSw
         go_simp
         try (with_reducible rfl)
        (try simp only[Act.put,sq])
        refine tV (i:=7) (v:= ?_) rfl ?_ ⟨R1.out,R2.out⟩ ?_
        rotate_left
        ·intro w hSw
         have c1:=hSw.1
         have c2:=hSw.2
         go_simp
         try (with_reducible rfl)
        (try simp only[Act.put,sq])
        refine rdU 8 rfl fun K hK=> ?_
        go_simp
        have HCALL:=hid (HEQ.out _ HBD.out)
        refine HCALL.out.mono ?_
        rintro e w12 ⟨rfl,hb12⟩
        have HB12:=hid (HB11.out.trans ((HBD.out.trans (hb12.mono HBD.out.size)).mono HB11.out.size))
        have HBW:=hid (HBD.out.trans (hb12.mono HBD.out.size))
        have NB12:=hid (NB11.out.below HBW.out NB11.out.lt)
        have HX12:=hid (HX11.out.below HBW.out HX11.out.lt)
        have HN12:=hid (HN11.out.below HBW.out)
        clear hb12 HCALL HEQ NB11 HX11 HN11 HB11
        refine hK.out _ _ (.inl (by kernel_rfl)) (fun hHeld=> ?_)
        clear hK hHeld K
        (try simp only[Act.put,sq])
        refine rdU 9 rfl fun K hK=> ?_
        go_simp
        refine hK.out _ _ (.inl (by kernel_rfl)) (fun hHeld=> ?_)
        clear hK hHeld K
        (try simp only[Act.put,sq])
        refine wpAnyU_done (by kernel_rfl) ?_ _
        clear hlo hln d0 d1 hkz hkm
        cases bq with
        | false=>
         have HR6:Hid (Scopy.rename n k nm known=(Scopy.zero,6)):=hid (by
          rw[HRN.out,if_neg]
          rintro⟨_,_,h⟩
          rw[HSN.out] at h
          exact of_decide_eq_false HBQ.out h)
         have nb:=NB12.out
         go_wp2_with (first | (refine wpList_store_box rfl 24 (.tmp 8) (.tmp 151) rfl (w.heap.size+1) #[.int .i64 0,.int .i64 0,.string ⟨#[]⟩,.slice none 0 0] rfl rfl 24 _ nb info_nod rfl (by simp[Value.oneCell']) ?_;intro wy hxz huz hzz;have HZZ:=hid hzz;clear hzz) | (refine bodyPost_ret (results_box_tmp rfl _ _ (w.heap.size+1) 24 _ _ rfl hxz Tryz.underlying24 rfl info_nod) rfl ?_))
         rw[HR6.out]
         exact⟨_,rfl,NodeAt.leaf _ _ 0 0 [],HB12.out.trans (huz.own (by omega) HB12.out.size)⟩
        | true=>
         have HR6:Hid (Scopy.rename n k nm known=((Scopy.look known k nm n).2,0)):=hid (by
          rw[HRN.out,if_pos ⟨HEO.out,HUS.out,by rw[HSN.out];exact of_decide_eq_true HBQ.out⟩])
         have nb:=NB12.out
         have na:=HX12.out
         have hi4:=HI4.out
         have hs4:=NodeAt.size HN12.out
         have ho4:=NodeAt.one HN12.out
         go_wp2_with (first | (refine wpList_load_row rfl 24 (.tmp 14) rfl w4.heap.size rfl _ c4 (0,0) _ na Tryz.underlying24 rfl hi4 ?_) | (refine wpList_store_box rfl 24 (.tmp 8) (.tmp 152) rfl (w.heap.size+1) c4 rfl rfl 24 _ nb hi4 hs4.symm ho4 ?_;intro wy hxz huz hzz;have HZZ:=hid hzz;clear hzz) | (refine bodyPost_ret (results_box_tmp rfl _ _ (w.heap.size+1) 24 _ _ rfl hxz Tryz.underlying24 rfl hi4) rfl ?_))
         rw[HR6.out]
         have hwc:=HWC.out
         have hnz:=HNZ.out
         exact⟨c4,rfl,HN12.out.keep (fun g h _=>by have h:wc.heap.size≤g:=h;show w.heap.size≤g;omega) huz.size (fun g h hg=>huz.block g hg (fun e=>by injection e with e;have h:wc.heap.size≤g:=h;omega)),HB12.out.trans (huz.own (by omega) HB12.out.size)⟩
     ·have z1:(((0:Nat):Int) != 0)=false:=rfl
      have z2:((no:Int) != (nu:Int))=true:=by simp;omega
      have z3:((0:Int) != 0)=false:=rfl
      have z4:decide ((no:Int)=(nu:Int))=false:=decide_eq_false (by omega)
      have HR6:Hid (Scopy.rename n dk nm known=(Scopy.zero,6)):=hid (by
       rw[HRN.out,if_neg]
       rintro⟨_,h,_⟩
       have h:=congrArg List.length h
       rw[List.length_map,List.length_map,HNO.out,HNU.out] at h
       exact y2 h)
      clear y2
      go_upto_region 9 with fail
      go_quiet (fail)
      have HBq:=hid (below_drewN HB7.out nq)
      have NBq:=hid (NB7.out.drewN nq)
      have nb:=NBq.out
      go_wp2_with (first | (refine wpList_store_box rfl 24 (.tmp 8) (.tmp 109) rfl (w.heap.size+1) #[.int .i64 0,.int .i64 0,.string ⟨#[]⟩,.slice none 0 0] rfl rfl 24 _ nb info_nod rfl (by simp[Value.oneCell']) ?_;intro wy hxz huz hzz;have HZZ:=hid hzz;clear hzz) | (refine bodyPost_ret (results_box_tmp rfl _ _ (w.heap.size+1) 24 _ _ rfl hxz Tryz.underlying24 rfl info_nod) rfl ?_))
      rw[HR6.out]
      exact⟨_,rfl,NodeAt.leaf _ _ 0 0 [],HBq.out.trans (huz.own (by omega) HBq.out.size)⟩
    ·have z1:((eo:Int) != 0)=true:=by simp;omega
     have HR6:Hid (Scopy.rename n dk nm known=(Scopy.zero,6)):=hid (by
      rw[HRN.out,if_neg]
      rintro⟨h,_⟩
      rw[HEO.out] at h
      exact y1 h)
     clear y1
     go_upto_region 9 with fail
     go_quiet (fail)
     have HBq:=hid (below_drewN HB7.out nq)
     have NBq:=hid (NB7.out.drewN nq)
     have nb:=NBq.out
     go_wp2_with (first | (refine wpList_store_box rfl 24 (.tmp 8) (.tmp 109) rfl (w.heap.size+1) #[.int .i64 0,.int .i64 0,.string ⟨#[]⟩,.slice none 0 0] rfl rfl 24 _ nb info_nod rfl (by simp[Value.oneCell']) ?_;intro wy hxz huz hzz;have HZZ:=hid hzz;clear hzz) | (refine bodyPost_ret (results_box_tmp rfl _ _ (w.heap.size+1) 24 _ _ rfl hxz Tryz.underlying24 rfl info_nod) rfl ?_))
     rw[HR6.out]
     exact⟨_,rfl,NodeAt.leaf _ _ 0 0 [],HBq.out.trans (huz.own (by omega) HBq.out.size)⟩
 ·have d0:((ec:Int) != 0)=true:=by simp;omega
  have HRN:Hid (Scopy.rename n dk nm known=(Scopy.zero,ec)):=hid (by unfold Scopy.rename;rw[HEC.out,if_pos h0])
  clear h0
  have nb:=NB2.out
  go_upto_region 3 with fail
  refine wp_region_until 6 (fun w'=>Box w' (w.heap.size+1) 24 #[.int .i64 0,.int .i64 0,.string ⟨#[]⟩,.slice none 0 0]∧w'.cell? ⟨l,3,none⟩=some (.int .i64 (ec:Int))) (by kernel_rfl) ⟨NB2.out.drew,l3⟩ (fun hHeld=> ?_)
  clear hHeld
  obtain⟨wd,hwd⟩:∃wd,w2.drew=wd:=⟨_,rfl⟩
  have HLD:Hid (Box wd (w.heap.size+1) 24 #[.int .i64 0,.int .i64 0,.string ⟨#[]⟩,.slice none 0 0]):=hid (hwd ▸ NB2.out.drew)
  have HLC:Hid (wd.cell? ⟨l,3,none⟩=some (.int .i64 (ec:Int))):=hid (hwd ▸ l3)
  have HLW:Hid (l<wd.heap.size):=hid (hwd ▸ HL2.out.box.lt)
  have HBD:Hid (Below w.heap.size w wd):=hid (hwd ▸ HB2.out.drew)
  rw[hwd]
  clear hwd l3 nb
  refine tV (i:=0) (v:= ?_) rfl ?_ ⟨HLD.out,HLC.out⟩ ?_
  rotate_left
  ·intro w hSw
   go_simp
   try (with_reducible rfl)
  (try simp only[Act.put,sq])
  refine tV (i:=1) (v:= ?_) rfl ?_ ⟨HLD.out,HLC.out⟩ ?_
  rotate_left
  ·intro w hSw
   go_simp
   try (with_reducible rfl)
  (try simp only[Act.put,sq])
  refine tV (i:=2) (v:= ?_) rfl ?_ ⟨HLD.out,HLC.out⟩ ?_
  rotate_left
  ·intro w hSw
   go_simp
   try (with_reducible rfl)
  (try simp only[Act.put,sq])
  refine tV (i:=3) (v:= ?_) rfl ?_ ⟨HLD.out,HLC.out⟩ ?_
  rotate_left
  ·intro w hSw
   go_simp
   try (with_reducible rfl)
  (try simp only[Act.put,sq])
  refine tV (i:=4) (v:= .int .i64 (ec:Int)) rfl ?_ ⟨HLD.out,HLC.out⟩ ?_
  ·intro w hSw
   have cq:=hSw.2
   go_simp
  (try simp only[Act.put,sq])
  refine rdU 5 rfl fun K hK=> ?_
  refine step_store_box rfl 24 (.tmp 8) (.tmp 31) rfl (w.heap.size+1) #[.int .i64 0,.int .i64 0,.string ⟨#[]⟩,.slice none 0 0] (by simp[Act.eval,Act.put]) (by simp[Act.eval,Act.put]) 24 _ HLD.out info_nod rfl (by simp[Value.oneCell']) ?_
  intro w4 hx4 hu4 hz4
  have HX4:=hid hx4
  have HU4:=hid hu4
  have HLL:Hid (w.heap.size+1<l):=hid (by have:=HL2.out.bl;have:=HZ0.out;omega)
  have hq4:w4.cell? ⟨l,3,none⟩=some (.int .i64 (ec:Int)):=by rw[World.cell?_of_block ((Fr.upd hu4).block l HLW.out (by have:=HLL.out;show ¬l=w.heap.size+1;omega))];exact HLC.out
  refine hK.out _ _ (.inr ⟨hx4,hq4⟩) (fun hHeld=> ?_)
  clear hK hHeld K hx4 hu4 hz4 hq4
  (try simp only[Act.put,sq])
  refine rdU 6 rfl fun K hK=> ?_
  go_simp
  refine hK.out _ _ (.inl rfl) (fun hHeld=> ?_)
  clear hK hHeld K
  (try simp only[Act.put,sq])
  refine wpAnyU_done (by kernel_rfl) ?_ _
  go_wp2_with fail
  have hx:=HX4.out
  refine bodyPost_ret (results_box_tmp rfl _ _ (w.heap.size+1) 24 _ _ rfl hx Tryz.underlying24 rfl info_nod) rfl ?_
  rw[HRN.out]
  exact⟨_,rfl,NodeAt.leaf _ _ 0 0 [],HBD.out.trans (HU4.out.own (by omega) HBD.out.size)⟩
end Go.Proofs.YtflmjbmdmoifhaaGreatDoor
namespace Go.Proofs.YtflmjbmdmoifhaaGreatDoor
open Go.Lib (hid)
open Go.RowKit
theorem ret_str {a b:ByteArray} (h:a=b):Ending.returned (.string a)= .returned (.string b):=by rw[h]
theorem ranks_drop:∀r,r<6→Pars.ranks.drop r=Pars.ranks.getD r [] :: Pars.ranks.drop (r+1):=by decide
theorem rank_15 (nu:Int) (t:List UInt8) (l:List Pars.Node):Wri.rank (.mk 15 nu t l)=Wri.rankOf 0 Pars.ranks t:=rfl
set_option maxRecDepth 100000 in
set_option maxHeartbeats 4000000 in
theorem rank_any (k nu:Int) (t:List UInt8) (l:List Pars.Node) (A:Option Addr) (n c:Nat) (w:World):Calls Tryz.prog 91 #[.agg (nc k nu t (.slice A n c))] w fun e w'=>e= .returned (.int .i64 (Wri.rank (.mk k nu t l)))∧Below w.heap.size w w':=by
 obtain⟨T,hTe⟩:∃q,byt t=q:=⟨_,rfl⟩
 have HT:=hid hTe
 have e0:nc k nu t (.slice A n c)= #[.int .i64 k,.int .i64 nu,.string T,.slice A n c]:=by rw[←hTe];rfl
 rw[e0]
 clear hTe e0
 go_enter Tryz.func91,Tryz.ntmps91
 go_upto_region 1 with fail
 refine gen_world (F:=fun W=>Box W w.heap.size 24 #[.int .i64 k,.int .i64 nu,.string T,.slice A n c]∧Below w.heap.size w W) ⟨Box.new w _ _,below1 w _⟩ ?_
 rintro W0 ⟨b0,hU⟩
 have NB:=hid b0
 have HU:=hid hU
 have c0:=b0.cell 0
 have c2:=b0.cell 2
 simp at c0 c2
 clear b0 hU
 go_upto_region 2 with fail
 by_cases y19:k=19
 ·subst y19
  go_wp2
  go_ret
  exact⟨congrArg (fun z:Int=>Ending.returned (.int .i64 z)) (a₁:= -2) (Eq.symm (by simp[Wri.rank,Pars.Node.kind,Pars.Node.text])),HU.out⟩
 have n19:(k==19)=false:=bn y19
 go_upto_region 4 with fail
 by_cases y18:k=18
 ·subst y18
  go_wp2
  go_ret
  exact⟨congrArg (fun z:Int=>Ending.returned (.int .i64 z)) (a₁:= -1) (Eq.symm (by simp[Wri.rank,Pars.Node.kind,Pars.Node.text])),HU.out⟩
 have n18:(k==18)=false:=bn y18
 go_upto_region 6 with fail
 by_cases y17:k=17
 ·subst y17
  go_wp2
  go_ret
  exact⟨congrArg (fun z:Int=>Ending.returned (.int .i64 z)) (a₁:=0) (Eq.symm (by simp[Wri.rank,Pars.Node.kind,Pars.Node.text])),HU.out⟩
 have n17:(k==17)=false:=bn y17
 go_upto_region 8 with fail
 by_cases y16:k=16
 ·subst y16
  go_wp2
  go_ret
  exact⟨congrArg (fun z:Int=>Ending.returned (.int .i64 z)) (a₁:=1) (Eq.symm (by simp[Wri.rank,Pars.Node.kind,Pars.Node.text])),HU.out⟩
 have n16:(k==16)=false:=bn y16
 go_upto_region 10 with fail
 by_cases y15:k=15
 ·subst y15
  clear c0
  go_wp2_with fail
  refine (ranks_any _).mono ?_
  rintro e w1 ⟨vs,rfl,hb,hix⟩
  have hw0:=HU.out.size
  replace NB:=bl NB hb
  replace HU:=hid (HU.out.trans (hb.mono hw0))
  clear c2 hb hw0
  have c2:=NB.out.cell 2
  simp at c2
  have HIX:=hid hix
  clear hix
  go_wp2
  go_loopg [20] 6 (fun gg s20 wr=>∃r:Nat,r≤6∧6 - r≤gg∧s20= .int .i64 (r:Int)∧wr=w1∧Hid (Wri.rankOf 0 Pars.ranks t=Wri.rankOf r (Pars.ranks.drop r) t))
  case atStart=>exact⟨0,by omega,by omega,rfl,rfl,hid rfl⟩
  case round=>
   obtain⟨r,hr,hg,rfl,rfl,HR⟩:=hrel
   by_cases hlt:r<6
   ·have hltz:(r:Int)<6:=by omega
    have hltd:decide ((r:Int)<6)=true:=decide_eq_true hltz
    have wr1:IntKind.i64.wrap ((r:Int)+1)=(r:Int)+1:=by rw[IntKind.wrap_i64];omega
    obtain⟨gq,hgq,hgl,hix2,hrg⟩:=HIX.out r hlt
    obtain⟨ss,hss⟩:∃q,Pars.ranks.getD r []=q:=⟨_,rfl⟩
    have hsl:ss.length≤4:=by rw[←hss];exact ranks_len r hlt
    have HDR:Hid (Pars.ranks.drop r=ss :: Pars.ranks.drop (r+1)):=hid (by rw[←hss];exact ranks_drop r hlt)
    rw[hss] at hix2 hrg
    have GR:=hid hrg
    clear hss hrg
    go_wp2
    clear hix2
    go_loopg [26] ss.length (fun gg s26 wi=>∃j:Nat,j≤ss.length∧ss.length - j≤gg∧s26= .int .i64 (j:Int)∧wi=wr∧Hid (t∉ss.take j))
    case atStart=>exact⟨0,Nat.zero_le _,by omega,rfl,rfl,hid (by simp)⟩
    case round=>
     obtain⟨j,hj,hgj,rfl,hwe,HNI⟩:=hrel
     subst hwe
     by_cases hl2:j<ss.length
     ·have hjz:(j:Int)<(ss.length:Int):=by omega
      have hjd:decide ((j:Int)<(ss.length:Int))=true:=decide_eq_true hjz
      have wj:IntKind.i64.wrap ((j:Int)+1)=(j:Int)+1:=by rw[IntKind.wrap_i64];omega
      obtain⟨sj,hsj⟩:∃q,ss[j]? =some q:=⟨_,List.getElem?_eq_getElem hl2⟩
      have hcj:=GR.out j (.string (byt sj)) (by simp[hsj])
      rw[Nat.zero_add] at hcj
      have htk:Hid (ss.take (j+1)=ss.take j++[sj]):=hid (by rw[List.take_add_one,hsj];rfl)
      have HMEM:Hid (sj∈ss):=hid (List.mem_of_getElem? hsj)
      clear hsj
      obtain⟨SJ,hSJ⟩:∃q,byt sj=q:=⟨_,rfl⟩
      have HSJ:=hid hSJ
      rw[hSJ] at hcj
      clear hSJ
      by_cases z:SJ=T
      ·have hz:sj=t:=byt_inj (HSJ.out.trans (z.trans HT.out.symm))
       subst z
       obtain⟨q1,q2⟩:=same_yes SJ
       go_wp2
       go_ret
       exact⟨congrArg (fun z:Int=>Ending.returned (.int .i64 z)) (a₁:=(r:Int)) (by show (r:Int)=Wri.rank _;rw[rank_15,HR.out,HDR.out];simp only[Wri.rankOf];rw[if_pos (by rw[←hz];exact HMEM.out)]),HU.out⟩
      have hz:¬sj=t:=fun e=>z (by rw[←HSJ.out,e,HT.out])
      have HZ:=hid hz
      obtain⟨q1,q2,q3⟩:=same_no z
      have q4:=of_decide_eq_false q2
      clear z hz
      go_wp2
      go_roundg (ss.length - (j+1))
      case measure=>omega
      case rel=>exact⟨j+1,by omega,by omega,rfl,rfl,hid (by rw[htk.out];intro h;rcases List.mem_append.1 h with h | h;exact HNI.out h;exact HZ.out (List.mem_singleton.1 h).symm)⟩
     have hjz:¬(j:Int)<(ss.length:Int):=by omega
     have hjd:decide ((j:Int)<(ss.length:Int))=false:=decide_eq_false hjz
     have HN2:Hid (t∉ss):=hid (by have:=HNI.out;rwa [List.take_of_length_le (by omega)] at this)
     go_wp2
     go_roundg (6 - (r+1))
     case measure=>omega
     case rel=>exact⟨r+1,by omega,by omega,rfl,rfl,hid (by rw[HR.out,HDR.out];simp only[Wri.rankOf];rw[if_neg HN2.out])⟩
   ·obtain rfl:r=6:=by omega
    have hd6:decide (((6:Nat):Int)<6)=false:=by decide
    go_wp2
    go_ret
    exact⟨congrArg (fun z:Int=>Ending.returned (.int .i64 z)) (a₁:=8) (by show (8:Int)=Wri.rank _;rw[rank_15,HR.out];rfl),HU.out⟩
 have n15:(k==15)=false:=bn y15
 go_upto_region 21 with fail
 by_cases y14:k=14
 ·subst y14
  go_wp2
  go_ret
  exact⟨congrArg (fun z:Int=>Ending.returned (.int .i64 z)) (a₁:=6) (Eq.symm (by simp[Wri.rank,Pars.Node.kind,Pars.Node.text])),HU.out⟩
 have n14:(k==14)=false:=bn y14
 go_upto_region 23 with fail
 by_cases y11:k=11
 ·subst y11
  go_wp2
  go_ret
  exact⟨congrArg (fun z:Int=>Ending.returned (.int .i64 z)) (a₁:=7) (Eq.symm (by simp[Wri.rank,Pars.Node.kind,Pars.Node.text])),HU.out⟩
 have n11:(k==11)=false:=bn y11
 go_upto_region 24 with fail
 by_cases y12:k=12
 ·subst y12
  go_wp2
  go_ret
  exact⟨congrArg (fun z:Int=>Ending.returned (.int .i64 z)) (a₁:=7) (Eq.symm (by simp[Wri.rank,Pars.Node.kind,Pars.Node.text])),HU.out⟩
 have n12:(k==12)=false:=bn y12
 go_upto_region 25 with fail
 by_cases y13:k=13
 ·subst y13
  go_wp2
  go_ret
  exact⟨congrArg (fun z:Int=>Ending.returned (.int .i64 z)) (a₁:=7) (Eq.symm (by simp[Wri.rank,Pars.Node.kind,Pars.Node.text])),HU.out⟩
 have n13:(k==13)=false:=bn y13
 go_wp2
 go_ret
 exact⟨congrArg (fun z:Int=>Ending.returned (.int .i64 z)) (a₁:=8) (Eq.symm (by simp[Wri.rank,Pars.Node.kind,Pars.Node.text,y19,y18,y17,y16,y15,y14,y11,y12,y13])),HU.out⟩
set_option maxRecDepth 100000 in
set_option maxHeartbeats 4000000 in
theorem sign_any (k nu:Int) (t:List UInt8) (A:Option Addr) (n c:Nat) (w:World):Calls Tryz.prog 114 #[.agg (nc k nu t (.slice A n c))] w fun e w'=>e= .returned (.string (byt (Wri.sgn k t)))∧Below w.heap.size w w':=by
 obtain⟨T,hTe⟩:∃q,byt t=q:=⟨_,rfl⟩
 have HT:=hid hTe
 have e0:nc k nu t (.slice A n c)= #[.int .i64 k,.int .i64 nu,.string T,.slice A n c]:=by rw[←hTe];rfl
 rw[e0]
 clear hTe e0
 go_enter Tryz.func114,Tryz.ntmps114
 go_upto_region 1 with fail
 refine gen_world (F:=fun W=>Box W w.heap.size 24 #[.int .i64 k,.int .i64 nu,.string T,.slice A n c]∧Below w.heap.size w W) ⟨Box.new w _ _,below1 w _⟩ ?_
 rintro W0 ⟨b0,hU⟩
 have NB:=hid b0
 have HU:=hid hU
 have c0:=b0.cell 0
 have c2:=b0.cell 2
 simp at c0 c2
 clear b0 hU
 go_upto_region 2 with fail
 by_cases y17:k=17
 ·subst y17
  go_wp2
  go_ret
  exact⟨ret_str (a:=⟨#[124,124]⟩) rfl,HU.out⟩
 have n17:(k==17)=false:=bn y17
 go_upto_region 4 with fail
 by_cases y16:k=16
 ·subst y16
  go_wp2
  go_ret
  exact⟨ret_str (a:=⟨#[38,38]⟩) rfl,HU.out⟩
 have n16:(k==16)=false:=bn y16
 go_wp2
 go_ret
 exact⟨ret_str (a:=T) (by unfold Wri.sgn;rw[if_neg y17,if_neg y16,HT.out]),HU.out⟩
end Go.Proofs.YtflmjbmdmoifhaaGreatDoor
namespace Go.Proofs.YtflmjbmdmoifhaaGreatDoor
open Go.Lib (hid)
open Go.RowKit Go.Shelf
theorem bu_size:(Tryz.prog.info? 85).map (fun j=>j.size)=some 2:=by kernel_rfl
theorem bu_byte:(Tryz.prog.info? 5).map (fun i=>(i.zero,i.size,i.bytes))=some (some (.int .u8 0),1,1):=by kernel_rfl
set_option maxRecDepth 100000 in
set_option maxHeartbeats 1000000 in
theorem check_used (b:Nat) (w:World) (h0:w.cell? ⟨b,0,none⟩=some (.pointer (some ⟨b,0,none⟩))):
  Calls Tryz.prog 54 #[.pointer (some ⟨b,0,none⟩)] w fun e w'=>e= .returned (.tuple #[])∧w'=w:=by
 obtain⟨j,hj,_⟩:=Option.map_eq_some_iff.1 bu_size
 go_enter Tryz.func54,Tryz.ntmps54
 go_wp2
 rw[Lib.run_neq_ptr_same w _ Tryz.underlying82 hj]
 go_wp2
 go_end0
 exact⟨rfl,rfl⟩
end Go.Proofs.YtflmjbmdmoifhaaGreatDoor
namespace Go.Proofs.YtflmjbmdmoifhaaGreatDoor
open Go.Lib (hid)
open Go.RowKit Go.Shelf
def Wt (B b:Nat) (l:List UInt8) (w:World):Prop:=Lib.IsBuilder 87 5 B b (Lib.byteCells l) w
def Stays (b:Nat) (w w':World):Prop:=∀(g:Nat) (t:TypeId) (cs:Array Value),Box w g t cs→t≠5→g≠b→Box w' g t cs
theorem Stays.refl (b:Nat) (w:World):Stays b w w:=fun _ _ _ h _ _=>h
theorem Stays.trans {b:Nat} {w w1 w2:World} (h:Stays b w w1) (k:Stays b w1 w2):Stays b w w2:=fun g t cs hg ht hn=>k g t cs (h g t cs hg ht hn) ht hn
theorem Stays.below {b:Nat} {w w1:World} (h:Below w.heap.size w w1):Stays b w w1:=fun g t cs hg _ _=>hg.below h hg.lt
theorem own_type {w:World} {base:Nat} {e t:TypeId} {size n g:Nat} {v:Value} {xs:List Value} {cs:Array Value} (h:w.ownsRow base e size v n xs) (hg:Box w g t cs) (ht:t≠e):v.ownBlock≠some g:=by
 rcases h.2 with⟨hv,_⟩ | ⟨g',cap,cur,hv,_,hh,_⟩
 ·subst hv;simp[Value.ownBlock]
 ·subst hv
  intro he
  have e1:g'=g:=by simpa [Value.ownBlock] using he
  subst e1
  unfold Box at hg
  rw[hg] at hh
  injection hh with hh
  injection hh with _ h2
  exact ht h2
theorem Wt.below {B b:Nat} {l:List UInt8} {w w1:World} (h:Wt B b l w) (hb:Below w.heap.size w w1):Wt B b l w1:=by
 rcases h with h | h
 ·obtain⟨hB,v,hbk,hown,hne⟩:=h
  exact .inl ⟨hB,v,(hb.block b (Box.lt hbk)).trans hbk,own_below hown hb,hne⟩
 ·obtain⟨hB,v,hbk,hown,hne⟩:=h
  exact .inr ⟨hB,v,(hb.block b (Box.lt hbk)).trans hbk,own_below hown hb,hne⟩
theorem Wt.lt {B b:Nat} {l:List UInt8} {w:World} (h:Wt B b l w):B≤b∧b<w.heap.size:=by
 rcases h with h | h
 ·exact⟨h.1,h.lt⟩
 ·exact⟨h.1,h.lt⟩
theorem wr_size:(Tryz.prog.info? 85).map (fun j=>j.size)=some 2:=by kernel_rfl
theorem wr_lies:liesAt Tryz.prog Tryz.prog.depth 87 (2 / Tryz.prog.cellsOf 87) 0 85 1=true:=by kernel_rfl
theorem wr_ne:87≠5:=by decide
theorem cellsW_cat (a b:List UInt8):Lib.byteCells a++Lib.byteCells b=Lib.byteCells (a++b):=by simp[Lib.byteCells]
theorem cellsW_str (l:List UInt8):Lib.strCells ⟨l.toArray⟩=Lib.byteCells l:=by simp[Lib.strCells,Lib.byteCells]
set_option maxRecDepth 100000 in
set_option maxHeartbeats 1000000 in
theorem checkW_fresh (b:Nat) (w:World) (h0:w.cell? ⟨b,0,none⟩=some (.pointer none)) (hsh:w.shape? b=some (87,2)) (hfz:w.frozen? ⟨b,0,none⟩=false):
  Calls Tryz.prog 54 #[.pointer (some ⟨b,0,none⟩)] w fun e w'=>e= .returned (.tuple #[])∧w'=w.setCell ⟨b,0,none⟩ (.pointer (some ⟨b,0,none⟩)):=by
 obtain⟨j,hj,hjs⟩:=Option.map_eq_some_iff.1 wr_size
 go_enter Tryz.func54,Tryz.ntmps54
 go_wp2
 rw[Lib.run_to_unsafe w ⟨b,0,none⟩ Tryz.underlying82 Tryz.underlying130 hj (by rw[hjs];decide) hsh (Nat.zero_lt_succ 1)]
 simp only[Result.andThen]
 rw[Oper.upon_value]
 go_wp2
 rw[run_callFunc_extern Tryz.func87 (by kernel_rfl) (by kernel_rfl) (by kernel_rfl) (e:=Extern.AbiNoEscape.same) (by kernel_rfl)]
 rw[Lib.run_noEscape]
 simp only[Result.andThen]
 rw[Oper.upon_value]
 go_wp2
 rw[Lib.run_from_unsafe w ⟨b,0,none⟩ Tryz.underlying130 Tryz.underlying82 hj hsh wr_lies]
 simp only[Result.andThen]
 rw[Oper.upon_value]
 go_wp2
 go_end0
 exact⟨rfl,rfl⟩
theorem checkW (B b:Nat) (bs:List Value) (w:World) (h:Lib.IsBuilder 87 5 B b bs w):
  Calls Tryz.prog 54 #[.pointer (some ⟨b,0,none⟩)] w fun e w'=>e= .returned (.tuple #[])∧(Lib.BuilderAt 87 5 B b (.pointer (some ⟨b,0,none⟩)) bs w'∧Below B w w'∧Stays b w w'):=by
 rcases h with h | h
 ·refine (checkW_fresh b w h.cell0 h.shape h.frozen0).mono ?_
  rintro e w' ⟨rfl,rfl⟩
  exact⟨rfl,h.used _,(Below.refl B w).setCell (p:=⟨b,0,none⟩) h.1 _,fun g t cs hg _ hn=>Box.far hg (p:=⟨b,0,none⟩) hn _⟩
 ·refine (check_used b w h.cell0).mono ?_
  rintro e w' ⟨rfl,rfl⟩
  exact⟨rfl,h,Below.refl B _,fun g t cs hg _ _=>hg⟩
set_option maxRecDepth 100000 in
set_option maxHeartbeats 1000000 in
theorem writeW_byte (B b:Nat) (bs:List Value) (c:Int) (w:World) (h:Lib.IsBuilder 87 5 B b bs w) (hlen:bs.length+1≤140737488355328) (hBw:B≤w.heap.size):
  Calls Tryz.prog 32 #[.pointer (some ⟨b,0,none⟩),.int .u8 c] w fun e w'=>e= .returned .nilIface∧Lib.IsBuilder 87 5 B b (bs++[.int .u8 c]) w'∧Below B w w'∧Stays b w w':=by
 obtain⟨i0,hi,hz0,hz1,hz2⟩:=info_parts bu_byte
 go_enter Tryz.func32,Tryz.ntmps32
 go_wp2_with fail
 refine (checkW B b bs _ h).mono ?_
 rintro e w1 ⟨rfl,h1,hb1,hst1⟩
 obtain⟨hB,v,hbk,hown,hne⟩:=h1
 have c0:w1.cell? ⟨b,0,none⟩=some (.pointer (some ⟨b,0,none⟩)):=by rw[Lib.cell_of_heap hbk];rfl
 have c1:w1.cell? ⟨b,1,none⟩=some v:=by rw[Lib.cell_of_heap hbk];rfl
 have HS1:=hid hst1
 clear hst1
 go_wp2_with (at_builtin;refine wpList_append_own _ rfl (.tmp 11) (.tmp 13) 83 rfl B 5 i0 (.int .u8 0) 1 1 Tryz.underlying83 hi hz0 hz1 hz2 rfl (by decide) v bs.length bs rfl (hown.alloc _) ⟨w1.heap.size,0,none⟩ 1 1 [.int .u8 c] rfl rfl ?c1 ?c2 ?c3 ?c4 ?c5 ?_)
 case c1=>
  intro j u hj
  match j,hj with
  | 0,hj=>simp at hj;subst hj;simp[Addr.add]
 case c2=>intro u hu;simp at hu;subst hu;rfl
 case c3=>unfold maxLen;omega
 case c4=>omega
 case c5=>have:=hb1.size;simp;omega
 intro v' w2 hown' hgrow _
 have hlt:b<w1.heap.size:=Box.lt hbk
 have hb2:w2.heap[b]? =some (.cells #[.pointer (some ⟨b,0,none⟩),v] 87 (0,0)):=by
  rw[hgrow.block b (by simp;omega) (fun e=>hne e.symm)]
  exact (Below.heap_alloc w1 _ b hlt).trans hbk
 have d0:w2.cell? ⟨b,0,none⟩=some (.pointer (some ⟨b,0,none⟩)):=by rw[Lib.cell_of_heap hb2];rfl
 have d1:w2.cell? ⟨b,1,none⟩=some v:=by rw[Lib.cell_of_heap hb2];rfl
 have f1:w2.frozen? ⟨b,1,none⟩=false:=Lib.frozen_of_heap hb2 1
 obtain⟨g,cap,rfl⟩:∃g cap,v'= .slice (some ⟨g,0,none⟩) (bs.length+1) cap:=by
  rcases hown'.2 with⟨_,h0⟩ | ⟨g,cap,cur,hv,_⟩
  ·omega
  ·exact⟨g,cap,hv⟩
 go_wp2
 go_ret
 refine⟨rfl,.inr ?_,?_,?_⟩
 ·exact Lib.BuilderAt.put (T:=87) (e:=5) hB hb2 (bs':=bs++[.int .u8 c]) (by simpa using hown') wr_ne
 ·exact ((hb1.alloc (by have:=hb1.size;omega) _).grown hgrow (by have:=hb1.size;simp;omega) (fun k hk=>(hown.lt k hk).1)).setCell (p:=⟨b,1,none⟩) hB _
 ·intro g t cs hg ht hn
  have hg1:=HS1.out g t cs hg ht hn
  have hne2:some g≠v.ownBlock:=fun e=>own_type hown hg1 ht e.symm
  exact Box.far (Box.grown (hg1.alloc _) hgrow hne2) (p:=⟨b,1,none⟩) hn _
set_option maxRecDepth 100000 in
set_option maxHeartbeats 1000000 in
theorem writeW_string (B b:Nat) (bs:List Value) (s:ByteArray) (w:World) (h:Lib.IsBuilder 87 5 B b bs w) (hlen:bs.length+s.size≤140737488355328) (hBw:B≤w.heap.size):
  Calls Tryz.prog 55 #[.pointer (some ⟨b,0,none⟩),.string s] w fun e w'=>e= .returned (.tuple #[.int .i64 s.size,.nilIface])∧Lib.IsBuilder 87 5 B b (bs++Lib.strCells s) w'∧Below B w w'∧Stays b w w':=by
 obtain⟨i0,hi,hz0,hz1,hz2⟩:=info_parts bu_byte
 go_enter Tryz.func55,Tryz.ntmps55
 go_wp2_with fail
 refine (checkW B b bs _ h).mono ?_
 rintro e w1 ⟨rfl,h1,hb1,hst1⟩
 obtain⟨hB,v,hbk,hown,hne⟩:=h1
 have c0:w1.cell? ⟨b,0,none⟩=some (.pointer (some ⟨b,0,none⟩)):=by rw[Lib.cell_of_heap hbk];rfl
 have c1:w1.cell? ⟨b,1,none⟩=some v:=by rw[Lib.cell_of_heap hbk];rfl
 have HS1:=hid hst1
 clear hst1
 go_wp2_with (at_builtin;refine Lib.wpList_append_own_string _ rfl (.tmp 12) (.tmp 13) 83 9 rfl B 5 i0 Tryz.underlying83 Tryz.underlying9 hi hz0 hz1 hz2 v bs.length bs rfl hown s rfl ?c3 ?c4 ?c5 ?_)
 case c3=>unfold maxLen;omega
 case c4=>omega
 case c5=>have:=hb1.size;omega
 intro v' w2 hown' hgrow _
 have hlt:b<w1.heap.size:=Box.lt hbk
 have hb2:w2.heap[b]? =some (.cells #[.pointer (some ⟨b,0,none⟩),v] 87 (0,0)):=by
  rw[hgrow.block b hlt (fun e=>hne e.symm)]
  exact hbk
 have d0:w2.cell? ⟨b,0,none⟩=some (.pointer (some ⟨b,0,none⟩)):=by rw[Lib.cell_of_heap hb2];rfl
 have d1:w2.cell? ⟨b,1,none⟩=some v:=by rw[Lib.cell_of_heap hb2];rfl
 have f1:w2.frozen? ⟨b,1,none⟩=false:=Lib.frozen_of_heap hb2 1
 obtain⟨ao,n',cap,rfl⟩:∃ao n' cap,v'= .slice ao n' cap:=by
  rcases hown'.2 with⟨hv,_⟩ | ⟨g,cap,cur,hv,_⟩
  ·exact⟨_,_,_,hv⟩
  ·exact⟨_,_,_,hv⟩
 go_wp2
 go_ret2
 refine⟨rfl,.inr ?_,?_,?_⟩
 ·exact Lib.BuilderAt.put (T:=87) (e:=5) hB hb2 (bs':=bs++Lib.strCells s) (by simpa [Lib.strCells_length] using hown') wr_ne
 ·exact (hb1.grown hgrow (by have:=hb1.size;omega) (fun k hk=>(hown.lt k hk).1)).setCell (p:=⟨b,1,none⟩) hB _
 ·intro g t cs hg ht hn
  have hg1:=HS1.out g t cs hg ht hn
  have hne2:some g≠v.ownBlock:=fun e=>own_type hown hg1 ht e.symm
  exact Box.far (Box.grown hg1 hgrow hne2) (p:=⟨b,1,none⟩) hn _
def WOut (B b:Nat) (l s:List UInt8) (w:World) (e:Ending) (w':World):Prop:=e= .returned (.tuple #[])∧Wt B b (l++s) w'∧Below B w w'∧Stays b w w'
theorem wbyte (B b:Nat) (l:List UInt8) (c:UInt8) (w:World) (h:Wt B b l w) (hl:l.length≤70368744177664) (hB:B≤w.heap.size):
  Calls Tryz.prog 32 #[.pointer (some ⟨b,0,none⟩),.int .u8 (c.toNat:Int)] w fun e w'=>e= .returned .nilIface∧Wt B b (l++[c]) w'∧Below B w w'∧Stays b w w':=by
 have:=writeW_byte B b (Lib.byteCells l) (c.toNat:Int) w h (by rw[Lib.byteCells_length];omega) hB
 unfold Wt
 rw[←cellsW_cat];exact this
theorem wstr (B b:Nat) (l:List UInt8) (s:List UInt8) (w:World) (h:Wt B b l w) (hl:l.length+s.length≤140737488355328) (hB:B≤w.heap.size):
  Calls Tryz.prog 55 #[.pointer (some ⟨b,0,none⟩),.string (byt s)] w fun e w'=>(∃v,e= .returned v)∧Wt B b (l++s) w'∧Below B w w'∧Stays b w w':=by
 have:=writeW_string B b (Lib.byteCells l) (byt s) w h (by rw[Lib.byteCells_length,byt_size];omega) hB
 rw[show byt s=⟨s.toArray⟩ from rfl,cellsW_str,cellsW_cat] at this
 exact this.mono fun _ _ ⟨h1,h2,h3,h4⟩=>⟨⟨_,h1⟩,h2,h3,h4⟩
end Go.Proofs.YtflmjbmdmoifhaaGreatDoor
namespace Go.Proofs.YtflmjbmdmoifhaaGreatDoor
open Go.Lib (hid)
open Go.RowKit
theorem st {w w1:World} {b g:Nat} {t:TypeId} {cs:Array Value} (hs:Stays b w w1) (h:Hid (Box w g t cs)) (hn:Hid (g≠b)) (ht:t≠5:=by decide):Hid (Box w1 g t cs):=Lib.hid (hs _ _ _ h.out ht hn.out)
end Go.Proofs.YtflmjbmdmoifhaaGreatDoor
namespace Go.Proofs.YtflmjbmdmoifhaaGreatDoor
open Go.Lib (hid)
open Go.RowKit Go.Shelf
theorem Wt.row {B b:Nat} {l:List UInt8} {w:World} (h:Wt B b l w):∃p v,w.heap[b]? =some (.cells #[p,v] 87 (0,0))∧w.ownsRow B 5 1 v l.length (Lib.byteCells l):=by
 rcases h with h | h
 ·obtain⟨_,v,hb,ho,_⟩:=h
  exact⟨_,v,hb,by rw[Lib.byteCells_length] at ho;exact ho⟩
 ·obtain⟨_,v,hb,ho,_⟩:=h
  exact⟨_,v,hb,by rw[Lib.byteCells_length] at ho;exact ho⟩
set_option maxRecDepth 100000 in
set_option maxHeartbeats 1000000 in
theorem wlen (B b:Nat) (l:List UInt8) (w:World) (h:Wt B b l w):
  Calls Tryz.prog 34 #[.pointer (some ⟨b,0,none⟩)] w fun e w'=>e= .returned (.int .i64 (l.length:Int))∧w'=w:=by
 obtain⟨p,v,hb,ho⟩:=h.row
 obtain⟨ao,cap,rfl⟩:∃ao cap,v= .slice ao l.length cap:=by
  rcases ho.2 with⟨hv,h0⟩ | ⟨g,cap,cur,hv,_⟩
  ·exact⟨none,0,by rw[hv,h0]⟩
  ·exact⟨_,_,hv⟩
 have c1:w.cell? ⟨b,1,none⟩=some (.slice ao l.length cap):=by rw[Lib.cell_of_heap hb];rfl
 go_enter Tryz.func34,Tryz.ntmps34
 go_wp2
 go_ret
 exact⟨rfl,rfl⟩
theorem cellsByte:Tryz.prog.cellsOf 5=1:=by kernel_rfl
set_option maxRecDepth 100000 in
set_option maxHeartbeats 1000000 in
theorem wstring (B b:Nat) (l:List UInt8) (w:World) (h:Wt B b l w) (hBw:B≤w.heap.size):
  Calls Tryz.prog 35 #[.pointer (some ⟨b,0,none⟩)] w fun e w'=>e= .returned (.string (byt l))∧Below B w w':=by
 obtain⟨p,v,hbk,hown⟩:=h.row
 have hlt:=h.lt.2
 have mixed:Tryz.prog.follows .mixedOrders=true:=by kernel_rfl
 by_cases h0:l=[]
 ·subst h0
  have hUS:∀(W:World) (q:Option Addr),(Builtin.unsafeString_ #[113,3] 9 #[.pointer q,.int .i64 0]).run Tryz.prog W= .ok (.string .empty) W:=fun W q=>Lib.run_unsafeString_none W _ _ _ q
  rcases hown.2 with⟨rfl,_⟩ | ⟨g,cap,cur,rfl,hbg,hg,_,_,_,_⟩
  ·have c1:w.drew.cell? ⟨b,1,none⟩=some (.slice none 0 0):=by
    have:w.drew.heap[b]? =some (.cells #[p,.slice none 0 0] 87 (0,0)):=hbk
    rw[Lib.cell_of_heap this];rfl
   have hSD:(Builtin.unsafeSliceData_ #[83] 113 #[.slice none 0 0]).run Tryz.prog w.drew= .ok (.pointer none) w.drew:=rfl
   go_enter Tryz.func35,Tryz.ntmps35
   go_wp2
   go_region_o
   all_goals (go_wp2;go_ret;exact⟨rfl,Below.drew (Below.refl B w)⟩)
  ·by_cases hc0:cap=0
   ·subst hc0
    have c1:w.drew.cell? ⟨b,1,none⟩=some (.slice (some ⟨g,0,none⟩) 0 0):=by
     have:w.drew.heap[b]? =some (.cells #[p,.slice (some ⟨g,0,none⟩) 0 0] 87 (0,0)):=hbk
     rw[Lib.cell_of_heap this];rfl
    have hSD:(Builtin.unsafeSliceData_ #[83] 113 #[.slice (some ⟨g,0,none⟩) 0 0]).run Tryz.prog w.drew= .ok (.pointer (some ⟨w.drew.heap.size,0,none⟩)) (w.drew.alloc (.view ⟨g,0,none⟩ 5)):=
     Lib.run_unsafeSliceData_zero w.drew _ _ 5 Tryz.underlying113 ⟨g,0,none⟩ 0 (5,cur.size) (by have hg':w.drew.heap[g]? =some (.cells cur 5 (0,0)):=hg;simp[World.shape?,hg'])
    have c2:(w.drew.alloc (.view ⟨g,0,none⟩ 5)).cell? ⟨b,1,none⟩=some (.slice (some ⟨g,0,none⟩) 0 0):=by
     have:(w.drew.alloc (.view ⟨g,0,none⟩ 5)).heap[b]? =_:=(Lib.alloc_old w.drew _ b hlt).trans hbk
     rw[Lib.cell_of_heap this];rfl
    have c3:(w.alloc (.view ⟨g,0,none⟩ 5)).drew.cell? ⟨b,1,none⟩=some (.slice (some ⟨g,0,none⟩) 0 0):=c2
    have c0:w.cell? ⟨b,1,none⟩=some (.slice (some ⟨g,0,none⟩) 0 0):=c1
    go_enter Tryz.func35,Tryz.ntmps35
    go_wp2
    go_region_o
    all_goals (go_wp2;go_ret;exact⟨rfl,(Below.drew (Below.refl B w)).alloc hBw _⟩)
   ·have c1:w.drew.cell? ⟨b,1,none⟩=some (.slice (some ⟨g,0,none⟩) 0 cap):=by
     have:w.drew.heap[b]? =some (.cells #[p,.slice (some ⟨g,0,none⟩) 0 cap] 87 (0,0)):=hbk
     rw[Lib.cell_of_heap this];rfl
    have hSD:(Builtin.unsafeSliceData_ #[83] 113 #[.slice (some ⟨g,0,none⟩) 0 cap]).run Tryz.prog w.drew= .ok (.pointer (some ⟨g,0,none⟩)) w.drew:=
     Lib.run_unsafeSliceData_row _ _ _ _ _ _ hc0
    clear hc0
    go_enter Tryz.func35,Tryz.ntmps35
    go_wp2
    go_region_o
    all_goals (go_wp2;go_ret;exact⟨rfl,Below.drew (Below.refl B w)⟩)
 ·have hl0:l.length≠0:=by simpa using h0
  obtain⟨g,cap,cur,rfl,hbg,hg,hnc,hcm,hcs,htake⟩:∃g cap cur,v= .slice (some ⟨g,0,none⟩) l.length cap∧B≤g∧w.heap[g]? =some (.cells cur 5 (0,0))∧l.length≤cap∧cap≤maxLen∧cur.size=cap * 1∧cur.toList.take (l.length * 1)=Lib.byteCells l:=by
   rcases hown.2 with⟨_,hz⟩ | ⟨g,cap,cur,hv,r⟩
   ·exact absurd hz hl0
   ·exact⟨g,cap,cur,hv,r⟩
  have c1:w.drew.cell? ⟨b,1,none⟩=some (.slice (some ⟨g,0,none⟩) l.length cap):=by
   have:w.drew.heap[b]? =some (.cells #[p,.slice (some ⟨g,0,none⟩) l.length cap] 87 (0,0)):=hbk
   rw[Lib.cell_of_heap this];rfl
  have hSD:(Builtin.unsafeSliceData_ #[83] 113 #[.slice (some ⟨g,0,none⟩) l.length cap]).run Tryz.prog w.drew= .ok (.pointer (some ⟨g,0,none⟩)) w.drew:=
   Lib.run_unsafeSliceData_row _ _ _ _ _ _ (by omega)
  have hUS:(Builtin.unsafeString_ #[113,3] 9 #[.pointer (some ⟨g,0,none⟩),.int .i64 l.length]).run Tryz.prog w.drew= .ok (.string ⟨l.toArray⟩) (w.drew.freeze ⟨g,0,none⟩ l.length):=by
   refine Lib.run_unsafeString_row w.drew 113 3 9 5 Tryz.underlying113 cellsByte g cur.size (by have hg':w.drew.heap[g]? =some (.cells cur 5 (0,0)):=hg;simp[World.shape?,hg']) l h0 (by omega) (by unfold maxLen at hcm;omega) ?_
   intro j x hx
   have:=hown.cells (g:=g) rfl j (.int .u8 x.toNat) (by simp[Lib.byteCells,hx])
   exact this
  go_enter Tryz.func35,Tryz.ntmps35
  go_wp2
  go_region_o
  all_goals (go_wp2;go_ret;exact⟨rfl,Lib.below_freeze (Below.drew (Below.refl B w)) (p:=⟨g,0,none⟩) hbg _⟩)
end Go.Proofs.YtflmjbmdmoifhaaGreatDoor
namespace Go.Proofs.YtflmjbmdmoifhaaGreatDoor
open Go.Lib (hid)
open Go.RowKit
open Scopy (few fews fewK fews_mem)
def Ri0 (n:Pars.Node):Prop:=∃a b,Wri.right n a b=true
def Ri (n:Pars.Node):Prop:=Ri0 n∧few n=true
theorem ri_few {k nu:Int} {t:List UInt8} {l:List Pars.Node} (h:Ri (.mk k nu t l)):fewK k=true:=by
 have:=h.2
 simp only[few,Bool.and_eq_true] at this
 exact this.1
theorem ri_parts {k nu:Int} {t:List UInt8} {l:List Pars.Node} (h:Ri (.mk k nu t l)):(Wri.form k nu l.length).2=true∧Wri.fields k nu t=true∧Wri.count (Wri.form k nu l.length).1 l.length=true∧∃a b,Wri.rights (Wri.bare (Wri.form k nu l.length).1) k a b 0 l=true:=by
 obtain⟨⟨a,b,h⟩,_⟩:=h
 rw[right_eq] at h
 simp only[Bool.and_eq_true] at h
 obtain⟨h1,h2,_,_,h3,h4⟩:=h
 exact⟨h1,h2,h3,a,b,h4⟩
theorem rights_mem {g:List UInt8} {k:Int} {a b:Bool}:∀{l:List Pars.Node} {i:Nat},Wri.rights g k a b i l=true→∀x∈l,Ri0 x
 | [],_,_,x,hx=>by cases hx
 | y :: l,i,h,x,hx=>by
  rw[rights_cons g k a b i y l _ rfl] at h
  simp only[Bool.and_eq_true] at h
  rcases List.mem_cons.1 hx with rfl | hx
  ·exact⟨_,_,h.2.1⟩
  ·exact rights_mem h.2.2 x hx
theorem ri_kid {k nu:Int} {t:List UInt8} {l:List Pars.Node} (h:Ri (.mk k nu t l)):∀x∈l,Ri x:=by
 obtain⟨_,_,_,a,b,h2⟩:=ri_parts h
 have h3:=h.2
 simp only[few,Bool.and_eq_true] at h3
 exact fun x hx=>⟨rights_mem h2 x hx,fews_mem h3.2 x hx⟩
theorem count_plain {f:List UInt8} {m:Nat} (hs:Wri.star f=false) (h:Wri.count f m=true):m=(Wri.bare f).length:=by
 unfold Wri.count at h
 rw[hs] at h
 simpa using h
theorem ri_len {k nu:Int} {t:List UInt8} {l:List Pars.Node} (h:Ri (.mk k nu t l)):
  (k=19∨k=17∨k=16∨k=15∨k=12∨k=23∨k=24→l.length=2)∧(k=18→l.length=3)∧(k=14∨k=13∨k=8∨k=20∨k=28∨k=31∨k=21→l.length=1)∧(k=11→1≤l.length)∧(k=9→1≤l.length)∧
  (k=22→l.length=2∨l.length=3)∧(k=25→l.length≤1)∧(k=29→l.length=if nu=3 then 3 else 2):=by
 have hc:=(ri_parts h).2.2.1
 refine⟨?_,?_,?_,?_,?_,?_,?_,?_⟩
 ·rintro (rfl | rfl | rfl | rfl | rfl | rfl | rfl)
  all_goals first
   | exact count_plain (f:=[101,101]) (by decide) (by simpa [Wri.form,Wri.plain] using hc)
   | exact count_plain (f:=[116,101]) (by decide) (by simpa [Wri.form,Wri.plain] using hc)
   | exact count_plain (f:=[101,108]) (by decide) (by simpa [Wri.form,Wri.plain] using hc)
 ·rintro rfl;exact count_plain (f:=[101,101,101]) (by decide) (by simpa [Wri.form,Wri.plain] using hc)
 ·rintro (rfl | rfl | rfl | rfl | rfl | rfl | rfl)
  all_goals first
   | exact count_plain (f:=[101]) (by decide) (by simpa [Wri.form,Wri.plain] using hc)
   | exact count_plain (f:=[100]) (by decide) (by simpa [Wri.form,Wri.plain] using hc)
 ·rintro rfl
  have:Wri.count [101,101,42] l.length=true:=by simpa [Wri.form,Wri.plain] using hc
  unfold Wri.count at this
  rw[show (Wri.bare [101,101,42]).length=2 from by decide] at this
  simp at this
  rcases this with h | h
  ·omega
  ·omega
 ·rintro rfl
  have h9:Wri.count (List.replicate (l.length - 1) 113++[103]) l.length=true:=by simpa [Wri.form,Wri.plain] using hc
  have hs:Wri.star (List.replicate (l.length - 1) 113++[103])=false:=by unfold Wri.star;rw[Wri.suffix_cat];decide
  have:=count_plain hs h9
  have hb:Wri.bare (List.replicate (l.length - 1) 113++[103])=List.replicate (l.length - 1) 113++[103]:=by
   unfold Wri.bare Lib.trimSuffix
   rw[if_neg (by unfold Wri.star at hs;rw[hs];simp)]
  rw[hb] at this
  simp at this
  omega
 ·rintro rfl
  by_cases h3:l.length=3
  ·exact .inr h3
  ·exact .inl (count_plain (f:=[101,98]) (by decide) (by simpa [Wri.form,Wri.plain,h3] using hc))
 ·rintro rfl
  by_cases h1:l.length=1
  ·omega
  ·have:=count_plain (f:=[]) (by decide) (by simpa [Wri.form,Wri.plain,h1] using hc)
   have e:(Wri.bare []).length=0:=by decide
   omega
 ·rintro rfl
  by_cases h3:nu=3
  ·rw[if_pos h3]
   exact count_plain (f:=[98,98,98]) (by decide) (by simpa [Wri.form,Wri.plain,h3] using hc)
  ·rw[if_neg h3]
   exact count_plain (f:=[98,98]) (by decide) (by simpa [Wri.form,Wri.plain,h3] using hc)
theorem NodeAt.belowB {w w1:World} {B:Nat} {n:Pars.Node} {cs:Array Value} (h:NodeAt w (fun g=>g<B) n cs) (hb:Below B w w1):NodeAt w1 (fun g=>g<B) n cs:=NodeAt.keep (fun _ h _=>h) hb.size (fun g hs _=>hb.block g hs) h
theorem kid_at {w:World} {B:Nat} {l:List Pars.Node} {css:List (Array Value)} {A:Option Addr} {i:Nat} {x:Pars.Node} (hk:NodesAt w (fun g=>g<B) l css) (hrow:0<l.length→∃g o,A=some ⟨g,o,none⟩∧g<B∧g<w.heap.size∧w.rangeAt g o (flatA css)) (hx:l[i]? =some x):
  ∃xc g o,A=some ⟨g,o,none⟩∧g<B∧xc.size=4∧NodeAt w (fun g=>g<B) x xc∧∀W,Below B w W→W.rangeAt g (o+i * 4) xc.toList:=by
 have hlt:=(List.getElem?_eq_some_iff.1 hx).1
 obtain⟨xc,hxc,hn,hf⟩:=NodesAt.get hk hx
 obtain⟨g,o,rfl,hS,hg,hr⟩:=hrow (by omega)
 refine⟨xc,g,o,rfl,hS,NodeAt.size hn,hn,fun W hW j u hu=> ?_⟩
 rw[Nat.add_assoc,hW.cell (p:=⟨g,o+(i * 4+j),none⟩) hS]
 exact hr (i * 4+j) u (hf j u hu)
end Go.Proofs.YtflmjbmdmoifhaaGreatDoor

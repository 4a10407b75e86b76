/-
  Texts that the law leans on: ScD, ScF, ParJ, PxC0, PxB, SlB. Conditions: as each says.
-/
import Derived.Test.YtflmjbmdmoifhaaGreatDoorKAb
import Derived.Test.YtflmjbmdmoifhaaGreatDoorKAv
import Derived.Test.YtflmjbmdmoifhaaGreatDoorKAm
import Derived.Test.YtflmjbmdmoifhaaGreatDoorKAc
import Derived.Test.YtflmjbmdmoifhaaGreatDoorKAt
import Derived.Test.YtflmjbmdmoifhaaGreatDoorKAu
import Derived.Test.YtflmjbmdmoifhaaGreatDoorKAa
set_option linter.unusedSimpArgs false
set_option linter.unusedVariables false
namespace Scopy
open Go (ln bn)
open Pars (Node Bs)
theorem append_inj_last {α:Type} {a b:List α} {x y:α} (h:a++[x]=b++[y]):a=b∧x=y:=by
 have:=List.append_inj' h rfl
 exact⟨this.1,by simpa using this.2⟩
theorem back_decl {known:List Bs} {k:Nat} {x old:Bs} (kd:Int) (t:Bs) (s:St×St) (h:BackJ k old ((comp (hs known k x) (hs known k old)).decl kd t s).1):BackJ k old s∧((comp (hs known k x) (hs known k old)).decl kd t s).2=t:=by
 obtain⟨s1,s2⟩:=s
 obtain⟨h1,h2,h3,h4,h5⟩:=h
 simp only[comp] at h1 h2 h3 h4 h5 ⊢
 rcases decl_cases (known:=known) (dk:=k) (nm:=x) kd t s1 with⟨e0,e⟩ | ⟨e0,_,e⟩ | ⟨e0,_,e⟩
 ·rw[e] at h1;exact absurd h1 e0
 ·rw[e] at h1;simp at h1
 ·rw[e] at h1 h2 h3 h4 h5 ⊢
  simp only[] at h1 h2 h3 h4 h5 ⊢
  rcases decl_cases (known:=known) (dk:=k) (nm:=old) kd (if (s1.decls.length:Int)=k then x else t) s2 with⟨f0,f⟩ | ⟨f0,_,f⟩ | ⟨f0,_,f⟩
  ·rw[f] at h2;exact absurd h2 f0
  ·rw[f] at h2;simp at h2
  ·rw[f] at h2 h3 h4 ⊢
   simp only[ln,Nat.zero_add,Nat.add_right_cancel_iff] at h3
   refine⟨⟨e0,f0,h3,h4,fun d hd=>h5 d ?_⟩,?_⟩
   ·rw[List.getElem?_append_left (List.getElem?_eq_some_iff.1 hd).1];exact hd
   ·simp only[h3]
    by_cases hk:(s2.decls.length:Int)=k
    ·have hk2:s1.decls.length=k:=by omega
     rw[if_pos hk]
     have:=h5 ⟨kd,t,s1.top.deep,false⟩ (by rw[←hk2];simp)
     exact this.symm
    ·simp[hk]
theorem back_use {known:List Bs} {k:Nat} {x old:Bs} (t:Bs) (s:St×St) (h:BackJ k old ((comp (hs known k x) (hs known k old)).use t s).1):BackJ k old s∧(Tells known s.1→((comp (hs known k x) (hs known k old)).use t s).2=t):=by
 obtain⟨s1,s2⟩:=s
 obtain⟨h1,h2,h3,h4,h5⟩:=h
 simp only[comp] at h1 h2 h3 h4 h5 ⊢
 have nm:∀(j d2:Nat),(∀d,(mark s1.decls j d2)[k]? =some d→d.name=old)→∀d,s1.decls[k]? =some d→d.name=old:=fun j d2 h d hd=>by
  obtain⟨y,a,b,_⟩:=mark_ex (k:=j) (deep:=d2) hd
  rw[←b];exact h y a
 rcases use_cases (known:=known) (dk:=k) (nm:=x) t s1 with⟨e0,e⟩ | ⟨e0,j,hj,e⟩ | ⟨e0,hj,_,e⟩ | ⟨e0,_,_,e⟩
 ·rw[e] at h1;exact absurd h1 e0
 ·rw[e] at h1 h2 h3 h4 h5 ⊢
  simp only[] at h1 h2 h3 h4 h5 ⊢
  rcases use_cases (known:=known) (dk:=k) (nm:=old) (if (j:Int)=k then x else t) s2 with⟨f0,f⟩ | ⟨f0,j2,hj2,f⟩ | ⟨f0,_,_,f⟩ | ⟨f0,_,_,f⟩
  ·rw[f] at h2;exact absurd h2 f0
  ·rw[f] at h2 h3 h4 ⊢
   simp only[List.map_append,List.map_cons,List.map_nil] at h4
   obtain⟨a,b⟩:=append_inj_last h4
   have b:j=j2:=by omega
   simp only[mark_len] at h3
   refine⟨⟨e0,f0,h3,a,nm _ _ h5⟩,fun ht=> ?_⟩
   simp only[←b]
   by_cases hk:(j:Int)=k
   ·rw[if_pos hk]
    obtain⟨r,r1,r2⟩:=find_room _ _ _ hj
    obtain⟨d,r3,r4⟩:=ht.room r r1 t j r2
    have hk2:j=k:=by omega
    rw[hk2] at r3
    rw[←r4]
    exact (nm _ _ h5 d r3).symm
   ·simp[hk]
  ·rw[f] at h4
   simp only[List.map_append,List.map_cons,List.map_nil] at h4
   have:=(append_inj_last h4).2
   omega
  ·rw[f] at h2;simp at h2
 ·rw[e] at h1 h2 h3 h4 h5 ⊢
  simp only[] at h1 h2 h3 h4 h5 ⊢
  rcases use_cases (known:=known) (dk:=k) (nm:=old) t s2 with⟨f0,f⟩ | ⟨f0,j2,hj2,f⟩ | ⟨f0,_,_,f⟩ | ⟨f0,_,_,f⟩
  ·rw[f] at h2;exact absurd h2 f0
  ·rw[f] at h4
   simp only[List.map_append,List.map_cons,List.map_nil] at h4
   have:=(append_inj_last h4).2
   omega
  ·rw[f] at h2 h3 h4 ⊢
   simp only[List.map_append,List.map_cons,List.map_nil] at h4
   exact⟨⟨e0,f0,h3,(append_inj_last h4).1,h5⟩,fun _=>rfl⟩
  ·rw[f] at h2;simp at h2
 ·rw[e] at h1;simp at h1
theorem back_stays (known:List Bs) (k:Nat) (x old:Bs):Stays (comp (hs known k x) (hs known k old)) (BackJ k old) (fun s=>Tells known s.1) (fun _=>True) where
 push d s h:=⟨h.e1,h.e2,h.len,h.uses,h.name⟩
 pop s h:=⟨h.e1,h.e2,h.len,h.uses,h.name⟩
 decl kd t s h:=(back_decl kd t s h).1
 use t s h:=(back_use t s h).1
 pushI d s _ i:=tells_push (dk:=(k:Int)) (nm:=x) d s.1 i
 pushP _:=trivial
 popI s _ i:=tells_pop (dk:=(k:Int)) (nm:=x) s.1 i
 declI kd t s _ i _:=tells_decl kd t s.1 i
 declP _ _ _ _:=trivial
 useI t s _ i:=tells_use t s.1 i
 declS kd t s h _:=(back_decl kd t s h).2
 useS t s h i:=(back_use t s h).2 i
end Scopy
namespace Scopy
open Pars (Node Bs)
theorem rename_ok {n m:Node} {dk:Int} {x:Bs} {known:List Bs} (h:rename n dk x known=(m,0)):(names n known).e=0∧0≤dk∧dk<((names n known).decls.length:Int)∧Wri.name x=true∧m=(run known dk x n).2∧(names m known).e=0∧(names m known).uses.map (·.2)=(names n known).uses.map (·.2)∧(names m known).decls=setName (names n known).decls dk.toNat x:=by
 unfold rename at h
 split at h
 ·rename_i h1;injection h with _ h;exact absurd h h1
 ·rename_i h1
  have h1:=Decidable.not_not.1 h1
  obtain⟨c1,c2,c3⟩:=names_ok h1
  split at h
  ·injection h with _ h;cases h
  ·rename_i h2
   have h2:=Decidable.not_not.1 h2
   split at h
   ·rename_i h3
    injection h with h _
    subst h
    rw[c3] at h3 ⊢
    exact⟨h1,h2.1,h2.2.1,h2.2.2,rfl,h3.1,h3.2.1,h3.2.2⟩
   ·injection h with _ h;cases h
theorem back_law {n m:Node} {dk:Int} {x:Bs} {known:List Bs} (h:rename n dk x known=(m,0)) (d:Decl) (hd:(names n known).decls[dk.toNat]? =some d):rename m dk d.name known=(n,0):=by
 obtain⟨h1,h2,h3,h4,h5,h6,h7,h8⟩:=rename_ok h
 obtain⟨c1,c2,c3⟩:=names_ok h1
 obtain⟨g1,g2,g3⟩:=names_ok h6
 obtain⟨k,rfl⟩:∃k:Nat,dk=k:=⟨dk.toNat,by omega⟩
 simp only[Int.toNat_natCast] at hd h8
 have es:names n known=(run known k x n).1:=by unfold names;rw[c3];exact (run_st known k x n).symm
 have eo:names m known=(run known k d.name m).1:=by unfold names;rw[g3];exact (run_st known k d.name m).symm
 have hb:(run known k d.name m).2=n:=by
  have hc:=tr_comp (hs known k x) (hs known k d.name) (Pars.deep n) n start start
  have hdm:Pars.deep m=Pars.deep n:=by rw[h5];exact run_deep _ _ _ _
  have key:=tr_same (back_stays known k x d.name) (Pars.deep n) n (start,start) ?_ (start_tells known)
  ·rw[hc] at key
   unfold run
   rw[hdm,h5]
   exact key
  ·rw[hc]
   have e2:(tr (hs known k d.name) (Pars.deep n) (tr (hs known k x) (Pars.deep n) n start).2 start).1=names m known:=by rw[eo];unfold run;rw[hdm,h5];rfl
   have e1:(tr (hs known k x) (Pars.deep n) n start).1=names n known:=es.symm
   rw[e1,e2]
   refine⟨h1,h6,?_,h7.symm,fun d2 hd2=> ?_⟩
   ·simp only[];rw[h8,setName_len]
   ·have hd2:(names n known).decls[k]? =some d2:=hd2
    rw[hd] at hd2;injection hd2 with hd2;rw[hd2]
 have hold:Wri.name d.name=true:=by
  obtain⟨_,r,_⟩:=check_ok c1
  have:=(tr_right (fine known k x (fun _=>h4)) (Pars.deep n) n start false false r (fun d hd=>by cases hd)).1
  have e1:(tr (hs known k x) (Pars.deep n) n start).1=names n known:=es.symm
  rw[e1] at this
  exact this d (List.mem_of_getElem? hd)
 unfold rename
 rw[if_neg (by simp[h6])]
 rw[if_neg (by
  have:(names m known).decls.length=(names n known).decls.length:=by rw[h8,setName_len]
  rw[this]
  exact fun h=>h ⟨h2,h3,hold⟩)]
 rw[g3,hb]
 rw[if_pos]
 refine⟨h1,h7.symm,?_⟩
 rw[h8,Int.toNat_natCast]
 apply List.ext_getElem?
 intro j
 rw[setName_get,setName_get]
 cases hj:(names n known).decls[j]? with
 | none=>rfl
 | some y=>
  simp only[Option.map_some]
  by_cases hk:k=j
  ·subst hk
   rw[hd] at hj
   injection hj with hj
   subst hj
   simp
  ·simp[hk]
end Scopy
namespace Pars
open Lexy (Tk)
mutual
theorem same_refl:∀n:Node,same n n=true
 | .mk k n t l=>by simp[same,sames_refl l]
theorem sames_refl:∀l:List Node,sames l l=true
 | []=>rfl
 | n :: l=>by simp[sames,same_refl n,sames_refl l]
end
end Pars
namespace Go.Proofs.YtflmjbmdmoifhaaGreatDoor
open Go.Lib (hid)
open Go.RowKit
theorem ok2_any (a b:Int) (w1:World):Calls Tryz.prog 10 #[.slice (some ⟨w1.heap.size,0,none⟩) 2 2] (w1.alloc (.cells #[.int .i64 a,.int .i64 b] 28)) fun e w'=>e= .returned (.bool (decide (a=0)&&decide (b=0)))∧Below w1.heap.size w1 w':=
 (ok_any [a,b] w1.heap.size _ (Box.new w1 _ _) (by simp)).mono fun e w' ⟨h1,h2⟩=>⟨by rw[h1];simp,by rw[h2];exact below1 w1 _⟩
end Go.Proofs.YtflmjbmdmoifhaaGreatDoor
namespace Go.Proofs.YtflmjbmdmoifhaaGreatDoor
open Go.Lib (hid)
open Go.RowKit
theorem same_mk (k nu:Int) (t:List UInt8) (l:List Pars.Node) (k2 nu2:Int) (t2:List UInt8) (l2:List Pars.Node):Pars.same (.mk k nu t l) (.mk k2 nu2 t2 l2)=(decide (k=k2)&&(decide (nu=nu2)&&(decide (t=t2)&&Pars.sames l l2))):=by rw[Pars.same]
theorem sames_len:∀(l l2:List Pars.Node),Pars.sames l l2=true→l.length=l2.length
 | [],[],_=>rfl
 | a :: l,b :: m,h=>by
  simp only[Pars.sames,Bool.and_eq_true] at h
  simp[sames_len l m h.2]
 | [],_ :: _,h=>by simp[Pars.sames] at h
 | _ :: _,[],h=>by simp[Pars.sames] at h
theorem sames_all:∀(l l2:List Pars.Node),l.length=l2.length→(∀(j:Nat) (x y:Pars.Node),l[j]? =some x→l2[j]? =some y→Pars.same x y=true)→Pars.sames l l2=true
 | [],[],_,_=>by simp[Pars.sames]
 | a :: l,b :: m,h,hh=>by
  simp only[Pars.sames,Bool.and_eq_true]
  exact⟨hh 0 a b rfl rfl,sames_all l m (by simpa using h) fun j x y hx hy=>hh (j+1) x y (by simpa using hx) (by simpa using hy)⟩
 | [],_ :: _,h,_=>by simp at h
 | _ :: _,[],h,_=>by simp at h
theorem sames_at:∀(l l2:List Pars.Node),Pars.sames l l2=true→∀(j:Nat) (x y:Pars.Node),l[j]? =some x→l2[j]? =some y→Pars.same x y=true
 | [],[],_,j,x,y,hx,_=>by simp at hx
 | a :: l,b :: m,h,j,x,y,hx,hy=>by
  simp only[Pars.sames,Bool.and_eq_true] at h
  cases j with
  | zero=>simp at hx hy;subst hx hy;exact h.1
  | succ j=>exact sames_at l m h.2 j x y (by simpa using hx) (by simpa using hy)
 | [],_ :: _,h,_,_,_,_,_=>by simp[Pars.sames] at h
 | _ :: _,[],h,_,_,_,_,_=>by simp[Pars.sames] at h
def SameLe (N:Nat):Prop:=∀(a b:Pars.Node) (ca cb:Array Value) (w:World) (S S2:Nat→Prop),Pars.size a≤N→Pars.size a≤4611686018427387904→NodeAt w S a ca→NodeAt w S2 b cb→
  Calls Tryz.prog 11 #[.agg ca,.agg cb] w fun e w'=>e= .returned (.bool (Pars.same a b))∧Below w.heap.size w w'
set_option maxRecDepth 100000 in
set_option maxHeartbeats 4000000 in
theorem same_step {N:Nat} (ih:SameLe N):SameLe (N+1):=by
 intro a b ca cb w S S2 h hb hn hm
 have IH:=hid ih
 obtain⟨k,nu,t,l⟩:=a
 obtain⟨k2,nu2,t2,l2⟩:=b
 replace hn:=NodeAt.keep (S1:=fun g=>g<w.heap.size) (w1:=w) (fun g _ h=>h) (Nat.le_refl _) (fun _ _ _=>rfl) hn
 replace hm:=NodeAt.keep (S1:=fun g=>g<w.heap.size) (w1:=w) (fun g _ h=>h) (Nat.le_refl _) (fun _ _ _=>rfl) hm
 simp only[Pars.size] at h hb
 unfold NodeAt at hn hm
 obtain⟨A,cap,css,rfl,hc1,hc2,hrow,hk⟩:=hn
 obtain⟨A2,cap2,css2,rfl,hd1,hd2,hrow2,hk2⟩:=hm
 have HROW:=hid hrow
 have HK:=hid hk
 have HROW2:=hid hrow2
 have HK2:=hid hk2
 have hll:=sizes_len l
 clear hrow hk hrow2 hk2 ih
 by_cases y1:k=k2
 ·subst y1
  by_cases y2:nu=nu2
  ·subst y2
   by_cases y3:t=t2
   ·subst y3
    by_cases y4:l.length=l2.length
    ·have HL:=hid y4
     rw[←y4] at hd1 ⊢
     clear y4
     go_enter Tryz.func11,Tryz.ntmps11
     go_upto_region 1 with fail
     refine gen_world (F:=fun W=>Box W w.heap.size 24 (nc k nu t (.slice A l.length cap))∧Box W (w.heap.size+1) 24 (nc k nu t (.slice A2 l.length cap2))∧Below w.heap.size w W) ⟨(Box.new w _ _).alloc _,by have:=Box.new (w.alloc (.cells (nc k nu t (.slice A l.length cap)) 24 (0,0))) 24 (nc k nu t (.slice A2 l.length cap2));simpa using this,(below1 w _).alloc (by simp) _⟩ ?_
     rintro W0 ⟨b0,b1,hU⟩
     have NA:=hid b0
     have NB:=hid b1
     have HU:=hid hU
     clear b0 b1 hU
     have c0:=NA.out.cell 0
     have d0:=NB.out.cell 0
     have c1:=NA.out.cell 1
     have d1:=NB.out.cell 1
     have c2:=NA.out.cell 2
     have d2:=NB.out.cell 2
     have c3:=NA.out.cell 3
     have d3:=NB.out.cell 3
     simp[nc] at c0 d0 c1 d1 c2 d2 c3 d3
     go_upto_region 3 with fail
     go_upto_region 4 with fail
     clear c0 c1 c2 d0 d1 d2 c3 d3
     go_loopg [5,37] l.length (fun gg _ s37 wr=>∃j:Nat,j≤l.length∧l.length - j≤gg∧s37= .int .i64 (j:Int)∧Hid (∀(i:Nat) (x y:Pars.Node),i<j→l[i]? =some x→l2[i]? =some y→Pars.same x y=true)∧Hid (Box wr w.heap.size 24 (nc k nu t (.slice A l.length cap)))∧Hid (Box wr (w.heap.size+1) 24 (nc k nu t (.slice A2 l.length cap2)))∧Hid (Below w.heap.size w wr))
     case atStart=>exact⟨0,Nat.zero_le _,by omega,rfl,hid (fun i x y hi=>absurd hi (Nat.not_lt_zero _)),NA,NB,HU⟩
     case round=>
      clear NA NB HU
      obtain⟨j,hj,hg,rfl,AA,NA,NB,HU⟩:=hrel
      by_cases hlt:j<l.length
      ·have hltz:(j:Int)<(l.length:Int):=by omega
       have hltd:decide ((j:Int)<(l.length:Int))=true:=decide_eq_true hltz
       have wj:IntKind.i64.wrap ((j:Int)+1)=(j:Int)+1:=by rw[IntKind.wrap_i64];omega
       obtain⟨x,hx⟩:∃x,l[j]? =some x:=⟨_,List.getElem?_eq_getElem (by have:=HL.out;omega)⟩
       obtain⟨xcp,g0,o0,rfl,hg0,h4p,hnp,hrp⟩:=kid_at HK.out HROW.out hx
       obtain⟨p0,p1,p2,p3,rfl⟩:=four h4p
       have HNp:=hid hnp
       have HGp:Hid (∀W,Below w.heap.size w W→W.rangeAt g0 (o0+j * 4) [p0,p1,p2,p3]):=hid hrp
       have HXp:=hid hx
       clear hnp hrp h4p
       obtain⟨y,hy⟩:∃x,l2[j]? =some x:=⟨_,List.getElem?_eq_getElem (by have:=HL.out;omega)⟩
       obtain⟨xcq,g1,o1,rfl,hg1,h4q,hnq,hrq⟩:=kid_at HK2.out HROW2.out hy
       obtain⟨q0,q1,q2,q3,rfl⟩:=four h4q
       have HNq:=hid hnq
       have HGq:Hid (∀W,Below w.heap.size w W→W.rangeAt g1 (o1+j * 4) [q0,q1,q2,q3]):=hid hrq
       have HXq:=hid hy
       clear hnq hrq h4q
       have hxs:=size_mem (List.mem_of_getElem? hx)
       clear hx hy
       have HINL:Hid (∀a b c d:Value,(Tryz.prog.info? 24).map (·.size)=some [a,b,c,d].length):=hid (fun a b c d=>info_nod)
       go_upto_region 6 with fail
       refine wp_region_held_drew (S:=fun w'=>Box w' w.heap.size 24 (nc k nu t (.slice (some ⟨g0,o0,none⟩) l.length cap))∧Box w' (w.heap.size+1) 24 (nc k nu t (.slice (some ⟨g1,o1,none⟩) l.length cap2))∧Below w.heap.size w w') (by kernel_rfl) ⟨NA.out.drew,NB.out.drew,HU.out.drew⟩ (fun hHeld=> ?_)
       obtain⟨wd,hwd⟩:∃wd,wr.drew=wd:=⟨_,rfl⟩
       have hdr:Below wr.heap.size wr wd:=hwd ▸ (Below.refl _ wr).drew
       (try rw[hwd] at hHeld)
       (try rw[hwd])
       clear hwd hHeld
       replace NA:=bl NA hdr
       replace NB:=bl NB hdr
       replace HU:=hid (HU.out.trans (hdr.mono HU.out.size))
       clear hdr
       refine tH (i:=0) (v:= ?_) rfl ?_ ⟨NA.out,NB.out,HU.out⟩ ?_
       rotate_left
       ·intro w hSw
        go_simp
        try (with_reducible rfl)
       (try simp only[Act.put,sq])
       refine tH (i:=1) (v:= .slice (some ⟨g0,o0,none⟩) l.length cap) rfl ?_ ⟨NA.out,NB.out,HU.out⟩ ?_
       ·intro w hSw
        have cq:=hSw.1.cell 3
        simp[nc] at cq
        go_simp
       (try simp only[Act.put,sq])
       refine tH (i:=2) (v:= ?_) rfl ?_ ⟨NA.out,NB.out,HU.out⟩ ?_
       rotate_left
       ·intro w hSw
        go_simp
        try (with_reducible rfl)
       (try simp only[Act.put,sq])
       refine tH (i:=3) (v:= .pointer (some ⟨g0,o0+j * 4,none⟩)) rfl ?_ ⟨NA.out,NB.out,HU.out⟩ ?_
       ·intro w hSw
        go_simp
       (try simp only[Act.put,sq])
       refine wpAnyH_take (i:=4) (v:=_) rfl (by kernel_rfl) (by kernel_rfl) (by kernel_rfl) (fun _ _ _ h=>h) (yieldsIf_load_mid (by kernel_rfl) 24 (.tmp 43) rfl g0 (o0+j * 4) rfl [p0,p1,p2,p3] _ (fun _ h=>HGp.out _ h.2.2) Tryz.underlying24 rfl (HINL.out _ _ _ _)) ⟨NA.out,NB.out,HU.out⟩ ?_
       (try simp only[Act.put,sq])
       refine tH (i:=5) (v:= ?_) rfl ?_ ⟨NA.out,NB.out,HU.out⟩ ?_
       rotate_left
       ·intro w hSw
        go_simp
        try (with_reducible rfl)
       (try simp only[Act.put,sq])
       refine tH (i:=6) (v:= .slice (some ⟨g1,o1,none⟩) l.length cap2) rfl ?_ ⟨NA.out,NB.out,HU.out⟩ ?_
       ·intro w hSw
        have cq:=hSw.2.1.cell 3
        simp[nc] at cq
        go_simp
       (try simp only[Act.put,sq])
       refine tH (i:=7) (v:= ?_) rfl ?_ ⟨NA.out,NB.out,HU.out⟩ ?_
       rotate_left
       ·intro w hSw
        go_simp
        try (with_reducible rfl)
       (try simp only[Act.put,sq])
       refine tH (i:=8) (v:= .pointer (some ⟨g1,o1+j * 4,none⟩)) rfl ?_ ⟨NA.out,NB.out,HU.out⟩ ?_
       ·intro w hSw
        go_simp
       (try simp only[Act.put,sq])
       refine wpAnyH_take (i:=9) (v:=_) rfl (by kernel_rfl) (by kernel_rfl) (by kernel_rfl) (fun _ _ _ h=>h) (yieldsIf_load_mid (by kernel_rfl) 24 (.tmp 48) rfl g1 (o1+j * 4) rfl [q0,q1,q2,q3] _ (fun _ h=>HGq.out _ h.2.2) Tryz.underlying24 rfl (HINL.out _ _ _ _)) ⟨NA.out,NB.out,HU.out⟩ ?_
       (try simp only[Act.put,sq])
       refine rdH 10 rfl fun K hK=> ?_
       go_simp
       refine (IH.out x y _ _ _ _ _ (by omega) (by omega) (HNp.out.belowB HU.out) (HNq.out.belowB HU.out)).mono ?_
       rintro e w3 ⟨rfl,hq⟩
       obtain⟨sb,hsb⟩:∃b,Pars.same x y=b:=⟨_,rfl⟩
       rw[hsb]
       have HSB:=hid hsb
       clear hsb
       replace NA:=bl NA hq
       replace NB:=bl NB hq
       replace HU:=hid (HU.out.trans (hq.mono HU.out.size))
       clear hq
       refine hK.out _ _ ⟨NA.out,NB.out,HU.out⟩ (fun hHeld=> ?_)
       clear hK hHeld K
       (try simp only[Act.put,sq])
       refine tH (i:=11) (v:= ?_) rfl ?_ ⟨NA.out,NB.out,HU.out⟩ ?_
       rotate_left
       ·intro w hSw
        go_simp
        try (with_reducible rfl)
       (try simp only[Act.put,sq])
       refine wpAnyH_done (by kernel_rfl) ?_ _
       cases sb
       ·go_wp2
        go_ret
        exact⟨by rw[same_mk,show Pars.sames l l2=false from by cases hs:Pars.sames l l2 with
         | true=>rw[sames_at l l2 hs j x y HXp.out HXq.out] at HSB;exact absurd HSB.out (by decide)
         | false=>rfl];simp,HU.out⟩
       ·go_wp2
        go_roundg (l.length - (j+1))
        case measure=>omega
        case rel=>
         refine⟨j+1,by omega,by omega,rfl,(show Hid _ from fun i x' y' hi hx' hy'=> ?_),NA,NB,HU⟩
         by_cases e:i=j
         ·subst e
          have e1:=HXp.out
          have e2:=HXq.out
          rw[hx'] at e1
          rw[hy'] at e2
          injection e1 with e1
          injection e2 with e2
          rw[e1,e2]
          exact HSB.out
         ·exact AA.out i x' y' (by omega) hx' hy'
      ·have hltz:¬(j:Int)<(l.length:Int):=by omega
       have hltd:decide ((j:Int)<(l.length:Int))=false:=decide_eq_false hltz
       go_wp2
       go_ret
       exact⟨by rw[same_mk,sames_all l l2 HL.out fun i x y hx hy=>AA.out i x y (by have:=(List.getElem?_eq_some_iff.1 hx).1;omega) hx hy];simp,HU.out⟩
    ·have Y:Hid (Pars.sames l l2=false):=hid (by cases hs:Pars.sames l l2 with
  | true=>exact absurd (sames_len l l2 hs) y4
  | false=>rfl)
     have f0:¬((l.length:Int)=(l2.length:Int)):=by omega
     have f1:((l.length:Int)==(l2.length:Int))=false:=bn f0
     have f2:((l.length:Int) != (l2.length:Int))=true:=by simp[bne,f1]
     have f3:(l.length==l2.length)=false:=bn y4
     have f4:(l.length != l2.length)=true:=by simp[bne,f3]
     clear y4
     go_enter Tryz.func11,Tryz.ntmps11
     go_upto_region 1 with fail
     refine gen_world (F:=fun W=>Box W w.heap.size 24 (nc k nu t (.slice A l.length cap))∧Box W (w.heap.size+1) 24 (nc k nu t (.slice A2 l2.length cap2))∧Below w.heap.size w W) ⟨(Box.new w _ _).alloc _,by have:=Box.new (w.alloc (.cells (nc k nu t (.slice A l.length cap)) 24 (0,0))) 24 (nc k nu t (.slice A2 l2.length cap2));simpa using this,(below1 w _).alloc (by simp) _⟩ ?_
     rintro W0 ⟨b0,b1,hU⟩
     have NA:=hid b0
     have NB:=hid b1
     have HU:=hid hU
     clear b0 b1 hU
     have c0:=NA.out.cell 0
     have d0:=NB.out.cell 0
     have c1:=NA.out.cell 1
     have d1:=NB.out.cell 1
     have c2:=NA.out.cell 2
     have d2:=NB.out.cell 2
     have c3:=NA.out.cell 3
     have d3:=NB.out.cell 3
     simp[nc] at c0 d0 c1 d1 c2 d2 c3 d3
     go_wp2
     go_ret
     exact⟨by rw[same_mk];simp[Y.out],HU.out⟩
   ·have Y:=hid y3
    have hT:byt t≠byt t2:=fun e=>y3 (byt_inj e)
    obtain⟨q1,q2,q3⟩:=same_no hT
    have q4:=of_decide_eq_false q2
    have f3:((byt t).toList != (byt t2).toList)=true:=by simp[bne,q1]
    clear y3
    go_enter Tryz.func11,Tryz.ntmps11
    go_upto_region 1 with fail
    refine gen_world (F:=fun W=>Box W w.heap.size 24 (nc k nu t (.slice A l.length cap))∧Box W (w.heap.size+1) 24 (nc k nu t2 (.slice A2 l2.length cap2))∧Below w.heap.size w W) ⟨(Box.new w _ _).alloc _,by have:=Box.new (w.alloc (.cells (nc k nu t (.slice A l.length cap)) 24 (0,0))) 24 (nc k nu t2 (.slice A2 l2.length cap2));simpa using this,(below1 w _).alloc (by simp) _⟩ ?_
    rintro W0 ⟨b0,b1,hU⟩
    have NA:=hid b0
    have NB:=hid b1
    have HU:=hid hU
    clear b0 b1 hU
    have c0:=NA.out.cell 0
    have d0:=NB.out.cell 0
    have c1:=NA.out.cell 1
    have d1:=NB.out.cell 1
    have c2:=NA.out.cell 2
    have d2:=NB.out.cell 2
    simp[nc] at c0 d0 c1 d1 c2 d2
    go_wp2
    go_ret
    exact⟨by rw[same_mk];simp[Y.out],HU.out⟩
  ·have Y:=hid y2
   have f1:(nu==nu2)=false:=bn y2
   have f2:(nu != nu2)=true:=by simp[bne,f1]
   clear y2
   go_enter Tryz.func11,Tryz.ntmps11
   go_upto_region 1 with fail
   refine gen_world (F:=fun W=>Box W w.heap.size 24 (nc k nu t (.slice A l.length cap))∧Box W (w.heap.size+1) 24 (nc k nu2 t2 (.slice A2 l2.length cap2))∧Below w.heap.size w W) ⟨(Box.new w _ _).alloc _,by have:=Box.new (w.alloc (.cells (nc k nu t (.slice A l.length cap)) 24 (0,0))) 24 (nc k nu2 t2 (.slice A2 l2.length cap2));simpa using this,(below1 w _).alloc (by simp) _⟩ ?_
   rintro W0 ⟨b0,b1,hU⟩
   have NA:=hid b0
   have NB:=hid b1
   have HU:=hid hU
   clear b0 b1 hU
   have c0:=NA.out.cell 0
   have d0:=NB.out.cell 0
   have c1:=NA.out.cell 1
   have d1:=NB.out.cell 1
   simp[nc] at c0 d0 c1 d1
   go_wp2
   go_ret
   exact⟨by rw[same_mk];simp[Y.out],HU.out⟩
 ·have Y:=hid y1
  have f1:(k==k2)=false:=bn y1
  have f2:(k != k2)=true:=by simp[bne,f1]
  clear y1
  go_enter Tryz.func11,Tryz.ntmps11
  go_upto_region 1 with fail
  refine gen_world (F:=fun W=>Box W w.heap.size 24 (nc k nu t (.slice A l.length cap))∧Box W (w.heap.size+1) 24 (nc k2 nu2 t2 (.slice A2 l2.length cap2))∧Below w.heap.size w W) ⟨(Box.new w _ _).alloc _,by have:=Box.new (w.alloc (.cells (nc k nu t (.slice A l.length cap)) 24 (0,0))) 24 (nc k2 nu2 t2 (.slice A2 l2.length cap2));simpa using this,(below1 w _).alloc (by simp) _⟩ ?_
  rintro W0 ⟨b0,b1,hU⟩
  have NA:=hid b0
  have NB:=hid b1
  have HU:=hid hU
  clear b0 b1 hU
  have c0:=NA.out.cell 0
  have d0:=NB.out.cell 0
  simp[nc] at c0 d0
  go_wp2
  go_ret
  exact⟨by rw[same_mk];simp[Y.out],HU.out⟩
theorem same_le:∀N,SameLe N
 | 0=>by intro a b ca cb w S S2 h;cases a;simp[Pars.size] at h
 | N+1=>same_step (same_le N)
theorem same_any {a b:Pars.Node} {ca cb:Array Value} {w:World} {S S2:Nat→Prop} (h:Pars.size a≤4611686018427387904) (hn:NodeAt w S a ca) (hm:NodeAt w S2 b cb):
  Calls Tryz.prog 11 #[.agg ca,.agg cb] w fun e w'=>e= .returned (.bool (Pars.same a b))∧Below w.heap.size w w':=same_le _ a b ca cb w S S2 (Nat.le_refl _) h hn hm
end Go.Proofs.YtflmjbmdmoifhaaGreatDoor
namespace Scopy
theorem back_facts {n m:Pars.Node} {dk:Int} {x:List UInt8} {known:List (List UInt8)} (h:rename n dk x known=(m,0)) (hs:Pars.size n≤1048576):
  ∃(k:Nat) (d:Decl),dk=(k:Int)∧k<(names n known).decls.length∧(names n known).decls[k]? =some d∧rename m k d.name known=(n,0)∧d.name.length≤2000∧(names n known).e=0∧(names m known).e=0∧(names m known).decls.length=(names n known).decls.length∧(names m known).uses.map (·.2)=(names n known).uses.map (·.2)∧Pars.size m≤1048576∧Wri.wg m≤Wri.wg n+4194304000:=by
 obtain⟨h1,h2,h3,h4,h5,h6,h7,h8⟩:=rename_ok h
 obtain⟨k,rfl⟩:∃k:Nat,dk=k:=⟨dk.toNat,by omega⟩
 have hk:k<(names n known).decls.length:=by omega
 have hd:(names n known).decls[(k:Int).toNat]? =some ((names n known).decls[k]):=by rw[Int.toNat_natCast];exact List.getElem?_eq_getElem hk
 have hb:=back_law h _ hd
 obtain⟨c1,c2,c3⟩:=names_ok h1
 have hm:m=(look known k x n).2:=by rw[c3];exact h5
 refine⟨k,_,rfl,hk,List.getElem?_eq_getElem hk,hb,name_len (rename_ok hb).2.2.2.1,h1,h6,by rw[h8,setName_len],h7,?_,?_⟩
 ·rw[hm];exact look_size n hs
 ·rw[hm];exact look_wg n hs (name_len h4)
theorem wrong_facts {n:Pars.Node} {dk:Int} {x:List UInt8} {known:List (List UInt8)} (h:(names n known).e≠0):(rename n dk x known).2=(names n known).e:=by
 unfold rename
 rw[if_pos h]
end Scopy
namespace Go.Proofs.YtflmjbmdmoifhaaGreatDoor
open Go.Lib (hid)
open Go.RowKit
set_option maxRecDepth 100000 in
set_option maxHeartbeats 8000000 in
theorem sback_true {w:World} {n:Pars.Node} {cs:Array Value} {S:Nat→Prop} {kv:Value} {known:List (List UInt8)} {dk:Int} {nm:List UInt8} (he:EnvW w) (hn:NodeAt w S n cs) (hw:Wri.wg n≤1048576) (hk:KnAt w w.heap.size known kv) (hnl:nm.length≤9223372036854775807):
  Calls Tryz.prog 3 #[.agg cs,.int .i64 dk,.string (byt nm),kv] w (TruthOut w):=by
 have hsz:Pars.size n≤1048576:=Nat.le_trans (size_wg n) hw
 have HE:=hid he
 have HN:=hid (hn.weak (S1:=fun _=>True) (fun _ _=>trivial))
 have HKA:Hid (∀W,Below w.heap.size w W→KnAt W W.heap.size known kv):=hid (fun W hW=>(hk.fr (Fr.below hW (fun _=>False)) (fun _ _ h=>h)).low fun g _ h=>h)
 have h4:=NodeAt.size hn
 have HINF:Hid ((Tryz.prog.info? 24).map (·.size)=some cs.size):=hid (by rw[h4];exact info_nod)
 have hbig:=he.big
 clear he hn hk h4
 go_enter Tryz.func3,Tryz.ntmps3
 go_upto_region 1 with fail
 refine gen_world (F:=fun W=>Box W w.heap.size 24 cs∧Below w.heap.size w W) ⟨Box.new w _ _,below1 w _⟩ ?_
 rintro w1 ⟨b0,hU⟩
 have HU:=hid hU
 have EB:=hid b0
 replace HN:=hid (HN.out.below hU)
 have eb:=b0
 clear b0 hU
 go_wp2_with (refine wpList_load_row rfl 24 (.tmp 4) rfl w.heap.size rfl _ cs (0,0) _ eb Tryz.underlying24 rfl HINF.out ?_)
 refine (names_any (HE.out.below HU.out hbig) HN.out hsz (by omega) (HKA.out _ HU.out)).mono ?_
 rintro e w2 ⟨dv,uv,ds,us,k,rfl,hd,hv,hq,hb⟩
 have HD:=hid hd
 have HV:=hid hv
 have HQ:=hid hq
 replace HN:=hid (HN.out.below hb)
 replace EB:=bl EB hb
 replace HU:=hid (HU.out.trans (hb.mono HU.out.size))
 clear hd hv hq hb eb
 have eb:=EB.out
 go_wp2_with (refine wpList_load_row rfl 24 (.tmp 4) rfl w.heap.size rfl _ cs (0,0) _ eb Tryz.underlying24 rfl HINF.out ?_)
 refine (rename_c (nm:=nm) (dk:=dk) (HE.out.below HU.out hbig) HN.out hw (HKA.out _ HU.out) hnl).mono ?_
 rintro e w3 ⟨c,rfl,hm,hb⟩
 obtain⟨m,hmm⟩:∃m,(Scopy.rename n dk nm known).1=m:=⟨_,rfl⟩
 obtain⟨r,hr⟩:∃r,(Scopy.rename n dk nm known).2=r:=⟨_,rfl⟩
 have HR:Hid (Scopy.rename n dk nm known=(m,r)):=hid (Prod.ext hmm hr)
 rw[hmm] at hm
 rw[hr]
 have HM:=hid hm
 have HMI:Hid ((Tryz.prog.info? 24).map (·.size)=some c.size):=hid (by rw[NodeAt.size hm];exact info_nod)
 have HM4:Hid ((4:Nat)=c.size):=hid (NodeAt.size hm).symm
 have HMO:=hid (NodeAt.one hm)
 replace HD:=hid (own_below HD.out hb)
 replace HV:=hid (own_below HV.out hb)
 replace HN:=hid (HN.out.below hb)
 replace EB:=bl EB hb
 replace HU:=hid (HU.out.trans (hb.mono HU.out.size))
 clear hm hb eb hmm hr
 go_upto_region 3 with (refine wpList_store_box rfl 24 (.tmp 12) (.tmp 33) rfl w3.heap.size c rfl rfl 24 _ (Box.new w3 _ _) HMI.out HM4.out HMO.out ?_;intro w4 hx hu hz;have HZ:=hid hz;clear hz)
 have hb:Below w3.heap.size w3 w4:=(below1 w3 _).trans (hu.own (Nat.le_refl _) (by simp))
 have EM:=hid hx
 replace HM:=hid (HM.out.below hb)
 replace HD:=hid (own_below HD.out hb)
 replace HV:=hid (own_below HV.out hb)
 replace HN:=hid (HN.out.below hb)
 replace EB:=bl EB hb
 replace HU:=hid (HU.out.trans (hb.mono HU.out.size))
 clear hx hu hb
 go_wp2_with fail
 refine (slives_true _ (HE.out.below HU.out hbig)).mono ?_
 rintro e w5 ⟨rfl,hb⟩
 replace EM:=bl EM hb
 replace HM:=hid (HM.out.below hb)
 replace HD:=hid (own_below HD.out hb)
 replace HV:=hid (own_below HV.out hb)
 replace HN:=hid (HN.out.below hb)
 replace EB:=bl EB hb
 replace HU:=hid (HU.out.trans (hb.mono HU.out.size))
 clear hb
 go_wp2_with fail
 refine (ok2_any k (r:Int) _).mono ?_
 rintro e w6 ⟨rfl,hb⟩
 replace EM:=bl EM hb
 replace HM:=hid (HM.out.below hb)
 replace HD:=hid (own_below HD.out hb)
 replace HV:=hid (own_below HV.out hb)
 replace HN:=hid (HN.out.below hb)
 replace EB:=bl EB hb
 replace HU:=hid (HU.out.trans (hb.mono HU.out.size))
 clear hb
 by_cases y0:k=0
 ·subst y0
  by_cases y1:r=0
  ·subst y1
   have z1:(decide ((0:Int)=0)&&decide (((0:Nat):Int)=0))=true:=rfl
   rw[z1]
   clear z1
   obtain⟨rfl,rfl⟩:ds=(Scopy.names n known).decls∧us=(Scopy.names n known).uses:=by
    rcases HQ.out with⟨_,_,h1,h2⟩ | ⟨h,h2,_⟩
    ·exact⟨h1,h2⟩
    ·exact absurd (Int.ofNat_eq_zero.1 h2.symm) h
   obtain⟨j,d,rfl,hjl,hdj,hback,hdn,hne,hme,hml,hmu,hms,hmw⟩:=Scopy.back_facts HR.out hsz
   obtain⟨ds,hds⟩:∃x,(Scopy.names n known).decls=x:=⟨_,rfl⟩
   obtain⟨us,hus⟩:∃x,(Scopy.names n known).uses=x:=⟨_,rfl⟩
   rw[hds] at HD hjl hdj hml
   rw[hus] at HV hmu
   obtain⟨q,hq⟩:∃q,ds.length=q:=⟨_,rfl⟩
   rw[hq] at HD hjl hml
   obtain⟨Ad,capd,hdv⟩:=own_slice HD.out
   subst hdv
   obtain⟨gd,rfl,hgd,hgd2,hcd,hcell⟩:=own_at dc_size HD.out (by omega)
   have c1:w6.cell? ⟨gd,j * 4+1,none⟩=some (.string (byt d.name)):=hcell j d hdj 1 _ rfl
   have R1:=hid EM.out.drew
   have R2:Hid (w6.drew.cell? ⟨gd,j * 4+1,none⟩=some (.string (byt d.name))):=hid c1
   have HBK:=hid hback
   have HML:=hid hml
   have HMU:=hid hmu
   have HNE:=hid hne
   have HME:=hid hme
   have HDS:=hid hds
   have HUS:=hid hus
   have HQL:=hid hq
   have e1:¬(j:Int)<0:=by omega
   have e1d:decide ((j:Int)<0)=false:=decide_eq_false e1
   have e2:decide (q≤j)=false:=decide_eq_false (by omega)
   have e2i:decide ((q:Int)≤(j:Int))=false:=decide_eq_false (by omega)
   have e3:(j:Int)<(q:Int):=by omega
   clear hdj hback hne hme hml hmu hds hus hq hcell c1 hgd
   go_upto_region 7 with fail
   go_cut [14,15] from 14 to 74 (fun s14 s15 wx=>∃(pb:Nat) (cb:Array Value),s14= .pointer (some ⟨pb,0,none⟩)∧s15= .int .i64 0∧Hid (Box wx pb 24 cb)∧Hid (NodeAt wx (fun _=>True) n cb)∧Hid (Below w6.heap.size w6 wx))
   case first=>
    clear HD HV HQ HDS HUS HQL HML HMU HNE HME e1 e1d e2 e2i
    refine wp_region_until 8 (fun w'=>Box w' w3.heap.size 24 c∧w'.cell? ⟨gd,j * 4+1,none⟩=some (.string (byt d.name))) (by kernel_rfl) ⟨R1.out,R2.out⟩ (fun hHeld=> ?_)
    clear hHeld
    refine wpAnyU_take (i:=0) (v:=_) rfl (by kernel_rfl) (by kernel_rfl) (by kernel_rfl) (by kernel_rfl) (by kernel_rfl) (fun _ _ _ h=>h) (yields_load_box (by kernel_rfl) 24 (.tmp 12) rfl (w3.heap.size) 24 (c) _ rfl (fun _ h=>h.1) Tryz.underlying24 rfl HMI.out) ⟨R1.out,R2.out⟩ ?_
    (try simp only[Act.put,sq])
    refine tU (i:=1) (v:= ?_) rfl ?_ (.inr ⟨R1.out,R2.out⟩) ?_
    rotate_left
    ·intro w hSw
     go_simp
     try (with_reducible rfl)
    (try simp only[Act.put,sq])
    refine tU (i:=2) (v:= ?_) rfl ?_ (.inr ⟨R1.out,R2.out⟩) ?_
    rotate_left
    ·intro w hSw
     go_simp
     try (with_reducible rfl)
    (try simp only[Act.put,sq])
    refine tU (i:=3) (v:= ?_) rfl ?_ (.inr ⟨R1.out,R2.out⟩) ?_
    rotate_left
    ·intro w hSw
     go_simp
     try (with_reducible rfl)
    (try simp only[Act.put,sq])
    refine tU (i:=4) (v:= ?_) rfl ?_ (.inr ⟨R1.out,R2.out⟩) ?_
    rotate_left
    ·intro w hSw
     go_simp
     try (with_reducible rfl)
    (try simp only[Act.put,sq])
    refine tU (i:=5) (v:= ?_) rfl ?_ (.inr ⟨R1.out,R2.out⟩) ?_
    rotate_left
    ·intro w hSw
     go_simp
     try (with_reducible rfl)
    (try simp only[Act.put,sq])
    refine tV (i:=6) (v:= ?_) rfl ?_ ⟨R1.out,R2.out⟩ ?_
    rotate_left
    ·intro w hSw
     have c1:=hSw.1
     have c2:=hSw.2
     go_simp
     try (with_reducible rfl)
    (try simp only[Act.put,sq])
    refine tU (i:=7) (v:= ?_) rfl ?_ (.inr ⟨R1.out,R2.out⟩) ?_
    rotate_left
    ·intro w hSw
     go_simp
     try (with_reducible rfl)
    (try simp only[Act.put,sq])
    have hwd:Below w6.heap.size w6 w6.drew:=(Below.refl w6.heap.size w6).drew
    have HWD:=hid hwd
    have HCALL:Hid (∀W,Below w6.heap.size w6 W→Calls Tryz.prog 8 #[.agg c,.int .i64 (j:Int),.string (byt d.name),kv] W fun e w'=>∃c,e= .returned (.tuple #[.agg c,.int .i64 0])∧NodeAt w' (fun g=>W.heap.size≤g) n c∧Below W.heap.size W w'):=hid (fun W hW=>(rename_any (dk:=(j:Int)) (nm:=d.name) ((HE.out.below HU.out hbig).below hW (Nat.le_trans hbig HU.out.size)) (HM.out.below hW) hms (by omega) (HKA.out _ (HU.out.trans (hW.mono HU.out.size))) (by omega)).mono fun e w' ⟨c,h1,h2,h3⟩=>by rw[HBK.out] at h1 h2;exact⟨c,h1,h2,h3⟩)
    refine wpAnyU_ready (rs:=[8,12]) (by kernel_rfl) (by simp) ?_
    have HW0:=hid hwd
    refine AllReadyU.cons rfl (fun K hK=> ?_) (AllReadyU.cons rfl (fun K hK=> ?_) AllReadyU.nil)
    ·go_simp
     refine (HCALL.out _ HW0.out).mono ?_
     rintro e w7 ⟨c7,rfl,hn7,hb7⟩
     have HN7:=hid hn7
     have HI7:Hid ((Tryz.prog.info? 24).map (·.size)=some c7.size):=hid (by rw[NodeAt.size hn7];exact info_nod)
     have H47:Hid ((4:Nat)=c7.size):=hid (NodeAt.size hn7).symm
     have HO7:=hid (NodeAt.one hn7)
     have HB7:=hid (HW0.out.trans (hb7.mono HW0.out.size))
     have HBB:=hid hb7
     clear hn7 hb7
     refine hK.out _ _ (.inl (by kernel_rfl)) (fun hHeld=> ?_)
     clear hK hHeld K
     (try simp only[Act.put,sq])
     refine tU (i:=9) (v:= ?_) rfl ?_ (.inl (by kernel_rfl)) ?_
     rotate_left
     ·intro w hSw
      go_simp
      try (with_reducible rfl)
     (try simp only[Act.put,sq])
     refine tU (i:=10) (v:= ?_) rfl ?_ (.inl (by kernel_rfl)) ?_
     rotate_left
     ·intro w hSw
      go_simp
      try (with_reducible rfl)
     (try simp only[Act.put,sq])
     refine tU (i:=11) (v:= ?_) rfl ?_ (.inl (by kernel_rfl)) ?_
     rotate_left
     ·intro w hSw
      go_simp
      try (with_reducible rfl)
     (try simp only[Act.put,sq])
     refine rdU 12 rfl fun K hK=> ?_
     go_simp
     refine hK.out _ _ (.inl (by kernel_rfl)) (fun hHeld=> ?_)
     clear hK hHeld K
     (try simp only[Act.put,sq])
     refine rdU 13 rfl fun K hK=> ?_
     refine step_store_box rfl 24 (.tmp 14) (.tmp 72) rfl w7.heap.size c7 (by simp[Act.eval,Act.put]) (by simp[Act.eval,Act.put]) 24 _ (Box.new w7 _ _) HI7.out H47.out HO7.out ?_
     intro w8 hx8 hu8 hz8
     have HX8:=hid hx8
     have HU8:=hid hu8
     clear hx8 hu8 hz8
     refine hK.out _ _ (.inl (by kernel_rfl)) (fun hHeld=> ?_)
     clear hK hHeld K
     (try simp only[Act.put,sq])
     refine rdU 14 rfl fun K hK=> ?_
     go_simp
     refine hK.out _ _ (.inl (by kernel_rfl)) (fun hHeld=> ?_)
     clear hK hHeld K
     (try simp only[Act.put,sq])
     refine wpAnyU_done (by kernel_rfl) ?_ _
     go_wp2_with fail
     go_meet
     have hb8:Below w7.heap.size w7 w8:=(below1 w7 _).trans (HU8.out.own (Nat.le_refl _) (by simp))
     exact⟨w7.heap.size,c7,rfl,rfl,HX8.out,(HN7.out.weak (fun _ _=>trivial)).below hb8,HB7.out.trans (hb8.mono HB7.out.size)⟩
    ·go_simp
     have hal:Below w6.drew.heap.size w6.drew (w6.drew.alloc (.cells #[.int .i64 0,.int .i64 0,.string ⟨#[]⟩,.slice none 0 0] 24)):=below1 _ _
     have R1:=bl R1 hal
     have R2:Hid ((w6.drew.alloc (.cells #[.int .i64 0,.int .i64 0,.string ⟨#[]⟩,.slice none 0 0] 24)).cell? ⟨gd,j * 4+1,none⟩=some (.string (byt d.name))):=hid (by rw[hal.cell (p:=⟨gd,j * 4+1,none⟩) hgd2];exact R2.out)
     have HW0:=hid (HW0.out.trans (hal.mono HW0.out.size))
     have HZB:=hid (Box.new w6.drew 24 #[.int .i64 0,.int .i64 0,.string ⟨#[]⟩,.slice none 0 0])
     refine hK.out _ _ (.inr ⟨R1.out,R2.out⟩) (fun hHeld=> ?_)
     clear hK hHeld K
     (try simp only[Act.put,sq])
     refine rdU 8 rfl fun K hK=> ?_
     go_simp
     refine (HCALL.out _ HW0.out).mono ?_
     rintro e w7 ⟨c7,rfl,hn7,hb7⟩
     have HN7:=hid hn7
     have HI7:Hid ((Tryz.prog.info? 24).map (·.size)=some c7.size):=hid (by rw[NodeAt.size hn7];exact info_nod)
     have H47:Hid ((4:Nat)=c7.size):=hid (NodeAt.size hn7).symm
     have HO7:=hid (NodeAt.one hn7)
     have HB7:=hid (HW0.out.trans (hb7.mono HW0.out.size))
     have HBB:=hid hb7
     clear hn7 hb7
     refine hK.out _ _ (.inl (by kernel_rfl)) (fun hHeld=> ?_)
     clear hK hHeld K
     (try simp only[Act.put,sq])
     refine tU (i:=9) (v:= ?_) rfl ?_ (.inl (by kernel_rfl)) ?_
     rotate_left
     ·intro w hSw
      go_simp
      try (with_reducible rfl)
     (try simp only[Act.put,sq])
     refine tU (i:=10) (v:= ?_) rfl ?_ (.inl (by kernel_rfl)) ?_
     rotate_left
     ·intro w hSw
      go_simp
      try (with_reducible rfl)
     (try simp only[Act.put,sq])
     refine tU (i:=11) (v:= ?_) rfl ?_ (.inl (by kernel_rfl)) ?_
     rotate_left
     ·intro w hSw
      go_simp
      try (with_reducible rfl)
     (try simp only[Act.put,sq])
     have HZ7:=hid (HZB.out.below HBB.out HZB.out.lt)
     refine rdU 13 rfl fun K hK=> ?_
     refine step_store_box rfl 24 (.tmp 14) (.tmp 72) rfl w6.drew.heap.size c7 (by simp[Act.eval,Act.put]) (by simp[Act.eval,Act.put]) 24 _ HZ7.out HI7.out H47.out HO7.out ?_
     intro w8 hx8 hu8 hz8
     have HX8:=hid hx8
     have HU8:=hid hu8
     clear hx8 hu8 hz8
     refine hK.out _ _ (.inl (by kernel_rfl)) (fun hHeld=> ?_)
     clear hK hHeld K
     (try simp only[Act.put,sq])
     refine rdU 14 rfl fun K hK=> ?_
     go_simp
     refine hK.out _ _ (.inl (by kernel_rfl)) (fun hHeld=> ?_)
     clear hK hHeld K
     (try simp only[Act.put,sq])
     refine wpAnyU_done (by kernel_rfl) ?_ _
     go_wp2_with fail
     go_meet
     exact⟨w6.drew.heap.size,c7,rfl,rfl,HX8.out,HN7.out.keep (fun _ _ _=>trivial) HU8.out.size (fun g h hg=>HU8.out.block g hg (fun e=>by injection e with e;have h:(w6.drew.alloc (.cells #[.int .i64 0,.int .i64 0,.string ⟨#[]⟩,.slice none 0 0] 24)).heap.size≤g:=h;simp at h;have e:g=w6.heap.size:=e;omega)),HB7.out.trans (HU8.out.own (Nat.le_refl _) HB7.out.size)⟩
   case rest=>
    obtain⟨pb,cb,rfl,rfl,hx9,hn9,hb9⟩:=hcut
    have hb:=hb9.out
    have EB9:=hid hx9.out
    have HN9:=hid hn9.out
    have HI9:Hid ((Tryz.prog.info? 24).map (·.size)=some cb.size):=hid (by rw[NodeAt.size hn9.out];exact info_nod)
    replace EM:=bl EM hb
    replace HM:=hid (HM.out.below hb)
    replace HD:=hid (own_below HD.out hb)
    replace HV:=hid (own_below HV.out hb)
    replace HN:=hid (HN.out.below hb)
    replace EB:=bl EB hb
    replace HU:=hid (HU.out.trans (hb.mono HU.out.size))
    clear hb hb9 hx9 hn9 R1 R2 HBK
    have em:=EM.out
    go_wp2_with (refine wpList_load_row rfl 24 (.tmp 12) rfl w3.heap.size rfl _ c (0,0) _ em Tryz.underlying24 rfl HMI.out ?_)
    refine (names_any (HE.out.below HU.out hbig) HM.out hms (by omega) (HKA.out _ HU.out)).mono ?_
    rintro e w10 ⟨dv2,uv2,ds2,us2,k2,rfl,hd2,hv2,hq2,hb⟩
    obtain⟨hk2,hl2,hl3⟩:k2=0∧ds2.length=q∧us2.map (·.2)=us.map (·.2):=by
     rcases hq2 with⟨_,h1,h2,h3⟩ | ⟨h,_⟩
     ·exact⟨h1,by rw[h2];exact HML.out,by rw[h3];exact HMU.out⟩
     ·exact absurd HME.out h
    subst hk2
    obtain⟨A2,cap2,hdv2⟩:=own_slice hd2
    obtain⟨A3,cap3,huv2⟩:=own_slice hv2
    have hl4:us2.length=us.length:=by have:=congrArg List.length hl3;simpa using this
    obtain⟨p,hp⟩:∃p,us.length=p:=⟨_,rfl⟩
    rw[hl2] at hdv2
    rw[hl4,hp] at huv2 hv2
    rw[hp] at HV
    obtain⟨A1,cap1,huv⟩:=own_slice HV.out
    subst hdv2 huv2 huv
    have HV2:=hid hv2
    have HL3:=hid hl3
    have HP:=hid hp
    have HL4:=hid hl4
    replace EB9:=bl EB9 hb
    replace HN9:=hid (HN9.out.below hb)
    replace HV:=hid (own_below HV.out hb)
    replace HN:=hid (HN.out.below hb)
    replace EB:=bl EB hb
    replace HU:=hid (HU.out.trans (hb.mono HU.out.size))
    clear hb hd2 hv2 hq2 hl2 hl3 hl4 hp em EM HM HD e1 e1d e2 e2i e3
    go_wp2_with fail
    refine (ok2_any 0 0 _).mono ?_
    rintro e w11 ⟨rfl,hb⟩
    replace EB9:=bl EB9 hb
    replace HN9:=hid (HN9.out.below hb)
    replace HV:=hid (own_below HV.out hb)
    replace HV2:=hid (own_below HV2.out hb)
    replace HN:=hid (HN.out.below hb)
    replace EB:=bl EB hb
    replace HU:=hid (HU.out.trans (hb.mono HU.out.size))
    clear hb
    have z1:(decide ((0:Int)=0)&&decide ((0:Int)=0))=true:=rfl
    rw[z1]
    clear z1
    have eb:=EB.out
    have eb9:=EB9.out
    go_wp2_with (first | (refine wpList_load_row_g (by kernel_rfl) 24 (.tmp 14) rfl pb rfl _ cb _ eb9 Tryz.underlying24 rfl HI9.out ?_) | (refine wpList_load_row_g (by kernel_rfl) 24 (.tmp 4) rfl w.heap.size rfl _ cs _ eb Tryz.underlying24 rfl HINF.out ?_))
    refine (same_any (by omega) HN9.out HN.out).mono ?_
    rintro e w12 ⟨rfl,hb⟩
    rw[Pars.same_refl]
    replace HV:=hid (own_below HV.out hb)
    replace HV2:=hid (own_below HV2.out hb)
    replace HU:=hid (HU.out.trans (hb.mono HU.out.size))
    clear hb eb eb9 EB9 HN9 HN EB
    have z1:((q:Int) != (q:Int))=false:=by simp
    have z2:((p:Int) != (p:Int))=false:=by simp
    have hpb:p≤4000000:=by have h:=(look_lens (n:=n) (known:=known) (dk:= -1) (nm:=[]) hsz).2;rw[names_look,HUS.out,HP.out] at h;exact h
    go_upto_region 11 with fail
    go_wp2_with fail
    go_loopg [108] p (fun gg s108 wr=>∃j:Nat,j≤p∧p - j≤gg∧s108= .int .i64 (j:Int)∧Hid (Below w12.heap.size w12 wr))
    case atStart=>exact⟨0,Nat.zero_le _,by omega,rfl,Below.refl _ w12⟩
    case round=>
     obtain⟨j,hj,hgg,rfl,BW⟩:=hrel
     by_cases hlt:j<p
     ·have hltz:(j:Int)<(p:Int):=by omega
      have hltd:decide ((j:Int)<(p:Int))=true:=decide_eq_true hltz
      obtain⟨x,hx⟩:∃x,us[j]? =some x:=⟨_,List.getElem?_eq_getElem (by rw[HP.out];exact hlt)⟩
      obtain⟨y,hy⟩:∃y,us2[j]? =some y:=⟨_,List.getElem?_eq_getElem (by rw[HL4.out,HP.out];exact hlt)⟩
      have hxy:y.2=x.2:=by
       have h1:=congrArg (fun l:List Int=>l[j]?) HL3.out
       simp only[List.getElem?_map,hx,hy,Option.map_some,Option.some.injEq] at h1
       exact h1
      obtain⟨g2,rfl,_,hg2,_,hc2⟩:=own_at uc_size (own_below HV.out BW.out) (by omega)
      obtain⟨g3,rfl,_,hg3,_,hc3⟩:=own_at uc_size (own_below HV2.out BW.out) (by omega)
      have c1:wr.cell? ⟨g2,j * 2+1,none⟩=some (.int .i64 x.2):=hc2 j x hx 1 _ rfl
      have c2:wr.cell? ⟨g3,j * 2+1,none⟩=some (.int .i64 x.2):=by rw[←hxy];exact hc3 j y hy 1 _ rfl
      have z3:(x.2 != x.2)=false:=by simp
      clear hx hy hxy hc2 hc3
      go_upto_region 14 with fail
      go_quiet (fail)
      go_wp2_with fail
      go_roundg (p - (j+1))
      case measure=>omega
      case rel=>exact⟨j+1,by omega,by omega,by go_num,hid (below_drewN BW.out nq)⟩
     ·have hltz:¬(j:Int)<(p:Int):=by omega
      have hltd:decide ((j:Int)<(p:Int))=false:=decide_eq_false hltz
      go_wp2
      go_ret
      exact⟨rfl,HU.out.trans (BW.out.mono HU.out.size)⟩
  ·have z1:(decide ((0:Int)=0)&&decide (((r:Nat):Int)=0))=false:=by simp[y1]
   rw[z1]
   clear z1 y1
   go_wp2_with fail
   refine (slives_true _ (HE.out.below HU.out hbig)).mono ?_
   rintro e w7 ⟨rfl,hb⟩
   replace HU:=hid (HU.out.trans (hb.mono HU.out.size))
   go_wp2
   go_ret
   exact⟨rfl,HU.out⟩
 ·have hr:(r:Int)=k:=by
   rcases HQ.out with⟨_,h,_⟩ | ⟨h1,h2,_⟩
   ·exact absurd h y0
   ·rw[h2, ←Scopy.wrong_facts (dk:=dk) (x:=nm) h1,HR.out]
  rw[hr]
  have z1:(decide (k=0)&&decide (k=0))=false:=by simp[y0]
  rw[z1]
  have z2:decide (k=0)=false:=by simp[y0]
  clear z1 hr
  go_wp2_with fail
  refine (slives_true _ (HE.out.below HU.out hbig)).mono ?_
  rintro e w7 ⟨rfl,hb⟩
  replace HU:=hid (HU.out.trans (hb.mono HU.out.size))
  go_wp2
  go_ret
  exact⟨rfl,HU.out⟩
end Go.Proofs.YtflmjbmdmoifhaaGreatDoor

/-
  Texts that the law leans on: SmL, SmM, SmN, SmO. Conditions: as each says.
-/
import Derived.Test.YtflmjbmdmoifhaaGreatDoorKAf
import Derived.Test.YtflmjbmdmoifhaaGreatDoorKAj
import Derived.Test.YtflmjbmdmoifhaaGreatDoorKAo
import Derived.Test.YtflmjbmdmoifhaaGreatDoorKAp
import Derived.Test.YtflmjbmdmoifhaaGreatDoorKAa
import Derived.BigQuiet
set_option linter.unusedSimpArgs false
set_option linter.unusedVariables false
namespace Go.Proofs.YtflmjbmdmoifhaaGreatDoor
open Go.Lib (hid)
open Go.RowKit
theorem parts_nodc:(Tryz.prog.info? 24).map (fun i=>(i.zero,i.size,i.bytes))=some (some (.agg #[.int .i64 0,.int .i64 0,.string ⟨#[]⟩,.slice none 0 0]),4,56):=by kernel_rfl
set_option maxRecDepth 100000 in
set_option maxHeartbeats 4000000 in
theorem clone_nodes (xs:List Value) (n:Nat) (v:Value) (w:World) (hR:Rd w 4 xs n v) (hlen:xs.length=n * 4) (h1:∀u∈xs,u.oneCell'=true) (hl:n * 56≤140737488355328):
  Calls Tryz.prog 38 #[v] w fun e w'=>OwnOut w 24 4 n xs e w':=by
 obtain⟨A,cap,rfl,hcap1,hcap2,hrow⟩:=hR
 obtain⟨i0,hi0,hz0,hz1,hz2⟩:=parts_of parts_nodc
 have hone:=hid h1
 clear h1
 cases A with
 | none=>
  have h0:n=0:=by
   rcases Nat.eq_zero_or_pos n with h | h
   ·exact h
   ·obtain⟨_,_,h,_⟩:=hrow h;cases h
  subst h0
  have hx:xs=[]:=List.eq_nil_of_length_eq_zero (by omega)
  subst hx
  have hnil:=fun w=>Lib.run_eql_slice_nil (P:=Tryz.prog) w 22 24 none 0 cap 0 0 Tryz.underlying22
  go_enter Tryz.func38,Tryz.ntmps38
  go_wp2
  go_ret
  exact⟨_,rfl,World.ownsRow_nil _ _ _ _,Below.refl _ _⟩
 | some ad=>
  have hnil:=fun w=>Lib.run_eql_slice_nil (P:=Tryz.prog) w 22 24 (some ad) n cap 0 0 Tryz.underlying22
  have hnews:Hid (∀o j u,xs[j]? =some u→(w.alloc o).cell? (ad.add j)=some u):=by
   intro o j u hu
   have hj:j<n * 4:=by rw[←hlen];exact (List.getElem?_eq_some_iff.1 hu).1
   obtain⟨g,o2,e,hg,hr⟩:=hrow (by omega)
   injection e with e
   subst e
   rw[Addr.add_mid]
   exact Lib.cell?_alloc_some o (hr j u hu)
  have HL:=hid hlen
  clear hlen hrow
  go_enter Tryz.func38,Tryz.ntmps38
  go_wp2_with (at_builtin;refine wpList_append_own _ rfl (.tmp 5) (.tmp 6) 22 rfl w.heap.size 24 i0 _ 4 56 Tryz.underlying22 hi0 hz0 hz1 hz2 rfl (by decide) (.slice (some ⟨w.heap.size,0,none⟩) 0 0) 0 [] rfl (World.ownsRow_made w #[] 0 (Nat.le_refl _) (by decide) rfl) ad n cap xs rfl HL.out (hnews.out _) hone.out (by unfold maxLen;omega) (by omega) (by simp) ?_;intro v' w1 hown hgr _)
  go_ret
  refine⟨v',rfl,by simpa using hown,?_⟩
  refine Below.trans (below1 w _) (below_grown hgr (by simp) (fun k hk=> ?_))
  simp[Value.ownBlock] at hk
  omega
mutual
theorem KidsIn.wide {w:World} {lo hi lo2 hi2:Nat} (h1:lo2≤lo) (h2:hi≤hi2):∀{l:List Pars.Node} {v:Value},KidsIn w lo hi l v→KidsIn w lo2 hi2 l v
 | [],v,h=>by unfold KidsIn at h ⊢;exact h
 | n :: l,v,h=>by
  unfold KidsIn at h ⊢
  obtain⟨b,cap,C,css,e,q1,q2,q3,q4,q5,q6,q7⟩:=h
  exact⟨b,cap,C,css,e,q1,q2,by omega,by omega,q5,q6,SubsIn.wide (Nat.le_refl _) h2 q7⟩
theorem SubsIn.wide {w:World} {lo hi lo2 hi2:Nat} (h1:lo2≤lo) (h2:hi≤hi2):∀{l:List Pars.Node} {cs:List (Array Value)},SubsIn w lo hi l cs→SubsIn w lo2 hi2 l cs
 | [],[],h=>by unfold SubsIn;trivial
 | n :: l,c :: cs,h=>by
  unfold SubsIn at h ⊢
  obtain⟨q,h3,h4,h5,h6⟩:=h
  exact⟨q,by omega,by omega,NodeIn.wide h1 (Nat.le_refl _) h5,SubsIn.wide (Nat.le_refl _) h2 h6⟩
 | [],_ :: _,h=>by unfold SubsIn at h;exact h.elim
 | _ :: _,[],h=>by unfold SubsIn at h;exact h.elim
theorem NodeIn.wide {w:World} {lo hi lo2 hi2:Nat} (h1:lo2≤lo) (h2:hi≤hi2):∀{n:Pars.Node} {c:Array Value},NodeIn w lo hi n c→NodeIn w lo2 hi2 n c
 | .mk k nu t l,c,h=>by
  unfold NodeIn at h ⊢
  obtain⟨v,e,h⟩:=h
  exact⟨v,e,KidsIn.wide h1 h2 h⟩
end
theorem SubsIn.snoc {w:World} {x:Pars.Node} {c:Array Value} {mid hi:Nat} (hx:NodeIn w mid hi x c) (hm:mid≤hi):∀{l:List Pars.Node} {lo m:Nat} {cs:List (Array Value)},SubsIn w lo m l cs→lo≤m→m≤mid→SubsIn w lo hi (l++[x]) (cs++[c])
 | [],lo,m,[],h,h1,h2=>by
  have hx':NodeIn w lo hi x c:=NodeIn.wide (by omega) (Nat.le_refl _) hx
  simp only[List.nil_append]
  unfold SubsIn
  exact⟨hi,by omega,Nat.le_refl _,hx',by unfold SubsIn;trivial⟩
 | n :: l,lo,m,d :: cs,h,h1,h2=>by
  unfold SubsIn at h
  obtain⟨q,h3,h4,h5,h6⟩:=h
  simp only[List.cons_append]
  unfold SubsIn
  exact⟨q,h3,by omega,h5,SubsIn.snoc hx hm h6 h4 h2⟩
 | [],lo,m,_ :: _,h,_,_=>by unfold SubsIn at h;exact h.elim
 | _ :: _,lo,m,[],h,_,_=>by unfold SubsIn at h;exact h.elim
theorem splice_get (L:List Value) (o:Nat) (cs:List Value) (h:o+cs.length≤L.length) (q:Nat):(splice L o cs)[q]? =if o≤q∧q<o+cs.length then cs[q - o]? else L[q]? :=by
 unfold splice
 have h1:(L.take o).length=o:=by simp;omega
 by_cases a:q<o
 ·rw[if_neg (by omega),List.getElem?_append_left (by omega),List.getElem?_take,if_pos a]
 ·by_cases b:q<o+cs.length
  ·rw[if_pos ⟨by omega,b⟩,List.getElem?_append_right (by omega),h1,List.getElem?_append_left (by omega)]
  ·rw[if_neg (by omega),List.getElem?_append_right (by omega),h1,List.getElem?_append_right (by omega),List.getElem?_drop]
   congr 1
   omega
theorem RowHas.flat:∀(css:List (Array Value)) (R:List Value),(∀c∈css,c.size=4)→RowHas (flatA css++R).toArray css:=by
 intro css R h i c hc
 have hs:=h c (List.mem_of_getElem? hc)
 refine⟨hs,fun j hj=> ?_⟩
 have key:∀(l:List (Array Value)) (i:Nat),(∀c∈l,c.size=4)→l[i]? =some c→(flatA l++R)[i * 4+j]? =c[j]? :=by
  intro l
  induction l with
  | nil=>intro i _ hi;simp at hi
  | cons d l ih=>
   intro i hl hi
   have hd:d.toList.length=4:=by rw[Array.length_toList];exact hl d (by simp)
   have e:flatA (d :: l)++R=d.toList++(flatA l++R):=by simp[flatA]
   rw[e]
   cases i with
   | zero=>
    have hi:d=c:=by simpa using hi
    subst hi
    rw[List.getElem?_append_left (by omega),Nat.zero_mul,Nat.zero_add,Array.getElem?_toList]
   | succ i=>
    rw[List.getElem?_append_right (by omega),hd,show (i+1) * 4+j - 4=i * 4+j by omega]
    exact ih i (fun c hc=>hl c (by simp[hc])) (by simpa using hi)
 rw[List.getElem?_toArray]
 exact key css i h hc
theorem NodesAt.sizes {w:World} {S:Nat→Prop}:∀{l:List Pars.Node} {css:List (Array Value)},NodesAt w S l css→∀c∈css,c.size=4
 | [],[],_,c,hc=>by cases hc
 | n :: l,d :: css,h,c,hc=>by
  unfold NodesAt at h
  rcases List.mem_cons.1 hc with rfl | hc
  ·exact NodeAt.size h.1
  ·exact NodesAt.sizes h.2 c hc
 | [],_ :: _,h,_,_=>by unfold NodesAt at h;exact h.elim
 | _ :: _,[],h,_,_=>by unfold NodesAt at h;exact h.elim
theorem NodeIn.one {w:World} {lo hi:Nat}:∀{n:Pars.Node} {c:Array Value},NodeIn w lo hi n c→c.all (·.oneCell')=true
 | .mk k nu t l,c,h=>by
  unfold NodeIn at h
  obtain⟨v,rfl,h⟩:=h
  obtain⟨A,cap,rfl⟩:=h.slice
  simp[nc,Value.oneCell']
theorem splice_same {L:List Value} {o:Nat} {c:Array Value} (h4:c.size=4) (h:o+4≤L.length):Same4 L.toArray (splice L o c.toList).toArray o∧Cells4 (splice L o c.toList).toArray o c:=by
 have hl:c.toList.length=4:=by rw[Array.length_toList];exact h4
 refine⟨⟨?_,fun q hq=> ?_⟩,fun j hj=> ?_⟩
 ·unfold splice;simp[h4];omega
 ·rw[List.getElem?_toArray,List.getElem?_toArray,splice_get _ _ _ (by omega),if_neg (by omega)]
 ·rw[List.getElem?_toArray,splice_get _ _ _ (by omega),if_pos (by omega),Nat.add_sub_cancel_left,Array.getElem?_toList]
theorem four_cells {xc:Array Value} (h:xc.size=4):∃a b c d,xc= #[a,b,c,d]:=by
 obtain⟨l⟩:=xc
 match l,h with
 | [a,b,c,d],_=>exact⟨a,b,c,d,rfl⟩
def CopyLe (N:Nat):Prop:=∀(n:Pars.Node) (cs:Array Value) (w:World) (S:Nat→Prop),Pars.deep n≤N→Pars.size n≤1048576→NodeAt w S n cs→
  Calls Tryz.prog 26 #[.agg cs] w fun e w'=>∃c,e= .returned (.agg c)∧NodeIn w' w.heap.size w'.heap.size n c∧Below w.heap.size w w'
set_option maxRecDepth 100000 in
set_option maxHeartbeats 8000000 in
theorem copy_step {N:Nat} (ih:CopyLe N):CopyLe (N+1):=by
 intro n cs w S hd hw hn
 have IH:=hid ih
 obtain⟨k,nu,t,l⟩:=n
 replace hn:=NodeAt.keep (S1:=fun g=>g<w.heap.size) (w1:=w) (fun g _ h=>h) (Nat.le_refl _) (fun _ _ _=>rfl) hn
 simp only[Pars.deep] at hd
 have hwl:=Scopy.sizes_ge l
 simp only[Pars.size] at hw
 unfold NodeAt at hn
 obtain⟨A,cap,css,rfl,hc1,hc2,hrow,hk⟩:=hn
 have HROW:=hid hrow
 have HK:=hid hk
 have hlen:=hk.flat_len
 have hcl:=hk.len
 have HONE:=hid hk.all_one
 have HSZ:=hid hk.sizes
 have HCL:Hid (∀W,Below w.heap.size w W→Calls Tryz.prog 38 #[.slice A l.length cap] W fun e w'=>OwnOut W 24 4 l.length (flatA css) e w'):=hid (fun W hW=>clone_nodes (flatA css) l.length _ W ⟨A,cap,rfl,hc1,hc2,fun hp=>by
  obtain⟨g,o,e,_,hg,hr⟩:=HROW.out hp
  exact⟨g,o,e,by have:=hW.size;omega,fun i u hu=>by rw[World.cell?_of_block (hW.block g hg)];exact hr i u hu⟩⟩ hlen HONE.out (by omega))
 have HWG:Hid (∀x∈l,Pars.size x≤1048576∧Pars.deep x≤N):=hid (fun x hx=>⟨by have:=Scopy.size_in hx;omega,by have:=deep_mem hx;omega⟩)
 clear hrow hk ih
 go_enter Tryz.func26,Tryz.ntmps26
 go_upto_region 1 with fail
 refine gen_world (F:=fun W=>Box W w.heap.size 24 (nc k nu t (.slice A l.length cap))∧Box W (w.heap.size+1) 24 #[.int .i64 0,.int .i64 0,.string ⟨#[]⟩,.slice none 0 0]∧Below w.heap.size w W∧W.heap.size=w.heap.size+2) ⟨(Box.new w _ _).alloc _,by have:=Box.new (w.alloc (.cells (nc k nu t (.slice A l.length cap)) 24 (0,0))) 24 #[.int .i64 0,.int .i64 0,.string ⟨#[]⟩,.slice none 0 0];simpa using this,(below1 w _).alloc (by simp) _,by simp⟩ ?_
 rintro W0 ⟨b0,b1,hU,hz0⟩
 have NA:=hid b0
 have NB:=hid b1
 have HU:=hid hU
 have HZ0:=hid hz0
 have c3:=b0.cell 3
 simp[nc] at c3
 clear b0 b1 hU hz0
 go_wp2_with fail
 refine (HCL.out W0 HU.out).mono ?_
 rintro e w1 ⟨v1,rfl,hown,hb⟩
 obtain⟨A2,cap2,hv1⟩:=own_slice hown
 subst hv1
 have NA1:=bl NA hb
 have NB1:=bl NB hb
 have HU1:=hid (HU.out.trans (hb.mono HU.out.size))
 have HOW:=hid hown
 have HB1:=hid hb
 have c3':=NA1.out.cell 3
 have f3':=NA1.out.frozen 3
 simp[nc] at c3'
 obtain⟨m,hm⟩:∃m,l.length=m:=⟨_,rfl⟩
 have HM:=hid hm
 rw[hm] at HOW hwl hlen hcl
 rw[hm]
 clear hown hb c3 HCL NA NB
 go_upto_region 2 with fail
 have hs3:=Fr.set w1 ⟨w.heap.size,3,none⟩ (.slice A2 m cap2)
 have NA2:Hid (Box (w1.setCell ⟨w.heap.size,3,none⟩ (.slice A2 m cap2)) w.heap.size 24 (nc k nu t (.slice A2 m cap2))):=hid (by have:=NA1.out.set 3 (.slice A2 m cap2);simpa [nc] using this)
 have NB2:=hid (hs3.box NB1.out (by show ¬w.heap.size+1=w.heap.size;omega))
 have HOW2:=hid (hs3.own HOW.out fun g e=>by have:=(HOW.out.lt g e).1;have:=HZ0.out;show ¬g=w.heap.size;omega)
 have HU2:Hid (Below w.heap.size w (w1.setCell ⟨w.heap.size,3,none⟩ (.slice A2 m cap2))):=hid (HU1.out.trans (hs3.out (fun i hi e=>by have e:i=w.heap.size:=e;omega) HU1.out.size))
 obtain⟨W1,hW1⟩:∃W,w1.setCell ⟨w.heap.size,3,none⟩ (.slice A2 m cap2)=W:=⟨_,rfl⟩
 rw[hW1] at NA2 NB2 HOW2 HU2 ⊢
 clear hW1 hs3 NA1 NB1 HOW HB1 HU1 c3' f3' HU
 have q3:=NA2.out.cell 3
 simp[nc] at q3
 rcases Nat.eq_zero_or_pos m with h0 | hpos
 ·subst h0
  have hl0:l=[]:=List.eq_nil_of_length_eq_zero hm
  subst hl0
  go_upto_region 3 with fail
  go_loopg [11] 0 (fun gg s11 wr=>s11= .int .i64 0∧wr=W1)
  case atStart=>exact⟨rfl,rfl⟩
  case round=>
   obtain⟨rfl,rfl⟩:=hrel
   have na:=NA2.out
   have nb:=NB2.out
   have hone:(nc k nu t (.slice A2 0 cap2)).all (·.oneCell')=true:=by simp[nc,Value.oneCell']
   go_wp2_with (first | (refine wpList_load_row rfl 24 (.tmp 1) rfl w.heap.size rfl _ (nc k nu t (.slice A2 0 cap2)) (0,0) _ na Tryz.underlying24 rfl info_nod ?_) | (refine wpList_store_box rfl 24 (.tmp 2) (.tmp 25) rfl (w.heap.size+1) (nc k nu t (.slice A2 0 cap2)) rfl rfl 24 _ nb info_nod rfl hone ?_;intro wy hxz huz hzz;have HZZ:=hid hzz;clear hzz))
   refine bodyPost_ret (results_box rfl _ _ (w.heap.size+1) 24 _ _ rfl hxz Tryz.underlying24 rfl info_nod) rfl ?_
   refine⟨nc k nu t (.slice A2 0 cap2),rfl,?_,HU2.out.trans (huz.own (by omega) HU2.out.size)⟩
   unfold NodeIn
   refine⟨_,rfl,?_⟩
   unfold KidsIn
   have:=HOW2.out.2
   rcases this with⟨hv,_⟩ | ⟨_,c2,_,hv,_,_,_,hc,_⟩
   ·injection hv with e1 e2 e3
    subst e3
    exact⟨_,_,rfl,by omega⟩
   ·injection hv with e1 e2 e3
    subst e3
    unfold maxLen at hc
    exact⟨_,_,rfl,by omega⟩
 ·obtain⟨g,capx,R,hv,hgb,hbox,hcn,hc63,hcl4⟩:=own_box HOW2.out hpos
  obtain⟨e1,_,e3⟩:=slice_inj hv
  subst e1 e3
  clear hv
  have HR0:Hid (RowHas (flatA css++R).toArray css):=hid (RowHas.flat css R HSZ.out)
  have hgw:w.heap.size+1<g:=by have:=HZ0.out;omega
  have HINL:Hid (∀a b c d:Value,(Tryz.prog.info? 24).map (·.size)=some [a,b,c,d].length):=hid (fun a b c d=>info_nod)
  have HBX0:=hid hbox
  clear hbox HOW2
  go_upto_region 3 with fail
  go_loopg [11] m (fun gg s11 wr=>∃(j:Nat) (cur:List Value) (news:List (Array Value)),j≤m∧m - j≤gg∧s11= .int .i64 (j:Int)∧Hid (Box wr g 24 cur.toArray)∧Hid (cur.length=cap2 * 4)∧Hid (RowHas cur.toArray (news++css.drop j))∧Hid (news.length=j)∧Hid (SubsIn wr (g+1) wr.heap.size (l.take j) news)∧Hid (Box wr w.heap.size 24 (nc k nu t (.slice (some ⟨g,0,none⟩) m cap2)))∧Hid (Box wr (w.heap.size+1) 24 #[.int .i64 0,.int .i64 0,.string ⟨#[]⟩,.slice none 0 0])∧Hid (Below w.heap.size w wr))
  case atStart=>exact⟨0,flatA css++R,[],Nat.zero_le _,by omega,rfl,HBX0,hid hcl4,HR0,hid rfl,by simp only[List.take_zero];unfold SubsIn;trivial,NA2,NB2,HU2⟩
  case round=>
   clear HBX0 HR0 NA2 NB2 HU2 q3
   obtain⟨j,cur,news,hj,hgg,rfl,HBX,HCU,HRH,HNL,HSU,NAj,NBj,HUj⟩:=hrel
   by_cases hlt:j<m
   ·have hltz:(j:Int)<(m:Int):=by omega
    have hltd:decide ((j:Int)<(m:Int))=true:=decide_eq_true hltz
    obtain⟨x,hx⟩:∃x,l[j]? =some x:=⟨_,List.getElem?_eq_getElem (by rw[hm];exact hlt)⟩
    obtain⟨cx,hcx,hnx,_⟩:=HK.out.get hx
    have hcx2:(news++css.drop j)[j]? =some cx:=by
     rw[List.getElem?_append_right (by rw[HNL.out];omega),HNL.out,List.getElem?_drop,Nat.sub_self,Nat.add_zero]
     exact hcx
    obtain⟨h4,hcells⟩:=HRH.out j cx hcx2
    obtain⟨p0,p1,p2,p3,rfl⟩:=four_cells h4
    have HRG:Hid (wr.rangeAt g (j * 4) [p0,p1,p2,p3]):=hid (fun i u hu=>by
     have hi:i<4:=(List.getElem?_eq_some_iff.1 hu).1
     rw[HBX.out.cell,hcells i hi, ←Array.getElem?_toList]
     exact hu)
    have HXM:=hid (List.mem_of_getElem? hx)
    have HXJ:=hid hx
    have HNX:=hid hnx
    have q3:=NAj.out.cell 3
    simp[nc] at q3
    have hcap:j * 4+4≤cap2 * 4:=by omega
    have hgr:=HBX.out.lt
    clear hx hcx hnx hcx2 h4 hcells
    go_upto_region 5 with fail
    clear q3
    refine wp_region_until 10 (fun w'=>Box w' w.heap.size 24 (nc k nu t (.slice (some ⟨g,0,none⟩) m cap2))∧w'.rangeAt g (j * 4) [p0,p1,p2,p3]) (by kernel_rfl) ⟨NAj.out.drew,HRG.out⟩ (fun hHeld=> ?_)
    obtain⟨wd,hwd⟩:∃wd,wr.drew=wd:=⟨_,rfl⟩
    have hdr:Fr wr wd (fun _=>False):=hwd ▸ Fr.drewN wr 1 _
    have hrgd:wd.rangeAt g (j * 4) [p0,p1,p2,p3]:=hwd ▸ HRG.out
    rw[hwd]
    replace NAj:=hid (hdr.box NAj.out (fun h=>h))
    replace NBj:=hid (hdr.box NBj.out (fun h=>h))
    replace HBX:=hid (hdr.box HBX.out (fun h=>h))
    replace HSU:=hid (HSU.out.fr hdr (fun _ _ _ h=>h))
    replace HUj:=hid (HUj.out.trans (hdr.out (fun _ _ h=>h) HUj.out.size))
    have HZD:Hid (wr.heap.size≤wd.heap.size):=hid hdr.size
    replace HRG:=hid hrgd
    clear hdr hrgd hHeld hwd
    refine tV (i:=0) (v:= ?_) rfl ?_ ⟨NAj.out,HRG.out⟩ ?_
    rotate_left
    ·intro w hSw
     go_simp
     try (with_reducible rfl)
    (try simp only[Act.put,sq])
    refine tV (i:=1) (v:= .slice (some ⟨g,0,none⟩) m cap2) rfl ?_ ⟨NAj.out,HRG.out⟩ ?_
    ·intro w hSw
     have cq:=hSw.1.cell 3
     simp[nc] at cq
     go_simp
    (try simp only[Act.put,sq])
    refine tV (i:=2) (v:= ?_) rfl ?_ ⟨NAj.out,HRG.out⟩ ?_
    rotate_left
    ·intro w hSw
     go_simp
     try (with_reducible rfl)
    (try simp only[Act.put,sq])
    refine tV (i:=3) (v:= ?_) rfl ?_ ⟨NAj.out,HRG.out⟩ ?_
    rotate_left
    ·intro w hSw
     go_simp
     try (with_reducible rfl)
    (try simp only[Act.put,sq])
    refine tV (i:=4) (v:= .slice (some ⟨g,0,none⟩) m cap2) rfl ?_ ⟨NAj.out,HRG.out⟩ ?_
    ·intro w hSw
     have cq:=hSw.1.cell 3
     simp[nc] at cq
     go_simp
    (try simp only[Act.put,sq])
    refine tV (i:=5) (v:= ?_) rfl ?_ ⟨NAj.out,HRG.out⟩ ?_
    rotate_left
    ·intro w hSw
     go_simp
     try (with_reducible rfl)
    (try simp only[Act.put,sq])
    refine tV (i:=6) (v:= .pointer (some ⟨g,j * 4,none⟩)) rfl ?_ ⟨NAj.out,HRG.out⟩ ?_
    ·intro w hSw
     go_simp
    (try simp only[Act.put,sq])
    refine wpAnyU_take (i:=7) (v:=_) rfl (by kernel_rfl) (by kernel_rfl) (by kernel_rfl) (by kernel_rfl) (by kernel_rfl) (fun _ _ _ h=>h) (yieldsIf_load_mid (by kernel_rfl) 24 (.tmp 20) rfl g (j * 4) rfl [p0,p1,p2,p3] _ (fun _ h=>h.2) Tryz.underlying24 rfl (HINL.out _ _ _ _)) ⟨NAj.out,HRG.out⟩ ?_
    (try simp only[Act.put,sq])
    refine rdU 8 rfl fun K hK=> ?_
    go_simp
    refine (IH.out x #[p0,p1,p2,p3] wd _ (HWG.out x HXM.out).2 (HWG.out x HXM.out).1 (HNX.out.keep (w1:=wd) (S1:=fun _=>True) (fun _ _ _=>trivial) HUj.out.size (fun i _ hi=>HUj.out.block i hi))).mono ?_
    rintro e w2 ⟨c',rfl,hni,hb2⟩
    replace NAj:=bl NAj hb2
    replace NBj:=bl NBj hb2
    have hsu2:=HSU.out.fr (Fr.below hb2 (fun _=>False)) (fun _ _ _ h=>h)
    have HSN:Hid (SubsIn w2 (g+1) w2.heap.size (l.take j++[x]) (news++[c'])):=hid (SubsIn.snoc (hni) (by have:=hb2.size;omega) hsu2 (by omega) HZD.out)
    have hgl:=HBX.out.lt
    replace HBX:=bl HBX hb2
    replace HUj:=hid (HUj.out.trans (hb2.mono HUj.out.size))
    have HRG2:Hid (w2.rangeAt g (j * 4) [p0,p1,p2,p3]):=hid (fun i u hu=>by rw[World.cell?_of_block (hb2.block g hgl)];exact HRG.out i u hu)
    have H4:Hid (c'.size=4):=hid (NodeIn.size hni)
    have H1:Hid (c'.all (·.oneCell')=true):=hid (NodeIn.one hni)
    have HB2:Hid (wd.heap.size≤w2.heap.size):=hid hb2.size
    clear hni hb2 hsu2 hgl HSU HRG
    go_wp2_with fail
    refine hK.out _ _ (.inr ⟨NAj.out,HRG2.out⟩) (fun hHeld=> ?_)
    clear hK hHeld K
    (try simp only[Act.put,sq])
    refine tV (i:=9) (v:= .pointer (some ⟨g,j * 4,none⟩)) rfl ?_ ⟨NAj.out,HRG2.out⟩ ?_
    ·intro w hSw
     go_simp
    (try simp only[Act.put,sq])
    refine rdU 10 rfl fun K hK=> ?_
    refine step_store_midbox rfl 24 (.tmp 23) (.tmp 22) rfl g (j * 4) c' (by simp[Act.eval,Act.put]) (by simp[Act.eval,Act.put]) cur 24 HBX.out (by rw[H4.out,HCU.out];omega) (by rw[H4.out];exact info_nod) H1.out ?_
    intro w3 hx3 hu3 hz3
    refine hK.out _ _ (.inl rfl) (fun hHeld=> ?_)
    clear hK hHeld K
    (try simp only[Act.put,sq])
    refine wpAnyU_done (by kernel_rfl) ?_ _
    have hu4:=Fr.upd hu3
    obtain⟨hs4,hc4⟩:=splice_same (L:=cur) (o:=j * 4) H4.out (by rw[HCU.out];omega)
    have hrow:=HRH.out.set (i:=j) hs4 hc4 H4.out
    have e1:(news++css.drop j).set j c'=(news++[c'])++css.drop (j+1):=by
     have hjl:j<css.length:=by rw[hcl];exact hlt
     rw[List.set_append_right _ _ (by rw[HNL.out];omega),HNL.out,Nat.sub_self,List.drop_eq_getElem_cons hjl,List.set_cons_zero]
     simp
    rw[e1] at hrow
    have e2:l.take (j+1)=l.take j++[x]:=by rw[List.take_add_one,HXJ.out];rfl
    have hsub:SubsIn w3 (g+1) w3.heap.size (l.take (j+1)) (news++[c']):=by
     rw[e2,hz3]
     exact HSN.out.fr hu4 fun i q1 q2 e=>by have e:i=g:=e;omega
    have hln:(splice cur (j * 4) c'.toList).length=cap2 * 4:=by
     rw[←HCU.out]
     have:=hs4.1
     simpa using this
    have HQ1:=hid hrow
    have HQ2:=hid hsub
    have HQ3:=hid hln
    have HQ4:=hid (hu4.box NAj.out (by omega))
    have HQ5:=hid (hu4.box NBj.out (by omega))
    have HQ6:=hid (HUj.out.trans (hu4.out (fun i hi e=>by have e:i=g:=e;omega) HUj.out.size))
    have HQ7:Hid ((news++[c']).length=j+1):=hid (by rw[List.length_append,HNL.out];rfl)
    clear hu4 hs4 hc4 hrow hsub hln e1 e2 hu3 hz3
    go_wp2_with fail
    go_roundg (m - (j+1))
    case measure=>omega
    case rel=>exact⟨j+1,_,_,by omega,by omega,by go_num,hx3,HQ3,HQ1,HQ7,HQ2,HQ4,HQ5,HQ6⟩
   ·have hltz:¬(j:Int)<(m:Int):=by omega
    have hltd:decide ((j:Int)<(m:Int))=false:=decide_eq_false hltz
    obtain rfl:j=m:=by omega
    have na:=NAj.out
    have nb:=NBj.out
    have hone:(nc k nu t (.slice (some ⟨g,0,none⟩) j cap2)).all (·.oneCell')=true:=by simp[nc,Value.oneCell']
    go_wp2_with (first | (refine wpList_load_row rfl 24 (.tmp 1) rfl w.heap.size rfl _ (nc k nu t (.slice (some ⟨g,0,none⟩) j cap2)) (0,0) _ na Tryz.underlying24 rfl info_nod ?_) | (refine wpList_store_box rfl 24 (.tmp 2) (.tmp 25) rfl (w.heap.size+1) (nc k nu t (.slice (some ⟨g,0,none⟩) j cap2)) rfl rfl 24 _ nb info_nod rfl hone ?_;intro wy hxz huz hzz;have HZZ:=hid hzz;clear hzz))
    refine bodyPost_ret (results_box rfl _ _ (w.heap.size+1) 24 _ _ rfl hxz Tryz.underlying24 rfl info_nod) rfl ?_
    refine⟨nc k nu t (.slice (some ⟨g,0,none⟩) j cap2),rfl,?_,HUj.out.trans (huz.own (by omega) HUj.out.size)⟩
    have hu4:=Fr.upd huz
    have hsu:=HSU.out
    rw[List.take_of_length_le (by omega)] at hsu
    have hrh:=HRH.out
    rw[List.drop_of_length_le (by omega),List.append_nil] at hrh
    have hrow:RowAt wy g (g+1) wy.heap.size cur.toArray l news:=⟨hu4.box HBX.out (by omega),hrh,by rw[HZZ.out];exact hsu.fr hu4 fun i q1 q2 e=>by have e:i=w.heap.size+1:=e;omega,by omega,by have:=(hu4.box HBX.out (by omega)).lt;omega⟩
    unfold NodeIn
    exact⟨_,rfl,hrow.kids (by omega) (by have:=(hu4.box HBX.out (by omega)).lt;omega) (by omega) hc63 hm⟩
theorem copy_any:∀N,CopyLe N
 | 0=>fun n cs w S hd hw hn=>by
  obtain⟨k,nu,t,l⟩:=n
  simp[Pars.deep] at hd
 | N+1=>copy_step (copy_any N)
end Go.Proofs.YtflmjbmdmoifhaaGreatDoor
namespace Go.Proofs.YtflmjbmdmoifhaaGreatDoor
open Go.Lib (hid)
open Go.RowKit
theorem NodesAt.weaks {w:World} {S S1:Nat→Prop} (hs:∀g,S g→S1 g):∀{l:List Pars.Node} {cs:List (Array Value)},NodesAt w S l cs→NodesAt w S1 l cs:=fun h=>NodesAt.keep (w1:=w) (fun g hg _=>hs g hg) (Nat.le_refl _) (fun _ _ _=>rfl) h
theorem flatA_nth:∀(css:List (Array Value)),(∀c∈css,c.size=4)→∀(j:Nat) (u:Value),(flatA css)[j]? =some u→∃c,css[j / 4]? =some c∧c.toList[j % 4]? =some u
 | [],_,j,u,h=>by simp[flatA] at h
 | c :: css,hs,j,u,h=>by
  have hc:c.toList.length=4:=by rw[Array.length_toList];exact hs c (by simp)
  have e:flatA (c :: css)=c.toList++flatA css:=by simp[flatA]
  rw[e] at h
  by_cases hj:j<4
  ·rw[List.getElem?_append_left (by omega)] at h
   refine⟨c,?_,?_⟩
   ·rw[show j / 4=0 by omega];rfl
   ·rw[show j % 4=j by omega];exact h
  ·rw[List.getElem?_append_right (by omega),hc] at h
   obtain⟨d,h1,h2⟩:=flatA_nth css (fun c hc=>hs c (by simp[hc])) (j - 4) u h
   refine⟨d,?_,?_⟩
   ·rw[show j / 4=(j - 4) / 4+1 by omega];exact h1
   ·rw[show j % 4=(j - 4) % 4 by omega];exact h2
mutual
theorem KidsIn.at {w:World}:∀{l:List Pars.Node} {lo hi:Nat} {v:Value},KidsIn w lo hi l v→∃A cap css,v= .slice A l.length cap∧l.length≤cap∧cap≤9223372036854775807∧(0<l.length→∃g o,A=some ⟨g,o,none⟩∧lo≤g∧g<w.heap.size∧w.rangeAt g o (flatA css))∧NodesAt w (fun g=>lo≤g) l css
 | [],lo,hi,v,h=>by
  unfold KidsIn at h
  obtain⟨A,c,rfl,hc⟩:=h
  exact⟨A,c,[],rfl,Nat.zero_le _,hc,fun h=>absurd h (by simp),by unfold NodesAt;trivial⟩
 | n :: l,lo,hi,v,h=>by
  unfold KidsIn at h
  obtain⟨b,cap,C,css,e,q1,q2,q3,q4,q5,q6,q7⟩:=h
  have hs:NodesAt w (fun g=>b+1≤g) (n :: l) css:=by
   cases css with
   | nil=>unfold SubsIn at q7;exact q7.elim
   | cons c cs=>
    unfold SubsIn at q7
    obtain⟨mid,m1,m2,m3,m4⟩:=q7
    unfold NodesAt
    exact⟨NodeIn.at_ m3,(SubsIn.at_ m4).weaks (fun g hg=>by omega)⟩
  refine⟨_,cap,css,e,q1,q2,fun _=>⟨b,0,rfl,q3,q5.lt,fun j u hu=> ?_⟩,hs.weaks (fun g hg=>by omega)⟩
  obtain⟨c,hc,hcu⟩:=flatA_nth css (hs.sizes) j u hu
  rw[Nat.zero_add,q5.cell]
  have hq:=(q6 (j / 4) c hc).2 (j % 4) (Nat.mod_lt _ (by omega))
  rw[show j / 4 * 4+j % 4=j by omega] at hq
  rw[hq, ←Array.getElem?_toList]
  exact hcu
theorem SubsIn.at_ {w:World}:∀{l:List Pars.Node} {lo hi:Nat} {cs:List (Array Value)},SubsIn w lo hi l cs→NodesAt w (fun g=>lo≤g) l cs
 | [],lo,hi,[],_=>by unfold NodesAt;trivial
 | n :: l,lo,hi,c :: cs,h=>by
  unfold SubsIn at h
  obtain⟨mid,h1,h2,h3,h4⟩:=h
  unfold NodesAt
  exact⟨NodeIn.at_ h3,(SubsIn.at_ h4).weaks (fun g hg=>by omega)⟩
 | [],lo,hi,_ :: _,h=>by unfold SubsIn at h;exact h.elim
 | _ :: _,lo,hi,[],h=>by unfold SubsIn at h;exact h.elim
theorem NodeIn.at_ {w:World}:∀{n:Pars.Node} {lo hi:Nat} {c:Array Value},NodeIn w lo hi n c→NodeAt w (fun g=>lo≤g) n c
 | .mk k nu t l,lo,hi,c,h=>by
  unfold NodeIn at h
  obtain⟨v,rfl,hk⟩:=h
  obtain⟨A,cap,css,rfl,h1,h2,h3,h4⟩:=KidsIn.at hk
  unfold NodeAt
  exact⟨A,cap,css,rfl,h1,h2,h3,h4⟩
end
theorem NodeIn.open_ {w:World} {lo hi:Nat}:∀{n:Pars.Node} {c:Array Value},NodeIn w lo hi n c→∃v,c=nc n.kind n.num n.text v∧KidsIn w lo hi n.kids v
 | .mk k nu t l,c,h=>by unfold NodeIn at h;exact h
def LookedOut (w:World) (kv:Value) (known:List (List UInt8)) (dk:Int) (nm:List UInt8) (n:Pars.Node) (e:Ending) (w':World):Prop:=
 ∃l c dv uv,e= .returned (.tuple #[.agg c,at_ l 0])∧w.heap.size≤l∧Box w' l 53 (lkc kv dv uv (Scopy.look known dk nm n).1.e dk nm)∧
  w'.ownsRow (l+1) 36 4 dv (Scopy.look known dk nm n).1.decls.length (flat dc (Scopy.look known dk nm n).1.decls)∧w'.ownsRow (l+1) 39 2 uv (Scopy.look known dk nm n).1.uses.length (flat uc (Scopy.look known dk nm n).1.uses)∧Apart dv uv∧
  NodeAt w' (fun g=>w.heap.size≤g) (Scopy.look known dk nm n).2 c∧Below w.heap.size w w'
set_option maxRecDepth 100000 in
set_option maxHeartbeats 8000000 in
theorem looked_any {w:World} {n:Pars.Node} {cs:Array Value} {S:Nat→Prop} {kv:Value} {known:List (List UInt8)} {dk:Int} {nm:List UInt8} (he:EnvW w) (hn:NodeAt w S n cs) (hsz:Pars.size n≤1048576) (hw:Wri.wg n≤70368744177000) (hk:KnAt w w.heap.size known kv) (hnm:0≤dk→Wri.name nm=true):
  Calls Tryz.prog 17 #[.agg cs,kv,.int .i64 dk,.string (byt nm)] w (LookedOut w kv known dk nm n):=by
 replace hn:=NodeAt.keep (S1:=fun g=>g<w.heap.size) (w1:=w) (fun g _ h=>h) (Nat.le_refl _) (fun _ _ _=>rfl) hn
 have HE:=hid he
 have HN:=hid hn
 have HK:=hid hk
 have HNM:=hid hnm
 have h4:=NodeAt.size hn
 have HONE:=hid (NodeAt.one hn)
 have hinf:(Tryz.prog.info? 24).map (·.size)=some cs.size:=by rw[h4];exact info_nod
 have HINF:=hid hinf
 have H4:Hid ((4:Nat)=cs.size):=hid h4.symm
 obtain⟨A,cap,hkv,hkl,hkc,hkr⟩:=hk
 have HKV:=hid hkv
 subst hkv
 clear he hn hnm h4 hinf hkr
 go_enter Tryz.func17,Tryz.ntmps17
 go_upto_region 2 with fail
 refine gen_world (F:=fun W=>Box W w.heap.size 24 cs∧Box W (w.heap.size+1) 24 #[.int .i64 0,.int .i64 0,.string ⟨#[]⟩,.slice none 0 0]∧Box W (w.heap.size+2) 53 (lkc (.slice A known.length cap) (.slice none 0 0) (.slice none 0 0) 0 dk nm)∧Below w.heap.size w W∧W.heap.size=w.heap.size+3) ⟨((Box.new w _ _).alloc _).alloc _,(by have:=Box.new (w.alloc (.cells cs 24 (0,0))) 24 #[.int .i64 0,.int .i64 0,.string ⟨#[]⟩,.slice none 0 0];simpa using this.alloc _),(by have:=Box.new ((w.alloc (.cells cs 24 (0,0))).alloc (.cells #[.int .i64 0,.int .i64 0,.string ⟨#[]⟩,.slice none 0 0] 24 (0,0))) 53 (lkc (.slice A known.length cap) (.slice none 0 0) (.slice none 0 0) 0 dk nm);simpa [lkc] using this),((below1 w _).alloc (by simp) _).alloc (by simp;omega) _,by simp⟩ ?_
 rintro W0 ⟨b0,b1,b2,hU,hz0⟩
 have NA:=hid b0
 have NB:=hid b1
 have NL:=hid b2
 have HU:=hid hU
 have HZ0:=hid hz0
 have na:=b0
 clear b0 b1 b2 hU hz0
 go_wp2_with (refine wpList_load_row rfl 24 (.tmp 4) rfl w.heap.size rfl _ cs (0,0) _ na Tryz.underlying24 rfl HINF.out ?_)
 refine (check_is (by omega) (HN.out.keep (w1:=W0) (S1:=fun _=>True) (fun _ _ _=>trivial) HU.out.size (fun g _ hg=>HU.out.block g hg)) (HE.out.below HU.out HE.out.big)).mono ?_
 rintro e w1 ⟨rfl,hb1⟩
 obtain⟨ck,hck⟩:∃c,Wri.check n=c:=⟨_,rfl⟩
 have HCK:=hid hck
 rw[hck]
 have NA1:=bl NA hb1
 have NB1:=bl NB hb1
 have NL1:=bl NL hb1
 have HU1:=hid (HU.out.trans (hb1.mono HU.out.size))
 have HB1:=hid hb1
 have lf:=NL1.out.frozen 3
 have lc:=NL1.out.cell 3
 simp[lkc] at lc
 have nilD:∀(W:World) (e:TypeId) (k:Nat),W.ownsRow (w.heap.size+2+1) e k (.slice none 0 0) 0 []:=fun W e k=>World.ownsRow_nil W _ _ _
 clear hck hb1 na NA NB NL
 by_cases hc0:ck=0
 ·subst hc0
  have d0:(((0:Nat):Int) != 0)=false:=rfl
  have d1:((0:Int) != 0)=false:=rfl
  obtain⟨kl,hkl0⟩:∃m,known.length=m:=⟨_,rfl⟩
  have HKL:=hid hkl0
  by_cases h100:100<kl
  ·have hz100:(100:Int)<(kl:Int):=by omega
   have hd100:decide ((100:Int)<(kl:Int))=true:=decide_eq_true hz100
   have HLK:Hid (Scopy.look known dk nm n=(Scopy.bad 2,Scopy.zero)):=hid (by unfold Scopy.look;rw[HCK.out,if_neg (by decide),if_pos (by omega)])
   rw[hkl0] at NL1 hkl ⊢
   clear h100 hkl0 HK HKV
   go_upto_region 7 with fail
   have fs:=Fr.set w1 ⟨w.heap.size+2,3,none⟩ (.int .i64 0)
   have nl2:Box (w1.setCell ⟨w.heap.size+2,3,none⟩ (.int .i64 0)) (w.heap.size+2) 53 (lkc (.slice A kl cap) (.slice none 0 0) (.slice none 0 0) 0 dk nm):=by have:=NL1.out.set 3 (.int .i64 0);simpa [lkc] using this
   have fs2:=Fr.set (w1.setCell ⟨w.heap.size+2,3,none⟩ (.int .i64 0)) ⟨w.heap.size+2,3,none⟩ (.int .i64 2)
   have nl3:Box ((w1.setCell ⟨w.heap.size+2,3,none⟩ (.int .i64 0)).setCell ⟨w.heap.size+2,3,none⟩ (.int .i64 2)) (w.heap.size+2) 53 (lkc (.slice A kl cap) (.slice none 0 0) (.slice none 0 0) 2 dk nm):=by have:=nl2.set 3 (.int .i64 2);simpa [lkc] using this
   have fs3:Fr w1 ((w1.setCell ⟨w.heap.size+2,3,none⟩ (.int .i64 0)).setCell ⟨w.heap.size+2,3,none⟩ (.int .i64 2)) (fun i=>i=w.heap.size+2):=fs.trans fs2
   have NL2:=hid nl3
   have NB2:=hid (fs3.box NB1.out (by omega))
   have HU2:=hid (HU1.out.trans (fs3.out (fun i hi e=>by omega) HU1.out.size))
   obtain⟨W2,hW2⟩:∃W,(w1.setCell ⟨w.heap.size+2,3,none⟩ (.int .i64 0)).setCell ⟨w.heap.size+2,3,none⟩ (.int .i64 2)=W:=⟨_,rfl⟩
   rw[hW2] at NL2 NB2 HU2 ⊢
   clear hW2 fs fs2 fs3 nl2 nl3 lf lc NL1 NB1 NA1
   have nb:=NB2.out
   go_wp2_with (refine wpList_store_box rfl 24 (.tmp 8) (.tmp 34) rfl (w.heap.size+1) #[.int .i64 0,.int .i64 0,.string ⟨#[]⟩,.slice none 0 0] rfl rfl 24 _ nb info_nod rfl (by simp[Value.oneCell']) ?_;intro wy hxz huz hzz;have HZZ:=hid hzz;clear hzz)
   refine bodyPost_ret (results_box_tmp rfl _ _ (w.heap.size+1) 24 _ _ rfl hxz Tryz.underlying24 rfl info_nod) rfl ?_
   have hbb:=huz.own (B:=w.heap.size) (by omega) HU2.out.size
   have nl3:=Box.grown NL2.out huz (by intro h;injection h with h;omega)
   rw[←HKL.out] at nl3
   unfold LookedOut
   rw[HLK.out]
   exact⟨w.heap.size+2,_,.slice none 0 0,.slice none 0 0,rfl,by omega,nl3,nilD _ _ _,nilD _ _ _,Apart.nil _ _ _,NodeAt.leaf _ _ 0 0 [],HU2.out.trans hbb⟩
  ·have hz100:¬(100:Int)<(kl:Int):=by omega
   have hd100:decide ((100:Int)<(kl:Int))=false:=decide_eq_false hz100
   have HLK:Hid (Scopy.look known dk nm n=Scopy.run known dk nm n):=hid (by unfold Scopy.look;rw[HCK.out,if_neg (by decide),if_neg (by omega)])
   have hck:=Scopy.check_ok HCK.out
   have HR:=hid hck
   rw[hkl0] at NL1 hkl HK ⊢
   clear h100 hkl0 HKV hck
   go_upto_region 8 with fail
   have fs:=Fr.set w1 ⟨w.heap.size+2,3,none⟩ (.int .i64 0)
   have nl2:Box (w1.setCell ⟨w.heap.size+2,3,none⟩ (.int .i64 0)) (w.heap.size+2) 53 (lkc (.slice A kl cap) (.slice none 0 0) (.slice none 0 0) 0 dk nm):=by have:=NL1.out.set 3 (.int .i64 0);simpa [lkc] using this
   have NL2:=hid nl2
   have NA2:=hid (fs.box NA1.out (by show ¬w.heap.size=w.heap.size+2;omega))
   have NB2:=hid (fs.box NB1.out (by show ¬w.heap.size+1=w.heap.size+2;omega))
   have HU2:=hid (HU1.out.trans (fs.out (fun i hi e=>by have e:i=w.heap.size+2:=e;omega) HU1.out.size))
   obtain⟨W2,hW2⟩:∃W,w1.setCell ⟨w.heap.size+2,3,none⟩ (.int .i64 0)=W:=⟨_,rfl⟩
   rw[hW2] at NL2 NA2 NB2 HU2 ⊢
   clear hW2 fs nl2 lf lc NL1 NB1 NA1
   have na:=NA2.out
   go_wp2_with (refine wpList_load_row rfl 24 (.tmp 4) rfl w.heap.size rfl _ cs (0,0) _ na Tryz.underlying24 rfl HINF.out ?_)
   refine (copy_any (Pars.deep n) n cs W2 _ (Nat.le_refl _) hsz (HN.out.keep (w1:=W2) (S1:=fun _=>True) (fun _ _ _=>trivial) HU2.out.size (fun g _ hg=>HU2.out.block g hg))).mono ?_
   rintro e w3 ⟨c,rfl,hni,hb3⟩
   have NA3:=bl NA2 hb3
   have NB3:=bl NB2 hb3
   have NL3:=bl NL2 hb3
   have HU3:=hid (HU2.out.trans (hb3.mono HU2.out.size))
   have HNI:=hid hni
   have HLO:Hid (w.heap.size+2<W2.heap.size∧W2.heap.size≤w3.heap.size):=hid ⟨NL2.out.lt,hb3.size⟩
   have HC4:Hid ((4:Nat)=c.size):=hid (NodeIn.size hni).symm
   have HC1:=hid (NodeIn.one hni)
   have HIC:Hid ((Tryz.prog.info? 24).map (·.size)=some c.size):=hid (by rw[←HC4.out];exact info_nod)
   have na3:=NA3.out
   have hmm:=@run_makeMap Tryz.prog
   clear na hni hb3
   go_upto_region 9 with (refine wpList_store_box rfl 24 (.tmp 4) (.tmp 37) rfl w.heap.size c rfl rfl 24 _ na3 HIC.out (by rw[←HC4.out,H4.out]) HC1.out ?_;intro w4 hx4 hu4 hz4;have HX4:=hid hx4;have HU4:=hid hu4;have HZ4:=hid hz4;clear hx4 hu4 hz4)
   obtain⟨v,hcv,hkv3⟩:=NodeIn.open_ HNI.out
   have fu4:=Fr.upd HU4.out
   have f34:Fr w3 w4 (fun i=>i=w.heap.size):=fu4
   have hlo:=HLO.out
   have NB4:=hid (f34.box NB3.out (by omega))
   have NL4:=hid (f34.box NL3.out (by omega))
   have HU4w:=hid (HU3.out.trans (f34.out (fun i hi e=>by omega) HU3.out.size))
   have hz4:=HZ4.out
   have hk4:KidsIn w4 W2.heap.size w3.heap.size n.kids v:=hkv3.fr f34 fun i q1 q2 e=>by omega
   have HCALL:Hid (Calls Tryz.prog 27 #[at_ (w.heap.size+2) 0,at_ (w4.heap.size+1) 0,at_ w.heap.size 0] ((w4.alloc (.map #[] 0)).alloc (.cells (rmc w4.heap.size 0 (.pointer none)) 72)) (LookOut ((w4.alloc (.map #[] 0)).alloc (.cells (rmc w4.heap.size 0 (.pointer none)) 72)) (w.heap.size+2) (w.heap.size+2+1) (.slice A kl cap) dk nm (fun i=>i=w.heap.size+2) w.heap.size 0 W2.heap.size w3.heap.size c v n (Scopy.run known dk nm n))):=hid (by
    have hb5:Below w4.heap.size w4 ((w4.alloc (.map #[] 0)).alloc (.cells (rmc w4.heap.size 0 (.pointer none)) 72)):=(below1 w4 _).alloc (by simp) _
    have f5:=Fr.below hb5 (fun _=>False)
    have hz5:((w4.alloc (.map #[] 0)).alloc (.cells (rmc w4.heap.size 0 (.pointer none)) 72)).heap.size=w4.heap.size+2:=by simp
    have bx5:Box ((w4.alloc (.map #[] 0)).alloc (.cells (rmc w4.heap.size 0 (.pointer none)) 72)) (w4.heap.size+1) 72 (rmc w4.heap.size 0 (.pointer none)):=by
     have:=Box.new (w4.alloc (.map #[] 0)) 72 (rmc w4.heap.size 0 (.pointer none))
     simpa using this
    have mp5:MapF natRdr ((w4.alloc (.map #[] 0)).alloc (.cells (rmc w4.heap.size 0 (.pointer none)) 72)) w4.heap.size 0 Scopy.empty:=(MapF.made natRdr w4).below (below1 _ _)
    refine look_any HNM.out (Pars.deep n) _ (fun i=>i=w.heap.size+2) (fun i=>i=w4.heap.size∨i=w4.heap.size+1) Scopy.start (w4.heap.size+1) w4.heap.size (.pointer none) (.slice none 0 0) (.slice none 0 0) w.heap.size 0 W2.heap.size w3.heap.size c n v false false (kb:=w.heap.size) (known:=known)
     ⟨⟨f5.box NL4.out (fun h=>h),nilD _ _ _,nilD _ _ _,Apart.nil _ _ _,by omega,rfl,fun g e=>by simp[Value.ownBlock] at e,fun g e=>by simp[Value.ownBlock] at e,fun g e=>by omega⟩,bx5,⟨0,Nat.zero_le _,mp5⟩,rfl,⟨.inr rfl,.inl rfl,by omega⟩,fun i hi=>⟨by omega,by omega⟩,HK.out.fr (Fr.below (HU4w.out.trans (hb5.mono HU4w.out.size)) (fun _=>False)) (fun _ _ h=>h),fun i e=>by omega,fun i e=>by omega,Scopy.start_tells known,by omega,by omega,by simp[Scopy.start]⟩
     ⟨f5.box HX4.out (fun h=>h),by rw[hcv];intro j _;rw[Nat.zero_add],hk4.fr f5 (fun _ _ _ h=>h),by omega,by omega,by omega,fun i q1 q2=>⟨by omega,by omega⟩,by omega,Nat.le_refl _,by omega⟩ HR.out.2.1 (Nat.le_refl _) (by show 0+_≤_;have:=HR.out.2.2;omega) (Scopy.run_few hsz))
   clear hz4 hcv hkv3 fu4 f34 hk4 hlo NA3 NB3 NL3 HU3 HX4 na3 nilD
   go_wp2_with fail
   refine HCALL.out.mono ?_
   rintro e w6 ⟨rfl,dv6,uv6,C6,q1,q2,q3,q4,q5,q6⟩
   have hb5:Below w.heap.size w ((w4.alloc (.map #[] 0)).alloc (.cells (rmc w4.heap.size 0 (.pointer none)) 72)):=HU4w.out.trans (((below1 w4 _).alloc (by simp) _).mono HU4w.out.size)
   have hlo:=HLO.out
   have hz4:=HZ4.out
   have NB6:=hid (q6.box ((NB4.out.alloc _).alloc _) (by rintro (e | e | e)<;>omega))
   have HU6:=hid (hb5.trans (q6.out (fun i hi e=>by rcases e with e | e | e<;>omega) hb5.size))
   have h46:C6.size=4:=by rw[q3.1,HC4.out]
   have hc6:C6=nc n.kind n.num (Scopy.run known dk nm n).2.text v:=by
    apply Array.ext_getElem?
    intro i
    by_cases hi:i<4
    ·have:=q4 i hi
     rwa [Nat.zero_add] at this
    ·rw[Array.getElem?_eq_none (by omega),Array.getElem?_eq_none (by show 4≤i;omega)]
   have HN6:Hid (NodeIn w6 W2.heap.size w3.heap.size (Scopy.run known dk nm n).2 C6):=hid (by
    have e1:(Scopy.run known dk nm n).2.kind=n.kind:=Scopy.tr_kind _ _ _ _
    have e2:(Scopy.run known dk nm n).2.num=n.num:=Scopy.tr_num _ _ _ _
    rw[hc6, ←e1, ←e2]
    have hk:=q5
    generalize (Scopy.run known dk nm n).2=r at hk ⊢
    obtain⟨k,nu,t,l⟩:=r
    unfold NodeIn
    exact⟨v,rfl,hk⟩)
   have HL6:=hid q1
   have na:=q2
   have nb:=NB6.out
   have hi6:(Tryz.prog.info? 24).map (·.size)=some C6.size:=by rw[h46];exact info_nod
   have ho6:=NodeIn.one HN6.out
   clear hz4 hlo hb5 q1 q2 q3 q4 q5 q6 hc6
   go_wp2_with (first | (refine wpList_load_row rfl 24 (.tmp 4) rfl w.heap.size rfl _ C6 (0,0) _ na Tryz.underlying24 rfl hi6 ?_) | (refine wpList_store_box rfl 24 (.tmp 8) (.tmp 43) rfl (w.heap.size+1) C6 rfl rfl 24 _ nb hi6 h46.symm ho6 ?_;intro wy hxz huz hzz2;have HZZ:=hid hzz2;clear hzz2))
   refine bodyPost_ret (results_box_tmp rfl _ _ (w.heap.size+1) 24 _ _ rfl hxz Tryz.underlying24 rfl hi6) rfl ?_
   have fz:=Fr.upd huz
   have hz4:=HZ4.out
   have hlo:=HLO.out
   have hW5:((w4.alloc (.map #[] 0)).alloc (.cells (rmc w4.heap.size 0 (.pointer none)) 72)).heap.size=w4.heap.size+2:=by simp
   have hl:=HL6.out.fr fz (fun g hg e=>by
    rcases hg.2 with e2 | e2
    ·omega
    ·omega)
   have hn6:=(HN6.out.fr fz (fun g q1 q2 e=>by omega)).at_
   unfold LookedOut
   rw[HLK.out]
   exact⟨w.heap.size+2,C6,dv6,uv6,rfl,by omega,by have:=hl.box;rw[←HKL.out] at this;exact this,hl.decls,hl.uses,hl.ap,hn6.weak (fun g hg=>by omega),HU6.out.trans (huz.own (by omega) HU6.out.size)⟩
 ·have d0:((ck:Int) != 0)=true:=by simp;omega
  have HLK:Hid (Scopy.look known dk nm n=(Scopy.bad ck,Scopy.zero)):=hid (by unfold Scopy.look;rw[HCK.out,if_pos hc0])
  have HC0:=hid hc0
  clear hc0
  go_upto_region 4 with fail
  have fs:=Fr.set w1 ⟨w.heap.size+2,3,none⟩ (.int .i64 (ck:Int))
  have nl2:Box (w1.setCell ⟨w.heap.size+2,3,none⟩ (.int .i64 (ck:Int))) (w.heap.size+2) 53 (lkc (.slice A known.length cap) (.slice none 0 0) (.slice none 0 0) ck dk nm):=by have:=NL1.out.set 3 (.int .i64 (ck:Int));simpa [lkc] using this
  have NL2:=hid nl2
  have NB2:=hid (fs.box NB1.out (by show ¬w.heap.size+1=w.heap.size+2;omega))
  have HU2:=hid (HU1.out.trans (fs.out (fun i hi e=>by have e:i=w.heap.size+2:=e;omega) HU1.out.size))
  obtain⟨W2,hW2⟩:∃W,w1.setCell ⟨w.heap.size+2,3,none⟩ (.int .i64 (ck:Int))=W:=⟨_,rfl⟩
  rw[hW2] at NL2 NB2 HU2 ⊢
  clear hW2 fs nl2 lf lc NL1 NB1 NA1
  have nb:=NB2.out
  go_wp2_with (refine wpList_store_box rfl 24 (.tmp 8) (.tmp 26) rfl (w.heap.size+1) #[.int .i64 0,.int .i64 0,.string ⟨#[]⟩,.slice none 0 0] rfl rfl 24 _ nb info_nod rfl (by simp[Value.oneCell']) ?_;intro wy hxz huz hzz;have HZZ:=hid hzz;clear hzz)
  refine bodyPost_ret (results_box_tmp rfl _ _ (w.heap.size+1) 24 _ _ rfl hxz Tryz.underlying24 rfl info_nod) rfl ?_
  have hbb:=huz.own (B:=w.heap.size) (by omega) HU2.out.size
  have nl3:=Box.grown NL2.out huz (by intro h;injection h with h;omega)
  unfold LookedOut
  rw[HLK.out]
  exact⟨w.heap.size+2,_,.slice none 0 0,.slice none 0 0,rfl,by omega,nl3,nilD _ _ _,nilD _ _ _,Apart.nil _ _ _,NodeAt.leaf _ _ 0 0 [],HU2.out.trans hbb⟩
end Go.Proofs.YtflmjbmdmoifhaaGreatDoor
namespace Go.Proofs.YtflmjbmdmoifhaaGreatDoor
open Go.Lib (hid)
open Go.RowKit
def NQ (n:Pars.Node) (known:List (List UInt8)) (ds:List Scopy.Decl) (us:List (List UInt8×Int)) (k:Int):Prop:=
 ((Scopy.names n known).e=0∧k=0∧ds=(Scopy.names n known).decls∧us=(Scopy.names n known).uses)∨((Scopy.names n known).e≠0∧k=((Scopy.names n known).e:Int)∧ds=[]∧us=[])
def NamesOut (w:World) (n:Pars.Node) (known:List (List UInt8)) (e:Ending) (w':World):Prop:=
 ∃dv uv ds us k,e= .returned (.tuple #[dv,uv,.int .i64 k])∧w'.ownsRow w.heap.size 36 4 dv ds.length (flat dc ds)∧w'.ownsRow w.heap.size 39 2 uv us.length (flat uc us)∧NQ n known ds us k∧Below w.heap.size w w'
theorem names_look (n:Pars.Node) (known:List (List UInt8)):(Scopy.look known (-1) [] n).1=Scopy.names n known:=rfl
theorem look_lens {n:Pars.Node} {known:List (List UInt8)} {dk:Int} {nm:List UInt8} (hw:Pars.size n≤1048576):(Scopy.look known dk nm n).1.decls.length≤4000000∧(Scopy.look known dk nm n).1.uses.length≤4000000:=by
 unfold Scopy.look
 split
 ·exact⟨Nat.zero_le _,Nat.zero_le _⟩
 ·split
  ·exact⟨Nat.zero_le _,Nat.zero_le _⟩
  ·exact Scopy.run_few hw
set_option maxRecDepth 100000 in
set_option maxHeartbeats 8000000 in
theorem names_any {w:World} {n:Pars.Node} {cs:Array Value} {S:Nat→Prop} {kv:Value} {known:List (List UInt8)} (he:EnvW w) (hn:NodeAt w S n cs) (hsz:Pars.size n≤1048576) (hw:Wri.wg n≤70368744177000) (hk:KnAt w w.heap.size known kv):
  Calls Tryz.prog 7 #[.agg cs,kv] w (NamesOut w n known):=by
 replace hn:=NodeAt.keep (S1:=fun g=>g<w.heap.size) (w1:=w) (fun g _ h=>h) (Nat.le_refl _) (fun _ _ _=>rfl) hn
 have HE:=hid he
 have HN:=hid hn
 have HK:=hid hk
 have h4:=NodeAt.size hn
 have HINF:Hid ((Tryz.prog.info? 24).map (·.size)=some cs.size):=hid (by rw[h4];exact info_nod)
 clear he hn hk h4
 go_enter Tryz.func7,Tryz.ntmps7
 go_upto_region 1 with fail
 refine gen_world (F:=fun W=>Box W w.heap.size 24 cs∧Below w.heap.size w W) ⟨Box.new w _ _,below1 w _⟩ ?_
 rintro W0 ⟨b0,hU⟩
 have HU:=hid hU
 have na:=b0
 have HCALL:=hid (looked_any (w:=W0) (dk:= -1) (nm:=[]) (HE.out.below HU.out HE.out.big) (HN.out.keep (w1:=W0) (S1:=fun _=>True) (fun _ _ _=>trivial) HU.out.size (fun g _ hg=>HU.out.block g hg)) hsz hw (show KnAt W0 W0.heap.size known kv from by
  obtain⟨A,cap,e,q1,q2,q3⟩:=HK.out.fr (Fr.below HU.out (fun _=>False)) (fun _ _ h=>h)
  exact⟨A,cap,e,q1,q2,fun hp=>by obtain⟨g,o,e1,q4,q5,q6⟩:=q3 hp;exact⟨g,o,e1,q5,q5,q6⟩⟩) (fun h=>absurd h (by decide)))
 clear b0 hU
 go_wp2_with (refine wpList_load_row rfl 24 (.tmp 2) rfl w.heap.size rfl _ cs (0,0) _ na Tryz.underlying24 rfl HINF.out ?_)
 refine HCALL.out.mono ?_
 rintro e w1 ⟨l,c,dv,uv,rfl,hl,hb,hd,hu,hap,hn1,hb1⟩
 rw[names_look] at hb hd hu
 have HL:=hid hb
 have HD:=hid hd
 have HUS:=hid hu
 have HN1:=hid hn1
 have HU1:=hid (HU.out.trans (hb1.mono HU.out.size))
 have hc4:=NodeAt.size hn1
 have hc1:=NodeAt.one hn1
 have hic:(Tryz.prog.info? 24).map (·.size)=some c.size:=by rw[hc4];exact info_nod
 have hll:w.heap.size≤l:=Nat.le_trans HU.out.size hl
 clear na hb hd hu hn1 hb1 HCALL hl
 go_upto_region 2 with (refine wpList_store_box rfl 24 (.tmp 7) (.tmp 13) rfl w1.heap.size c rfl rfl 24 _ (Box.new w1 _ _) hic hc4.symm hc1 ?_;intro w2 hx2 hu2 hz2;have HX2:=hid hx2;have HU2:=hid hu2;have HZ2:=hid hz2;clear hx2 hu2 hz2)
 have hb:Below w1.heap.size w1 w2:=(below1 w1 _).trans (HU2.out.own (Nat.le_refl _) (by simp))
 have HL2:=bl HL hb
 have HD2:=hid (own_below HD.out hb)
 have HS2:=hid (own_below HUS.out hb)
 have HB2:=hid (HU1.out.trans (hb.mono HU1.out.size))
 have l1:=HL2.out.cell 1
 have l2:=HL2.out.cell 2
 have l3:=HL2.out.cell 3
 simp[lkc] at l1 l2 l3
 obtain⟨ec,hec⟩:∃x,(Scopy.names n known).e=x:=⟨_,rfl⟩
 have HEC:=hid hec
 rw[hec] at l3
 clear hb hec hc4 hc1 hic HN1 HL HD HUS
 by_cases h0:ec=0
 ·subst h0
  have d0:(((0:Nat):Int) != 0)=false:=rfl
  have d1:((0:Int) != 0)=false:=rfl
  go_upto_region 4 with fail
  go_quiet (fail)
  go_wp2_with fail
  go_returns
  exact⟨dv,uv,_,_,0,rfl,own_base HD2.out (by omega),own_base HS2.out (by omega),.inl ⟨HEC.out,rfl,rfl,rfl⟩,below_drewN HB2.out nq⟩
 ·have d0:((ec:Int) != 0)=true:=by simp;omega
  have H0:=hid h0
  clear h0
  go_upto_region 3 with fail
  go_quiet (fail)
  go_wp2_with fail
  go_returns
  exact⟨_,_,[],[],(ec:Int),rfl,World.ownsRow_nil _ _ _ _,World.ownsRow_nil _ _ _ _,.inr ⟨by rw[HEC.out];exact H0.out,by rw[HEC.out],rfl,rfl⟩,below_drewN HB2.out nq⟩
end Go.Proofs.YtflmjbmdmoifhaaGreatDoor
namespace Go.Proofs.YtflmjbmdmoifhaaGreatDoor
open Go.Lib (hid)
open Go.RowKit
set_option maxRecDepth 100000 in
theorem neq_of_eql {t:TypeId} {x y:Array Value} {b:Bool} {w:World} (h:(binOp .eql t (.agg x) (.agg y)).run Tryz.prog w= .ok (.bool b) w):(binOp .neq t (.agg x) (.agg y)).run Tryz.prog w= .ok (.bool (!b)) w:=by
 rw[run_eql_struct] at h
 rw[run_neq_struct]
 cases hr:(Op.equalIn 10000 t (.agg x) (.agg y)).run Tryz.prog w with
 | ok x w1=>
  rw[hr] at h
  simp only[Result.andThen_ok] at h ⊢
  injection h with h1 h2
  injection h1 with h1
  rw[h1,h2]
 | halt x w1=>rw[hr] at h;simp[Result.andThen] at h
theorem jd_ext (a b:Scopy.Decl):decide (a=b)=(decide (a.kind=b.kind)&&(decide ((byt a.name).toList=(byt b.name).toList)&&(decide ((a.deep:Int)=(b.deep:Int))&&decide (a.caught=b.caught)))):=by
 obtain⟨u,s,d,c⟩:=a
 obtain⟨u',s',d',c'⟩:=b
 simp only[byt_list]
 rw[Bool.eq_iff_iff]
 simp
 intros
 omega
set_option maxHeartbeats 1000000 in
theorem eql_jd (a b:Scopy.Decl) (w:World):(binOp .eql 36 (.agg (dc a)) (.agg (dc b))).run Tryz.prog w= .ok (.bool (decide (a=b))) w:=by
 have u3:=Tryz.underlying3
 have a3:=Tryz.isAgg3
 have z3:=Tryz.sizeOf3
 have u9:=Tryz.underlying9
 have a9:=Tryz.isAgg9
 have z9:=Tryz.sizeOf9
 have u4:=Tryz.underlying4
 have a4:=Tryz.isAgg4
 have z4:=Tryz.sizeOf4
 have hS:Tryz.prog.underlying 36=some (.struct (Tryz.prog.fieldsOf 36)):=by kernel_rfl
 have hp:Tryz.prog.stoodInHeld 36=false:=by kernel_rfl
 rw[jd_ext]
 unfold dc
 rw[run_eql_struct,show (10000:Nat)=9999+1 from rfl,run_equalIn_agg w 9999 36 _ _ hS hp]
 simp only[Program.fieldsOf,Tryz.underlying36]
 go_simp
 by_cases h1:a.kind=b.kind<;>by_cases h2:(byt a.name).toList=(byt b.name).toList<;>by_cases h3:(a.deep:Int)=(b.deep:Int)<;>by_cases h4:a.caught=b.caught<;>simp[h1,h2,h3,h4]
theorem neq_jd (a b:Scopy.Decl) (w:World):(binOp .neq 36 (.agg (dc a)) (.agg (dc b))).run Tryz.prog w= .ok (.bool (!decide (a=b))) w:=neq_of_eql (eql_jd a b w)
theorem info_jd:(Tryz.prog.info? 36).map (fun j=>j.size)=some 4:=by kernel_rfl
theorem info_ju:(Tryz.prog.info? 39).map (fun j=>j.size)=some 2:=by kernel_rfl
theorem take_ne {α:Type} {l m:List α} {k:Nat} {x y:α} (hx:l[k]? =some x) (hy:m[k]? =some y) (h:x≠y):l≠m:=fun e=>h (by rw[e,hy] at hx;injection hx with hx;exact hx.symm)
theorem take_all {α:Type} {l m:List α} (hl:l.length=m.length) (h:∀(j:Nat) (x y:α),j<l.length→l[j]? =some x→m[j]? =some y→x=y):l=m:=by
 apply List.ext_getElem hl
 intro i h1 h2
 exact h i _ _ h1 (List.getElem?_eq_getElem h1) (List.getElem?_eq_getElem h2)
set_option maxRecDepth 100000 in
set_option maxHeartbeats 2000000 in
theorem equal_jd (l m:List Scopy.Decl) (v u:Value) (w:World) (hv:RdL w 4 dc l v) (hu:RdL w 4 dc m u) (hl:l.length≤4000000) (hm:m.length≤4000000):
  Calls Tryz.prog 15 #[v,u] w fun e w'=>e= .returned (.bool (decide (l=m)))∧Below w.heap.size w w':=by
 obtain⟨A,cap,rfl,hcap1,hcap2,hrow⟩:=hv
 obtain⟨A2,cap2,rfl,hcap3,hcap4,hrow2⟩:=hu
 have HR:=hid hrow
 have HR2:=hid hrow2
 clear hrow hrow2
 go_enter Tryz.func15,Tryz.ntmps15
 by_cases hlm:l.length=m.length
 ·have hne:((l.length:Int) != (m.length:Int))=false:=by simp[hlm]
  have HLM:=hid hlm
  clear hlm
  go_wp2
  go_loopg [5,13] l.length (fun gg _ s13 wr=>∃kk:Nat,kk≤l.length∧l.length - kk≤gg∧s13= .int .i64 (kk:Int)∧Hid (Below w.heap.size w wr)∧Hid (∀(j:Nat) (x y:Scopy.Decl),j<kk→l[j]? =some x→m[j]? =some y→x=y))
  case atStart=>exact⟨0,Nat.zero_le _,by omega,rfl,Below.refl _ w,fun j x y hj=>absurd hj (Nat.not_lt_zero _)⟩
  case round=>
   obtain⟨kk,hkk,hg,rfl,BW,AA⟩:=hrel
   by_cases hlt:kk<l.length
   ·have hltz:(kk:Int)<(l.length:Int):=by omega
    have hltz2:(kk:Int)<(m.length:Int):=by have:=HLM.out;omega
    obtain⟨x,hx⟩:∃x,l[kk]? =some x:=⟨_,List.getElem?_eq_getElem hlt⟩
    obtain⟨y,hy⟩:∃y,m[kk]? =some y:=⟨_,List.getElem?_eq_getElem (by have:=HLM.out;omega)⟩
    obtain⟨g0,o0,rfl,hg0,hrg⟩:=HR.out (by omega)
    obtain⟨g1,o1,rfl,hg1,hrg1⟩:=HR2.out (by have:=HLM.out;omega)
    have hr0:Hid (wr.rangeAt g0 (o0+kk * 4) (dc x).toList):=fun i u hu=>by
     rw[BW.out.cell (p:=⟨g0,o0+kk * 4+i,none⟩) hg0]
     exact RdL.elem (f:=dc) (fun _=>rfl) hrg hx i u hu
    have hr1:Hid (wr.rangeAt g1 (o1+kk * 4) (dc y).toList):=fun i u hu=>by
     rw[BW.out.cell (p:=⟨g1,o1+kk * 4+i,none⟩) hg1]
     exact RdL.elem (f:=dc) (fun _=>rfl) hrg1 hy i u hu
    have HX:=hid hx
    have HY:=hid hy
    clear hx hy hrg hrg1
    obtain⟨b,hb⟩:∃b,decide (x=y)=b:=⟨_,rfl⟩
    have hnq:=fun w=>neq_jd x y w
    rw[hb] at hnq
    have HB:=hid hb
    clear hb
    cases b with
    | false=>
     go_upto_region 6 with fail
     refine wp_region_held_drew (S:=fun w'=>w'.rangeAt g0 (o0+kk * 4) (dc x).toList∧w'.rangeAt g1 (o1+kk * 4) (dc y).toList) (by kernel_rfl) ⟨hr0.out,hr1.out⟩ (fun hHeld=> ?_)
     refine tH (i:=0) (v:= ?_) rfl ?_ (by assumption) ?_
     rotate_left
     ·intro w hSw
      (try dsimp only at hSw)
      go_simp
      try (with_reducible rfl)
     (try simp only[Act.put,sq])
     refine tH (i:=1) (v:= ?_) rfl ?_ (by assumption) ?_
     rotate_left
     ·intro w hSw
      (try dsimp only at hSw)
      go_simp
      try (with_reducible rfl)
     (try simp only[Act.put,sq])
     refine tH (i:=2) (v:= ?_) rfl ?_ (by assumption) ?_
     rotate_left
     ·intro w hSw
      (try dsimp only at hSw)
      go_simp
      try (with_reducible rfl)
     (try simp only[Act.put,sq])
     refine wpAnyH_take (i:=3) (v:=_) rfl (by kernel_rfl) (by kernel_rfl) (by kernel_rfl) (fun _ _ _ h=>h) (yieldsIf_load_mid (by kernel_rfl) 36 (.tmp 18) rfl (g0) (o0+kk * 4) rfl ((dc x).toList) _ (fun _ h=>h.1) Tryz.underlying36 rfl info_jd) (by assumption) ?_
     (try simp only[Act.put,sq])
     refine tH (i:=4) (v:= ?_) rfl ?_ (by assumption) ?_
     rotate_left
     ·intro w hSw
      (try dsimp only at hSw)
      go_simp
      try (with_reducible rfl)
     (try simp only[Act.put,sq])
     refine tH (i:=5) (v:= ?_) rfl ?_ (by assumption) ?_
     rotate_left
     ·intro w hSw
      (try dsimp only at hSw)
      go_simp
      try (with_reducible rfl)
     (try simp only[Act.put,sq])
     refine tH (i:=6) (v:= ?_) rfl ?_ (by assumption) ?_
     rotate_left
     ·intro w hSw
      (try dsimp only at hSw)
      go_simp
      try (with_reducible rfl)
     (try simp only[Act.put,sq])
     refine wpAnyH_take (i:=7) (v:=_) rfl (by kernel_rfl) (by kernel_rfl) (by kernel_rfl) (fun _ _ _ h=>h) (yieldsIf_load_mid (by kernel_rfl) 36 (.tmp 22) rfl (g1) (o1+kk * 4) rfl ((dc y).toList) _ (fun _ h=>h.2) Tryz.underlying36 rfl info_jd) (by assumption) ?_
     (try simp only[Act.put,sq])
     refine tH (i:=8) (v:= ?_) rfl ?_ (by assumption) ?_
     rotate_left
     ·intro w hSw
      (try dsimp only at hSw)
      go_simp
      try (with_reducible rfl)
     (try simp only[Act.put,sq])
     refine wpAnyH_done (by kernel_rfl) ?_ _
     go_wp2
     go_ret
     refine⟨?_,BW.out.drew⟩
     rw[decide_eq_false (take_ne HX.out HY.out (of_decide_eq_false HB.out))];rfl
    | true=>
     go_upto_region 6 with fail
     refine wp_region_held_drew (S:=fun w'=>w'.rangeAt g0 (o0+kk * 4) (dc x).toList∧w'.rangeAt g1 (o1+kk * 4) (dc y).toList) (by kernel_rfl) ⟨hr0.out,hr1.out⟩ (fun hHeld=> ?_)
     refine tH (i:=0) (v:= ?_) rfl ?_ (by assumption) ?_
     rotate_left
     ·intro w hSw
      (try dsimp only at hSw)
      go_simp
      try (with_reducible rfl)
     (try simp only[Act.put,sq])
     refine tH (i:=1) (v:= ?_) rfl ?_ (by assumption) ?_
     rotate_left
     ·intro w hSw
      (try dsimp only at hSw)
      go_simp
      try (with_reducible rfl)
     (try simp only[Act.put,sq])
     refine tH (i:=2) (v:= ?_) rfl ?_ (by assumption) ?_
     rotate_left
     ·intro w hSw
      (try dsimp only at hSw)
      go_simp
      try (with_reducible rfl)
     (try simp only[Act.put,sq])
     refine wpAnyH_take (i:=3) (v:=_) rfl (by kernel_rfl) (by kernel_rfl) (by kernel_rfl) (fun _ _ _ h=>h) (yieldsIf_load_mid (by kernel_rfl) 36 (.tmp 18) rfl (g0) (o0+kk * 4) rfl ((dc x).toList) _ (fun _ h=>h.1) Tryz.underlying36 rfl info_jd) (by assumption) ?_
     (try simp only[Act.put,sq])
     refine tH (i:=4) (v:= ?_) rfl ?_ (by assumption) ?_
     rotate_left
     ·intro w hSw
      (try dsimp only at hSw)
      go_simp
      try (with_reducible rfl)
     (try simp only[Act.put,sq])
     refine tH (i:=5) (v:= ?_) rfl ?_ (by assumption) ?_
     rotate_left
     ·intro w hSw
      (try dsimp only at hSw)
      go_simp
      try (with_reducible rfl)
     (try simp only[Act.put,sq])
     refine tH (i:=6) (v:= ?_) rfl ?_ (by assumption) ?_
     rotate_left
     ·intro w hSw
      (try dsimp only at hSw)
      go_simp
      try (with_reducible rfl)
     (try simp only[Act.put,sq])
     refine wpAnyH_take (i:=7) (v:=_) rfl (by kernel_rfl) (by kernel_rfl) (by kernel_rfl) (fun _ _ _ h=>h) (yieldsIf_load_mid (by kernel_rfl) 36 (.tmp 22) rfl (g1) (o1+kk * 4) rfl ((dc y).toList) _ (fun _ h=>h.2) Tryz.underlying36 rfl info_jd) (by assumption) ?_
     (try simp only[Act.put,sq])
     refine tH (i:=8) (v:= ?_) rfl ?_ (by assumption) ?_
     rotate_left
     ·intro w hSw
      (try dsimp only at hSw)
      go_simp
      try (with_reducible rfl)
     (try simp only[Act.put,sq])
     refine wpAnyH_done (by kernel_rfl) ?_ _
     go_wp2
     go_roundg (l.length - (kk+1))
     case measure=>omega
     case rel=>
      refine⟨kk+1,by omega,by omega,by go_num,BW.out.drew,(show Hid _ from fun j x' y' hj hx' hy'=> ?_)⟩
      by_cases e:j=kk
      ·subst e
       have h1:=HX.out
       have h2:=HY.out
       rw[hx'] at h1
       rw[hy'] at h2
       injection h1 with h1
       injection h2 with h2
       rw[h1,h2];exact of_decide_eq_true HB.out
      ·exact AA.out j x' y' (by omega) hx' hy'
   ·have hltz:¬(kk:Int)<(l.length:Int):=by omega
    go_wp2
    go_ret
    refine⟨?_,BW.out⟩
    rw[decide_eq_true (take_all HLM.out (fun j x y hj h1 h2=>AA.out j x y (by omega) h1 h2))];rfl
 ·have hne:((l.length:Int) != (m.length:Int))=true:=by simp;omega
  have HLM:=hid hlm
  go_wp2
  go_ret
  refine⟨?_,Below.refl _ w⟩
  rw[decide_eq_false (fun e=>HLM.out (by rw[e]))];rfl
end Go.Proofs.YtflmjbmdmoifhaaGreatDoor

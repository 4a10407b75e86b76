/-
  Texts that the law leans on: PmN, PmO, PmP. Conditions: as each says.
-/
import Derived.Test.YtflmjbmdmoifhaaGreatDoorKAi
import Derived.Test.YtflmjbmdmoifhaaGreatDoorKAa
set_option linter.unusedSimpArgs false
set_option linter.unusedVariables false
namespace Go.Proofs.YtflmjbmdmoifhaaGreatDoor
open Go.Lib (hid)
open Go.RowKit
theorem step_store_midbox {P:Program} {ops:Array Oper} {o:Oper} {a:Act} {w:World} {K:Act→World→Prop} {Q:Exit→Act→World→Prop} {E:Prop} (hgd:o.guard=none) (ty:TypeId) (x y:Operand) (ho:o.op= .store ty x y)
  (b off:Nat) (cells:Array Value) (hx:a.eval x= .pointer (some ⟨b,off,none⟩)) (hy:a.eval y= .agg cells) (cur:List Value) (te:TypeId) (hg:Box w b te cur.toArray) (hfit:off+cells.size≤cur.length)
  (hi:(P.info? ty).map (·.size)=some cells.size) (h1:cells.all (·.oneCell')=true)
  (h:∀w',Hid (Box w' b te (splice cur off cells.toList).toArray)→Upd w w' b→w'.heap.size=w.heap.size→K (a.put o.dst undef) w'):
  if Region.wanted o (yielded ops a.tmps)=true then Oper.wp P o a w K Q else E:=by
 have hw:Region.wanted o (yielded ops a.tmps)=true:=by simp[Region.wanted,hgd]
 rw[if_pos hw]
 refine wp_store_mid ty x y ho b off cells hx hy (Box.there hg hfit) hi h1 (h _ ?_ (upd_cells _ _ _) (size_cells _ _ _))
 have:=box_cells (w:=w) (b:=b) (t:=te) cells.toList off cur w hg (by simpa using hfit)
 show Box _ _ _ _
 unfold splice
 simpa [List.append_assoc] using this
theorem zrow_one:∀u∈([.int .i64 0,.int .i64 0,.string ⟨#[]⟩,.slice none 0 0]:List Value),u.oneCell'=true:=by
 intro u hu
 simp only[List.mem_cons,List.not_mem_nil,or_false] at hu
 rcases hu with rfl | rfl | rfl | rfl<;>rfl
theorem NodesAt.left {w:World} {S:Nat→Prop} {z:Pars.Node} {cz:Array Value}:∀{l:List Pars.Node} {css:List (Array Value)},css.length=l.length→NodesAt w S (l++[z]) (css++[cz])→NodesAt w S l css∧NodeAt w S z cz
 | [],[],_,h=>by simp only[List.nil_append] at h;unfold NodesAt at h;exact⟨by unfold NodesAt;trivial,h.1⟩
 | n :: l,c :: css,e,h=>by
  simp only[List.cons_append] at h
  unfold NodesAt at h
  obtain⟨h1,h2⟩:=NodesAt.left (by simpa using e) h.2
  exact⟨by unfold NodesAt;exact⟨h.1,h1⟩,h2⟩
 | [],_ :: _,e,_=>by simp at e
 | _ :: _,[],e,_=>by simp at e
theorem KO.last {w:World} {B oa:Nat} {l:List Pars.Node} {z x:Pars.Node} {cs:Array Value} {g cap:Nat} (h:KO w B oa (l++[z]) (.slice (some ⟨g,0,none⟩) (l.length+1) cap))
  (hn:NodeAt w (fun q=>B≤q∧q≠oa∧q≠g) x cs):
  ∃cur:List Value,Box w g 24 cur.toArray∧l.length * 4+4≤cur.length∧∀w8,Hid (Box w8 g 24 (splice cur (l.length * 4) cs.toList).toArray)→Upd w w8 g→KO w8 B oa (l++[x]) (.slice (some ⟨g,0,none⟩) (l.length+1) cap):=by
 have hcs:=NodeAt.size hn
 obtain⟨css,hown,hk⟩:=h.row
 have hcl:=NodesAt.len hk
 rcases List.eq_nil_or_concat css with rfl | ⟨css,cz,rfl⟩
 ·simp at hcl
 rw[List.concat_eq_append] at hown hk hcl
 have hlen:css.length=l.length:=by simpa using hcl
 have hk2:=NodesAt.left hlen hk
 have hz4:cz.size=4:=NodeAt.size hk2.2
 have hfl:=NodesAt.flat_len hk2.1
 rw[List.length_append] at hown
 obtain⟨g',cap',Rr,e,hB,hbx,hc1,hc2,hc3⟩:=own_box hown (by simp)
 injection e with e1 e2 e3
 injection e1 with e1
 injection e1 with e1
 subst e1 e3
 rw[flatA_append] at hbx hc3
 have hz:flatA [cz]=cz.toList:=by simp[flatA]
 rw[hz] at hbx hc3
 refine⟨flatA css++cz.toList++Rr,hbx,by simp only[List.length_append,Array.length_toList];omega,fun w8 hx hu=> ?_⟩
 have hsp:splice (flatA css++cz.toList++Rr) (l.length * 4) cs.toList=flatA css++cs.toList++Rr:=by
  unfold splice
  have t1:(flatA css++cz.toList++Rr).take (l.length * 4)=flatA css:=by rw[List.append_assoc,List.take_append_of_le_length (by omega),List.take_of_length_le (by omega)]
  have t2:(flatA css++cz.toList++Rr).drop (l.length * 4+cs.toList.length)=Rr:=by
   rw[List.drop_append,List.drop_of_length_le (by simp;omega)]
   have:l.length * 4+cs.toList.length - (flatA css++cz.toList).length=0:=by simp;omega
   rw[this];rfl
  rw[t1,t2]
  simp
 have hx2:=hx.out
 rw[hsp] at hx2
 have hsz:(flatA css++cs.toList++Rr).length=cap * 4:=by
  rw[←hc3];simp only[List.length_append,Array.length_toList];omega
 have hcx:flatA [cs]=cs.toList:=by simp[flatA]
 refine⟨h.ne,css++[cs],?_,NodesAt.snoc (NodeAt.keep ?_ hu.size ?_ hn) (NodesAt.keep ?_ hu.size ?_ hk2.1)⟩
 ·rw[flatA_append,List.length_append,hcx]
  refine box_own hB hx2 hc1 hc2 hsz ?_ ?_
  ·rw[List.take_append_of_le_length (by simp;omega),List.take_of_length_le (by simp;omega)]
  ·simp only[List.length_append,Array.length_toList,List.length_cons,List.length_nil];omega
 ·intro q hs hq;exact⟨hs.1,hs.2.1,by simp only[Value.ownBlock];intro e;injection e with e;exact hs.2.2 e.symm⟩
 ·intro q hs hq;exact hu.block q hq (by intro e;injection e with e;exact hs.2.2 e)
 ·intro q hs hq;exact hs
 ·intro q hs hq;exact hu.block q hq (by intro e;injection e with e;exact hs.2.2 (by rw[e];rfl))
theorem KO.updB {w w1:World} {B oa b:Nat} {l:List Pars.Node} {v:Value} (h:KO w B oa l v) (hu:UpdB w.heap.size w w1 b) (hb:b<B):KO w1 B oa l v:=by
 have hg:w.grownBy w1 (some b):=⟨hu.os,hu.tape,hu.output,hu.size,fun i hi hn=>hu.block i hi (fun e=>hn (by rw[e]))⟩
 exact h.upd hg hb
theorem NodeAt.room {w w7:World} {B oa g:Nat} {v:Value} {x:Pars.Node} {cs:Array Value} (hn:NodeAt w (fun q=>B≤q∧q≠oa∧v.ownBlock≠some q) x cs) (hgr:w.grownBy w7 v.ownBlock) (hor:v.ownBlock=some g∨g=w.heap.size):NodeAt w7 (fun q=>B≤q∧q≠oa∧q≠g) x cs:=by
 refine NodeAt.keep ?_ hgr.size ?_ hn
 ·intro q hs hq
  refine⟨hs.1,hs.2.1,?_⟩
  rcases hor with e | e
  ·intro e2;exact hs.2.2 (by rw[e,e2])
  ·omega
 ·intro q hs hq;exact hgr.block q hq (fun e=>hs.2.2 e.symm)
set_option maxRecDepth 100000 in
set_option maxHeartbeats 4000000 in
theorem one_two {m:Nat} (h:All m) (B b oa pb:Nat) (ts:List KT) (A:Option Addr) (c:Nat) (fn lp:Bool) (kd nu:Int) (tx:List UInt8) (hbB:b<B) (hpB:pb<B) (hpb:pb≠b) (hoB:B≤oa) (hA:0<ts.length→∀g o,A=some ⟨g,o,none⟩→g<B):
  ∀F,F=132∨F=135→One m .expression F #[.pointer (some ⟨oa,0,none⟩),.pointer (some ⟨pb,0,none⟩)] B b oa pb ts A c fn lp kd nu tx:=by
 intro F hF w k acc kv hP hpx hox hko hBw hal hm
 obtain⟨i0,hi0,hi1,hi2,hi3⟩:=info_parts parts_nod
 have HA:=hid hA
 have HP:=hid hP
 have PX:=hid hpx
 have hkl:=hP.kle
 have hlen:=hP.len
 have HR:Hid ((Pars.run m .expression fn lp (left ts k)).map (fun y=>(acc++[y.1],y.2))=_):=hid rfl
 have HU:=hid (UpdB.refl B w b)
 have hbl:=hP.box.lt
 obtain⟨KA,kc,rfl⟩:∃KA kc,kv= .slice KA acc.length kc:=by
  obtain⟨css,h1,_⟩:=hko.row
  obtain⟨KA,kc,e,_⟩:=Rd.own h1
  exact⟨KA,kc,e⟩
 have OB:=hid hox
 have KOF:=hid hko
 clear hA hP hpx hox hko
 rcases hF with rfl | rfl
 focus
  go_enter Tryz.func132,Tryz.ntmps132
 rotate_left
 focus
  go_enter Tryz.func135,Tryz.ntmps135
 all_goals
  go_upto_region 0 with fail
  refine wp_region_until 6 (fun w'=>Box w' oa 24 (nc kd nu tx (Value.slice KA acc.length kc))∧Box w' pb 106 #[.pointer (some ⟨b,0,none⟩)]) (by kernel_rfl) ⟨OB.out.drew,PX.out.drew⟩ (fun hHeld=> ?_)
  obtain⟨wd,hwd⟩:∃wd,w.drew=wd:=⟨_,rfl⟩
  have hb:Below w.heap.size w wd:=hwd ▸ (Below.refl _ w).drew
  (try rw[hwd] at hHeld)
  (try rw[hwd])
  clear hwd hHeld
  replace OB:=bl OB hb
  replace KOF:=hid (KOF.out.below hb)
  replace HP:=hid (HP.out.below hb)
  replace HU:=hid (HU.out.trans (UpdB.of_below hb hBw))
  replace hBw:=Nat.le_trans hBw hb.size
  replace PX:=bl PX hb
  clear hb
  refine tU (i:=0) (v:= ?_) rfl ?_ (.inr ⟨OB.out,PX.out⟩) ?_
  rotate_left
  ·intro w hSw
   go_simp
   try (with_reducible rfl)
  (try simp only[Act.put,sq])
  refine tV (i:=1) (v:=(Value.slice KA acc.length kc)) rfl ?_ ⟨OB.out,PX.out⟩ ?_
  ·intro w hSw
   have c3:=hSw.1.cell 3
   simp[nc] at c3
   go_simp
  (try simp only[Act.put,sq])
  refine tV (i:=2) (v:= .pointer (some ⟨b,0,none⟩)) rfl ?_ ⟨OB.out,PX.out⟩ ?_
  ·intro w hSw
   have c3:=hSw.2.cell 0
   simp at c3
   go_simp
  (try simp only[Act.put,sq])
  refine tU (i:=4) (v:= ?_) rfl ?_ (.inr ⟨OB.out,PX.out⟩) ?_
  rotate_left
  ·intro w hSw
   go_simp
   try (with_reducible rfl)
  (try simp only[Act.put,sq])
  refine wpAnyU_ready (rs:=[3,5]) (by kernel_rfl) (by simp) ?_
  refine AllReadyU.cons rfl (fun K hK=> ?_) (AllReadyU.cons rfl (fun K hK=> ?_) AllReadyU.nil)
  focus
   go_simp
   refine (h.expr HP.out (by omega)).mono ?_
   rintro e w5 (⟨x1,k1,cs1,hr,hk1,hk2,rfl,hn,hx,hu⟩ | ⟨hr,rfl,hu⟩)
   rotate_left
   ·exact⟨rfl,.inr ⟨by rw[hr];rfl,rfl,HU.out.trans (UpdB.of_upd hu hBw)⟩⟩
   have hlt1:=got_lt hr rfl
   have HRR:=hid hr
   have hrl:=KOF.out.row
   have HN1:Hid (NodeAt w5 (fun g=>B≤g∧g≠oa∧(Value.slice KA acc.length kc).ownBlock≠some g) x1 cs1):=hid (hn.weak (fun g hg=>⟨by omega,by have:=OB.out.lt;omega,fun e=>by obtain⟨_,ho,_⟩:=hrl;have:=(ho.lt g e).2;omega⟩))
   clear hrl
   have hub:=UpdB.of_upd hu hBw
   replace OB:=bg OB hu
   replace KOF:=hid (KOF.out.upd hu hbB)
   replace HP:=hid (HP.out.upd hx hu (by omega))
   replace HU:=hid (HU.out.trans hub)
   replace hBw:=Nat.le_trans hBw hu.size
   clear hub
   replace PX:=bg PX hu
   clear hr hn hx hu
   obtain⟨v1,hlit,hvo⟩:=NodeAt.lit HN1.out
   rw[hlit] at HN1 ⊢
   have HVO1:=hid hvo
   clear hlit hvo
   go_wp2_with fail
   refine hK.out _ _ (.inr ⟨OB.out,PX.out⟩) (fun hHeld=> ?_)
   clear hK hHeld K
   (try simp only[Act.put,sq])
   refine rdU 5 rfl fun K hK=> ?_
   go_simp
   have bxB:=Box.new w5 24 #[.int .i64 0,.int .i64 0,.string ⟨#[]⟩,.slice none 0 0]
   have hb:Below w5.heap.size w5 (w5.alloc (.cells #[.int .i64 0,.int .i64 0,.string ⟨#[]⟩,.slice none 0 0] 24)):=below1 w5 _
   obtain⟨wc,hwb⟩:∃wb,(w5.alloc (.cells #[.int .i64 0,.int .i64 0,.string ⟨#[]⟩,.slice none 0 0] 24))=wb:=⟨_,rfl⟩
   rw[hwb] at bxB hb
   rw[hwb]
   clear hwb
   have BXB:=hid bxB
   obtain⟨zb,hzb⟩:∃zb,w5.heap.size=zb:=⟨_,rfl⟩
   rw[hzb] at BXB ⊢
   have hzbB:B≤zb:=hzb ▸ hBw
   replace OB:=bl OB hb
   replace KOF:=hid (KOF.out.below hb)
   replace HP:=hid (HP.out.below hb)
   replace HN1:=hid (HN1.out.below hb)
   replace HU:=hid (HU.out.trans (UpdB.of_below hb hBw))
   replace hBw:=Nat.le_trans hBw hb.size
   replace PX:=bl PX hb
   refine hK.out _ _ (.inr ⟨OB.out,PX.out⟩) (fun hHeld=> ?_)
   clear hK hHeld K
   (try simp only[Act.put,sq])
   clear hb bxB hzb
  rotate_left
  focus
   go_simp
   have bxB:=Box.new wd 24 #[.int .i64 0,.int .i64 0,.string ⟨#[]⟩,.slice none 0 0]
   have hb:Below wd.heap.size wd (wd.alloc (.cells #[.int .i64 0,.int .i64 0,.string ⟨#[]⟩,.slice none 0 0] 24)):=below1 wd _
   obtain⟨w5,hwb⟩:∃wb,(wd.alloc (.cells #[.int .i64 0,.int .i64 0,.string ⟨#[]⟩,.slice none 0 0] 24))=wb:=⟨_,rfl⟩
   rw[hwb] at bxB hb
   rw[hwb]
   clear hwb
   have BXB:=hid bxB
   obtain⟨zb,hzb⟩:∃zb,wd.heap.size=zb:=⟨_,rfl⟩
   rw[hzb] at BXB ⊢
   have hzbB:B≤zb:=hzb ▸ hBw
   replace OB:=bl OB hb
   replace KOF:=hid (KOF.out.below hb)
   replace HP:=hid (HP.out.below hb)
   replace HU:=hid (HU.out.trans (UpdB.of_below hb hBw))
   replace hBw:=Nat.le_trans hBw hb.size
   replace PX:=bl PX hb
   refine hK.out _ _ (.inr ⟨OB.out,PX.out⟩) (fun hHeld=> ?_)
   clear hK hHeld K
   (try simp only[Act.put,sq])
   clear hb bxB hzb
   refine rdU 3 rfl fun K hK=> ?_
   go_simp
   refine (h.expr HP.out (by omega)).mono ?_
   rintro e wc (⟨x1,k1,cs1,hr,hk1,hk2,rfl,hn,hx,hu⟩ | ⟨hr,rfl,hu⟩)
   rotate_left
   ·exact⟨rfl,.inr ⟨by rw[hr];rfl,rfl,HU.out.trans (UpdB.of_upd hu hBw)⟩⟩
   have hlt1:=got_lt hr rfl
   have HRR:=hid hr
   have hrl:=KOF.out.row
   have HN1:Hid (NodeAt wc (fun g=>B≤g∧g≠oa∧(Value.slice KA acc.length kc).ownBlock≠some g) x1 cs1):=hid (hn.weak (fun g hg=>⟨by omega,by have:=OB.out.lt;omega,fun e=>by obtain⟨_,ho,_⟩:=hrl;have:=(ho.lt g e).2;omega⟩))
   clear hrl
   have hub:=UpdB.of_upd hu hBw
   replace OB:=bg OB hu
   replace KOF:=hid (KOF.out.upd hu hbB)
   replace HP:=hid (HP.out.upd hx hu (by omega))
   replace BXB:=bg BXB hu
   replace HU:=hid (HU.out.trans hub)
   replace hBw:=Nat.le_trans hBw hu.size
   clear hub
   replace PX:=bg PX hu
   clear hr hn hx hu
   obtain⟨v1,hlit,hvo⟩:=NodeAt.lit HN1.out
   rw[hlit] at HN1 ⊢
   have HVO1:=hid hvo
   clear hlit hvo
   go_wp2_with fail
   refine hK.out _ _ (.inr ⟨OB.out,PX.out⟩) (fun hHeld=> ?_)
   clear hK hHeld K
   (try simp only[Act.put,sq])
  all_goals
   refine rdU 6 rfl fun K hK=> ?_
   obtain⟨css,hrow,hkn⟩:=KOF.out.row
   refine step_append_lies _ rfl (.tmp 3) (.tmp 7) 22 rfl B 24 i0 _ 4 56 Tryz.underlying22 hi0 hi1 hi2 hi3 rfl (by decide) (Value.slice KA acc.length kc) acc.length (flatA css) (by simp[Act.eval,Act.put]) hrow ⟨zb,0,none⟩ 1 1 [.int .i64 0,.int .i64 0,.string ⟨#[]⟩,.slice none 0 0] (by simp[Act.eval,Act.put]) rfl (by exact World.news_of_block BXB.out) zrow_one (by omega) (by unfold maxLen;omega) (by omega) hBw wc.heap.size rfl ?_
   intro g7 cap7 w7 hown7 hgr7 hor7 hlt7
   have hbB7:Below B wc w7:=below_grown hgr7 hBw (fun q hq=>(hrow.lt q hq).1)
   have hob:=OB.out.lt
   have KO7:=KOF.out.snoc (x:= .mk 0 0 [] []) (cs:= #[.int .i64 0,.int .i64 0,.string ⟨#[]⟩,.slice none 0 0]) css hrow hkn (NodeAt.leaf _ _ 0 0 []) hown7 hgr7 hor7 hob
   replace HN1:=hid (NodeAt.room HN1.out hgr7 hor7)
   have hoa7:g7≠oa:=by
    rcases hor7 with e | e
    ·intro e2;exact KOF.out.ne (by rw[e,e2])
    ·omega
   have hg7B:B≤g7:=by
    rcases hor7 with e | e
    ·exact (hrow.lt _ e).1
    ·omega
   replace OB:=hid (Box.grown OB.out hgr7 (fun e=>KOF.out.ne e.symm))
   replace HP:=hid (HP.out.belowB hbB7 hbB HA.out)
   replace HU:=hid (HU.out.trans (UpdB.of_below hbB7 (Nat.le_refl _)))
   replace hBw:=Nat.le_trans hBw hbB7.size
   replace KOF:=hid KO7
   refine hK.out _ _ (.inl rfl) (fun hHeld=> ?_)
   clear hK hHeld K
   (try simp only[Act.put,sq])
   clear hown7 hgr7 hor7 hlt7 hbB7 hrow hkn hob KO7
   have n1:(acc.length:Int)<((acc.length+1:Nat):Int):=by omega
   have n2:decide ((acc.length:Int)<((acc.length+1:Nat):Int))=true:=decide_eq_true n1
   have n3:acc.length<acc.length+1:=by omega
   refine tU (i:=7) (v:= .pointer (some ⟨g7,acc.length * 4,none⟩)) rfl ?_ (.inl rfl) ?_
   ·intro w hSw
    go_simp
    try (intro hx;exfalso;omega)
   (try simp only[Act.put,sq])
   clear n1 n2 n3
   refine tU (i:=9) (v:= ?_) rfl ?_ (.inl rfl) ?_
   rotate_left
   ·intro w hSw
    go_simp
    try (with_reducible rfl)
   (try simp only[Act.put,sq])
   refine wpAnyU_ready (rs:=[8,10]) (by kernel_rfl) (by simp) ?_
   refine AllReadyU.cons rfl (fun K hK=> ?_) (AllReadyU.cons rfl (fun K hK=> ?_) AllReadyU.nil)
   focus
    obtain⟨cur,hcur,hcl,hKO⟩:=KOF.out.last HN1.out
    have HKO:=hid hKO
    refine step_store_midbox rfl 24 (.tmp 9) (.tmp 5) rfl g7 (acc.length * 4) #[.int .i64 x1.kind,.int .i64 x1.num,.string (byt x1.text),v1] (by simp[Act.eval,Act.put]) (by simp[Act.eval,Act.put]) cur 24 hcur hcl info_nod (nc_one _ _ _ HVO1.out) ?_
    intro w8 hx8 hu8 hz8
    have hb8:Below B w7 w8:=hu8.own hg7B hBw
    replace OB:=hid (Box.grown OB.out hu8 (by intro h;injection h with h;exact hoa7 h.symm))
    have KOF:=hid (HKO.out w8 hx8 hu8)
    replace HP:=hid (HP.out.belowB hb8 hbB HA.out)
    replace HU:=hid (HU.out.trans (UpdB.of_below hb8 (Nat.le_refl _)))
    replace hBw:=Nat.le_trans hBw hb8.size
    refine hK.out _ _ (.inl rfl) (fun hHeld=> ?_)
    clear hK hHeld K
    (try simp only[Act.put,sq])
    clear hx8 hu8 hz8 hb8 hcur hcl hKO HKO
    refine rdU 10 rfl fun K hK=> ?_
    have c3:=OB.out.cell 3
    have f3:w8.frozen? ⟨oa,3,none⟩=false:=OB.out.frozen 3
    simp[nc] at c3
    go_simp
    have hu9:Upd w8 (w8.setCell ⟨oa,3,none⟩ (Value.slice (some ⟨g7,0,none⟩) (acc.length+1) cap7)) oa:=(Upd.refl _ _).set (.inl rfl) _
    have OB9:=OB.out.set 3 (Value.slice (some ⟨g7,0,none⟩) (acc.length+1) cap7)
    obtain⟨wz,hwz⟩:∃wz,(w8.setCell ⟨oa,3,none⟩ (Value.slice (some ⟨g7,0,none⟩) (acc.length+1) cap7))=wz:=⟨_,rfl⟩
    rw[hwz] at hu9 OB9
    rw[hwz]
    clear hwz
    replace OB9:Box wz oa 24 (nc kd nu tx (Value.slice (some ⟨g7,0,none⟩) (acc.length+1) cap7)):=by simpa [nc] using OB9
    replace OB:=hid OB9
    replace KOF:=hid (KOF.out.self hu9)
    have hb9:Below B w8 wz:=hu9.own hoB hBw
    replace HP:=hid (HP.out.belowB hb9 hbB HA.out)
    replace HU:=hid (HU.out.trans (UpdB.of_below hb9 (Nat.le_refl _)))
    replace hBw:=Nat.le_trans hBw hb9.size
    refine hK.out _ _ (.inl rfl) (fun hHeld=> ?_)
    clear hK hHeld K
    (try simp only[Act.put,sq])
    clear hu9 OB9 hb9 c3 f3
   rotate_left
   focus
    have c3:=OB.out.cell 3
    have f3:w7.frozen? ⟨oa,3,none⟩=false:=OB.out.frozen 3
    simp[nc] at c3
    go_simp
    have hu9:Upd w7 (w7.setCell ⟨oa,3,none⟩ (Value.slice (some ⟨g7,0,none⟩) (acc.length+1) cap7)) oa:=(Upd.refl _ _).set (.inl rfl) _
    have OB9:=OB.out.set 3 (Value.slice (some ⟨g7,0,none⟩) (acc.length+1) cap7)
    obtain⟨w8,hwz⟩:∃wz,(w7.setCell ⟨oa,3,none⟩ (Value.slice (some ⟨g7,0,none⟩) (acc.length+1) cap7))=wz:=⟨_,rfl⟩
    rw[hwz] at hu9 OB9
    rw[hwz]
    clear hwz
    replace OB9:Box w8 oa 24 (nc kd nu tx (Value.slice (some ⟨g7,0,none⟩) (acc.length+1) cap7)):=by simpa [nc] using OB9
    replace OB:=hid OB9
    replace KOF:=hid (KOF.out.self hu9)
    replace HN1:=hid (HN1.out.upd hu9 (fun q hq=>hq.2.1))
    have hb9:Below B w7 w8:=hu9.own hoB hBw
    replace HP:=hid (HP.out.belowB hb9 hbB HA.out)
    replace HU:=hid (HU.out.trans (UpdB.of_below hb9 (Nat.le_refl _)))
    replace hBw:=Nat.le_trans hBw hb9.size
    refine hK.out _ _ (.inl rfl) (fun hHeld=> ?_)
    clear hK hHeld K
    (try simp only[Act.put,sq])
    clear hu9 OB9 hb9 c3 f3
    refine rdU 8 rfl fun K hK=> ?_
    obtain⟨cur,hcur,hcl,hKO⟩:=KOF.out.last HN1.out
    have HKO:=hid hKO
    refine step_store_midbox rfl 24 (.tmp 9) (.tmp 5) rfl g7 (acc.length * 4) #[.int .i64 x1.kind,.int .i64 x1.num,.string (byt x1.text),v1] (by simp[Act.eval,Act.put]) (by simp[Act.eval,Act.put]) cur 24 hcur hcl info_nod (nc_one _ _ _ HVO1.out) ?_
    intro wz hx8 hu8 hz8
    have hb8:Below B w8 wz:=hu8.own hg7B hBw
    replace OB:=hid (Box.grown OB.out hu8 (by intro h;injection h with h;exact hoa7 h.symm))
    have KOF:=hid (HKO.out wz hx8 hu8)
    replace HP:=hid (HP.out.belowB hb8 hbB HA.out)
    replace HU:=hid (HU.out.trans (UpdB.of_below hb8 (Nat.le_refl _)))
    replace hBw:=Nat.le_trans hBw hb8.size
    refine hK.out _ _ (.inl rfl) (fun hHeld=> ?_)
    clear hK hHeld K
    (try simp only[Act.put,sq])
    clear hx8 hu8 hz8 hb8 hcur hcl hKO HKO
   all_goals
    refine wpAnyU_done (by kernel_rfl) ?_ _
    go_wp2
    go_end0
    exact .inl ⟨acc++[x1],k1,(Value.slice (some ⟨g7,0,none⟩) (acc.length+1) cap7),by rw[HRR.out];rfl,by omega,by omega,by simp only[ln];omega,rfl,OB.out,KOF.out,HP.out.box,HU.out⟩
theorem one_call {m:Nat} (h:All m) (B b oa pb:Nat) (ts:List KT) (A:Option Addr) (c:Nat) (fn lp:Bool) (kd nu:Int) (tx:List UInt8) (hbB:b<B) (hpB:pb<B) (hpb:pb≠b) (hoB:B≤oa) (hA:0<ts.length→∀g o,A=some ⟨g,o,none⟩→g<B):
  One m .expression 132 #[.pointer (some ⟨oa,0,none⟩),.pointer (some ⟨pb,0,none⟩)] B b oa pb ts A c fn lp kd nu tx:=one_two h B b oa pb ts A c fn lp kd nu tx hbB hpB hpb hoB hA _ (.inl rfl)
theorem one_list {m:Nat} (h:All m) (B b oa pb:Nat) (ts:List KT) (A:Option Addr) (c:Nat) (fn lp:Bool) (kd nu:Int) (tx:List UInt8) (hbB:b<B) (hpB:pb<B) (hpb:pb≠b) (hoB:B≤oa) (hA:0<ts.length→∀g o,A=some ⟨g,o,none⟩→g<B):
  One m .expression 135 #[.pointer (some ⟨oa,0,none⟩),.pointer (some ⟨pb,0,none⟩)] B b oa pb ts A c fn lp kd nu tx:=one_two h B b oa pb ts A c fn lp kd nu tx hbB hpB hpb hoB hA _ (.inr rfl)
set_option maxRecDepth 100000 in
set_option maxHeartbeats 4000000 in
theorem one_param {m:Nat} (h:All m) (B b oa pb:Nat) (ts:List KT) (A:Option Addr) (c:Nat) (fn lp:Bool) (kd nu:Int) (tx:List UInt8) (hbB:b<B) (hpB:pb<B) (hpb:pb≠b) (hoB:B≤oa) (hA:0<ts.length→∀g o,A=some ⟨g,o,none⟩→g<B):
  One m .param 105 #[.pointer (some ⟨oa,0,none⟩),.pointer (some ⟨pb,0,none⟩)] B b oa pb ts A c fn lp kd nu tx:=by
 intro w k acc kv hP hpx hox hko hBw hal hm
 obtain⟨i0,hi0,hi1,hi2,hi3⟩:=info_parts parts_nod
 have HA:=hid hA
 have HP:=hid hP
 have PX:=hid hpx
 have hkl:=hP.kle
 have hlen:=hP.len
 have HR:Hid ((Pars.run m .param fn lp (left ts k)).map (fun y=>(acc++[y.1],y.2))=_):=hid rfl
 have HU:=hid (UpdB.refl B w b)
 have hbl:=hP.box.lt
 obtain⟨KA,kc,rfl⟩:∃KA kc,kv= .slice KA acc.length kc:=by
  obtain⟨css,h1,_⟩:=hko.row
  obtain⟨KA,kc,e,_⟩:=Rd.own h1
  exact⟨KA,kc,e⟩
 have OB:=hid hox
 have KOF:=hid hko
 clear hA hP hpx hox hko
 go_enter Tryz.func105,Tryz.ntmps105
 obtain⟨m,rfl⟩:∃q,m=q+1:=⟨m - 1,by omega⟩
 go_upto_region 0 with fail
 refine wp_region_until 7 (fun w'=>Box w' oa 24 (nc kd nu tx (Value.slice KA acc.length kc))∧Box w' pb 106 #[.pointer (some ⟨b,0,none⟩)]) (by kernel_rfl) ⟨OB.out.drew,PX.out.drew⟩ (fun hHeld=> ?_)
 obtain⟨wd,hwd⟩:∃wd,w.drew=wd:=⟨_,rfl⟩
 have hb:Below w.heap.size w wd:=hwd ▸ (Below.refl _ w).drew
 (try rw[hwd] at hHeld)
 (try rw[hwd])
 clear hwd hHeld
 replace OB:=bl OB hb
 replace KOF:=hid (KOF.out.below hb)
 replace HP:=hid (HP.out.below hb)
 replace HU:=hid (HU.out.trans (UpdB.of_below hb hBw))
 replace hBw:=Nat.le_trans hBw hb.size
 replace PX:=bl PX hb
 clear hb
 refine tU (i:=0) (v:= ?_) rfl ?_ (.inr ⟨OB.out,PX.out⟩) ?_
 rotate_left
 ·intro w hSw
  go_simp
  try (with_reducible rfl)
 (try simp only[Act.put,sq])
 refine tV (i:=1) (v:=(Value.slice KA acc.length kc)) rfl ?_ ⟨OB.out,PX.out⟩ ?_
 ·intro w hSw
  have c3:=hSw.1.cell 3
  simp[nc] at c3
  go_simp
 (try simp only[Act.put,sq])
 refine tV (i:=2) (v:= .pointer (some ⟨b,0,none⟩)) rfl ?_ ⟨OB.out,PX.out⟩ ?_
 ·intro w hSw
  have c3:=hSw.2.cell 0
  simp at c3
  go_simp
 (try simp only[Act.put,sq])
 refine tU (i:=5) (v:= ?_) rfl ?_ (.inr ⟨OB.out,PX.out⟩) ?_
 rotate_left
 ·intro w hSw
  go_simp
  try (with_reducible rfl)
 (try simp only[Act.put,sq])
 refine wpAnyU_ready (rs:=[3,6]) (by kernel_rfl) (by simp) ?_
 refine AllReadyU.cons rfl (fun K hK=> ?_) (AllReadyU.cons rfl (fun K hK=> ?_) AllReadyU.nil)
 focus
  go_simp
  refine (name_any _ b ts A c k fn lp HP.out).mono ?_
  rintro e w5 (⟨tn,htn,hk1,hk,rfl,hx,hu⟩ | ⟨hi,rfl,hu⟩)
  rotate_left
  ·exact⟨rfl,.inr ⟨by rw[Pars.run,named_no hi];rfl,rfl,HU.out.trans (UpdB.of_upd hu hBw)⟩⟩
  have hr:Pars.run (m+1) .param fn lp (left ts k)=some (.mk 10 0 tn.1.text [],left ts (k+1)):=by rw[Pars.run];exact named_at htn hk1
  obtain⟨nm,hnm⟩:∃q,tn.1.text=q:=⟨_,rfl⟩
  rw[hnm] at hr ⊢
  have HRR:=hid hr
  have hub:=UpdB.of_upd hu hBw
  replace OB:=bg OB hu
  replace KOF:=hid (KOF.out.upd hu hbB)
  replace HP:=hid (HP.out.upd hx hu (by omega))
  replace HU:=hid (HU.out.trans hub)
  replace hBw:=Nat.le_trans hBw hu.size
  clear hub
  replace PX:=bg PX hu
  clear hr htn hk1 hx hu hnm
  have HN1:Hid (NodeAt w5 (fun g=>B≤g∧g≠oa∧(Value.slice KA acc.length kc).ownBlock≠some g) (.mk 10 0 nm []) #[.int .i64 10,.int .i64 0,.string (byt nm),.slice none 0 0]):=hid (NodeAt.leaf _ _ 10 0 nm)
  go_wp2_with fail
  refine hK.out _ _ (.inr ⟨OB.out,PX.out⟩) (fun hHeld=> ?_)
  clear hK hHeld K
  (try simp only[Act.put,sq])
  refine tU (i:=4) (v:= ?_) rfl ?_ (.inr ⟨OB.out,PX.out⟩) ?_
  rotate_left
  ·intro w hSw
   go_simp
   try (with_reducible rfl)
  (try simp only[Act.put,sq])
  refine rdU 6 rfl fun K hK=> ?_
  go_simp
  have bxB:=Box.new w5 24 #[.int .i64 0,.int .i64 0,.string ⟨#[]⟩,.slice none 0 0]
  have hb:Below w5.heap.size w5 (w5.alloc (.cells #[.int .i64 0,.int .i64 0,.string ⟨#[]⟩,.slice none 0 0] 24)):=below1 w5 _
  obtain⟨wc,hwb⟩:∃wb,(w5.alloc (.cells #[.int .i64 0,.int .i64 0,.string ⟨#[]⟩,.slice none 0 0] 24))=wb:=⟨_,rfl⟩
  rw[hwb] at bxB hb
  rw[hwb]
  clear hwb
  have BXB:=hid bxB
  obtain⟨zb,hzb⟩:∃zb,w5.heap.size=zb:=⟨_,rfl⟩
  rw[hzb] at BXB ⊢
  have hzbB:B≤zb:=hzb ▸ hBw
  replace OB:=bl OB hb
  replace KOF:=hid (KOF.out.below hb)
  replace HP:=hid (HP.out.below hb)
  replace HN1:=hid (HN1.out.below hb)
  replace HU:=hid (HU.out.trans (UpdB.of_below hb hBw))
  replace hBw:=Nat.le_trans hBw hb.size
  replace PX:=bl PX hb
  refine hK.out _ _ (.inr ⟨OB.out,PX.out⟩) (fun hHeld=> ?_)
  clear hK hHeld K
  (try simp only[Act.put,sq])
  clear hb bxB hzb
 rotate_left
 focus
  go_simp
  have bxB:=Box.new wd 24 #[.int .i64 0,.int .i64 0,.string ⟨#[]⟩,.slice none 0 0]
  have hb:Below wd.heap.size wd (wd.alloc (.cells #[.int .i64 0,.int .i64 0,.string ⟨#[]⟩,.slice none 0 0] 24)):=below1 wd _
  obtain⟨w5,hwb⟩:∃wb,(wd.alloc (.cells #[.int .i64 0,.int .i64 0,.string ⟨#[]⟩,.slice none 0 0] 24))=wb:=⟨_,rfl⟩
  rw[hwb] at bxB hb
  rw[hwb]
  clear hwb
  have BXB:=hid bxB
  obtain⟨zb,hzb⟩:∃zb,wd.heap.size=zb:=⟨_,rfl⟩
  rw[hzb] at BXB ⊢
  have hzbB:B≤zb:=hzb ▸ hBw
  replace OB:=bl OB hb
  replace KOF:=hid (KOF.out.below hb)
  replace HP:=hid (HP.out.below hb)
  replace HU:=hid (HU.out.trans (UpdB.of_below hb hBw))
  replace hBw:=Nat.le_trans hBw hb.size
  replace PX:=bl PX hb
  refine hK.out _ _ (.inr ⟨OB.out,PX.out⟩) (fun hHeld=> ?_)
  clear hK hHeld K
  (try simp only[Act.put,sq])
  clear hb bxB hzb
  refine rdU 3 rfl fun K hK=> ?_
  go_simp
  refine (name_any _ b ts A c k fn lp HP.out).mono ?_
  rintro e wc (⟨tn,htn,hk1,hk,rfl,hx,hu⟩ | ⟨hi,rfl,hu⟩)
  rotate_left
  ·exact⟨rfl,.inr ⟨by rw[Pars.run,named_no hi];rfl,rfl,HU.out.trans (UpdB.of_upd hu hBw)⟩⟩
  have hr:Pars.run (m+1) .param fn lp (left ts k)=some (.mk 10 0 tn.1.text [],left ts (k+1)):=by rw[Pars.run];exact named_at htn hk1
  obtain⟨nm,hnm⟩:∃q,tn.1.text=q:=⟨_,rfl⟩
  rw[hnm] at hr ⊢
  have HRR:=hid hr
  have hub:=UpdB.of_upd hu hBw
  replace OB:=bg OB hu
  replace KOF:=hid (KOF.out.upd hu hbB)
  replace HP:=hid (HP.out.upd hx hu (by omega))
  replace BXB:=bg BXB hu
  replace HU:=hid (HU.out.trans hub)
  replace hBw:=Nat.le_trans hBw hu.size
  clear hub
  replace PX:=bg PX hu
  clear hr htn hk1 hx hu hnm
  have HN1:Hid (NodeAt wc (fun g=>B≤g∧g≠oa∧(Value.slice KA acc.length kc).ownBlock≠some g) (.mk 10 0 nm []) #[.int .i64 10,.int .i64 0,.string (byt nm),.slice none 0 0]):=hid (NodeAt.leaf _ _ 10 0 nm)
  go_wp2_with fail
  refine hK.out _ _ (.inr ⟨OB.out,PX.out⟩) (fun hHeld=> ?_)
  clear hK hHeld K
  (try simp only[Act.put,sq])
  refine tU (i:=4) (v:= ?_) rfl ?_ (.inr ⟨OB.out,PX.out⟩) ?_
  rotate_left
  ·intro w hSw
   go_simp
   try (with_reducible rfl)
  (try simp only[Act.put,sq])
 all_goals
  refine rdU 7 rfl fun K hK=> ?_
  obtain⟨css,hrow,hkn⟩:=KOF.out.row
  refine step_append_lies _ rfl (.tmp 3) (.tmp 8) 22 rfl B 24 i0 _ 4 56 Tryz.underlying22 hi0 hi1 hi2 hi3 rfl (by decide) (Value.slice KA acc.length kc) acc.length (flatA css) (by simp[Act.eval,Act.put]) hrow ⟨zb,0,none⟩ 1 1 [.int .i64 0,.int .i64 0,.string ⟨#[]⟩,.slice none 0 0] (by simp[Act.eval,Act.put]) rfl (by exact World.news_of_block BXB.out) zrow_one (by omega) (by unfold maxLen;omega) (by omega) hBw wc.heap.size rfl ?_
  intro g7 cap7 w7 hown7 hgr7 hor7 hlt7
  have hbB7:Below B wc w7:=below_grown hgr7 hBw (fun q hq=>(hrow.lt q hq).1)
  have hob:=OB.out.lt
  have KO7:=KOF.out.snoc (x:= .mk 0 0 [] []) (cs:= #[.int .i64 0,.int .i64 0,.string ⟨#[]⟩,.slice none 0 0]) css hrow hkn (NodeAt.leaf _ _ 0 0 []) hown7 hgr7 hor7 hob
  replace HN1:=hid (NodeAt.room HN1.out hgr7 hor7)
  have hoa7:g7≠oa:=by
   rcases hor7 with e | e
   ·intro e2;exact KOF.out.ne (by rw[e,e2])
   ·omega
  have hg7B:B≤g7:=by
   rcases hor7 with e | e
   ·exact (hrow.lt _ e).1
   ·omega
  replace OB:=hid (Box.grown OB.out hgr7 (fun e=>KOF.out.ne e.symm))
  replace HP:=hid (HP.out.belowB hbB7 hbB HA.out)
  replace HU:=hid (HU.out.trans (UpdB.of_below hbB7 (Nat.le_refl _)))
  replace hBw:=Nat.le_trans hBw hbB7.size
  replace KOF:=hid KO7
  refine hK.out _ _ (.inl rfl) (fun hHeld=> ?_)
  clear hK hHeld K
  (try simp only[Act.put,sq])
  clear hown7 hgr7 hor7 hlt7 hbB7 hrow hkn hob KO7
  have n1:(acc.length:Int)<((acc.length+1:Nat):Int):=by omega
  have n2:decide ((acc.length:Int)<((acc.length+1:Nat):Int))=true:=decide_eq_true n1
  have n3:acc.length<acc.length+1:=by omega
  refine tU (i:=8) (v:= .pointer (some ⟨g7,acc.length * 4,none⟩)) rfl ?_ (.inl rfl) ?_
  ·intro w hSw
   go_simp
   try (intro hx;exfalso;omega)
  (try simp only[Act.put,sq])
  clear n1 n2 n3
  refine tU (i:=10) (v:= ?_) rfl ?_ (.inl rfl) ?_
  rotate_left
  ·intro w hSw
   go_simp
   try (with_reducible rfl)
  (try simp only[Act.put,sq])
  refine wpAnyU_ready (rs:=[9,11]) (by kernel_rfl) (by simp) ?_
  refine AllReadyU.cons rfl (fun K hK=> ?_) (AllReadyU.cons rfl (fun K hK=> ?_) AllReadyU.nil)
  focus
   obtain⟨cur,hcur,hcl,hKO⟩:=KOF.out.last HN1.out
   have HKO:=hid hKO
   refine step_store_midbox rfl 24 (.tmp 10) (.tmp 6) rfl g7 (acc.length * 4) #[.int .i64 10,.int .i64 0,.string (byt nm),.slice none 0 0] (by simp[Act.eval,Act.put]) (by simp[Act.eval,Act.put]) cur 24 hcur hcl info_nod (nc_one _ _ _ rfl) ?_
   intro w8 hx8 hu8 hz8
   have hb8:Below B w7 w8:=hu8.own hg7B hBw
   replace OB:=hid (Box.grown OB.out hu8 (by intro h;injection h with h;exact hoa7 h.symm))
   have KOF:=hid (HKO.out w8 hx8 hu8)
   replace HP:=hid (HP.out.belowB hb8 hbB HA.out)
   replace HU:=hid (HU.out.trans (UpdB.of_below hb8 (Nat.le_refl _)))
   replace hBw:=Nat.le_trans hBw hb8.size
   refine hK.out _ _ (.inl rfl) (fun hHeld=> ?_)
   clear hK hHeld K
   (try simp only[Act.put,sq])
   clear hx8 hu8 hz8 hb8 hcur hcl hKO HKO
   refine rdU 11 rfl fun K hK=> ?_
   have c3:=OB.out.cell 3
   have f3:w8.frozen? ⟨oa,3,none⟩=false:=OB.out.frozen 3
   simp[nc] at c3
   go_simp
   have hu9:Upd w8 (w8.setCell ⟨oa,3,none⟩ (Value.slice (some ⟨g7,0,none⟩) (acc.length+1) cap7)) oa:=(Upd.refl _ _).set (.inl rfl) _
   have OB9:=OB.out.set 3 (Value.slice (some ⟨g7,0,none⟩) (acc.length+1) cap7)
   obtain⟨wz,hwz⟩:∃wz,(w8.setCell ⟨oa,3,none⟩ (Value.slice (some ⟨g7,0,none⟩) (acc.length+1) cap7))=wz:=⟨_,rfl⟩
   rw[hwz] at hu9 OB9
   rw[hwz]
   clear hwz
   replace OB9:Box wz oa 24 (nc kd nu tx (Value.slice (some ⟨g7,0,none⟩) (acc.length+1) cap7)):=by simpa [nc] using OB9
   replace OB:=hid OB9
   replace KOF:=hid (KOF.out.self hu9)
   have hb9:Below B w8 wz:=hu9.own hoB hBw
   replace HP:=hid (HP.out.belowB hb9 hbB HA.out)
   replace HU:=hid (HU.out.trans (UpdB.of_below hb9 (Nat.le_refl _)))
   replace hBw:=Nat.le_trans hBw hb9.size
   refine hK.out _ _ (.inl rfl) (fun hHeld=> ?_)
   clear hK hHeld K
   (try simp only[Act.put,sq])
   clear hu9 OB9 hb9 c3 f3
  rotate_left
  focus
   have c3:=OB.out.cell 3
   have f3:w7.frozen? ⟨oa,3,none⟩=false:=OB.out.frozen 3
   simp[nc] at c3
   go_simp
   have hu9:Upd w7 (w7.setCell ⟨oa,3,none⟩ (Value.slice (some ⟨g7,0,none⟩) (acc.length+1) cap7)) oa:=(Upd.refl _ _).set (.inl rfl) _
   have OB9:=OB.out.set 3 (Value.slice (some ⟨g7,0,none⟩) (acc.length+1) cap7)
   obtain⟨w8,hwz⟩:∃wz,(w7.setCell ⟨oa,3,none⟩ (Value.slice (some ⟨g7,0,none⟩) (acc.length+1) cap7))=wz:=⟨_,rfl⟩
   rw[hwz] at hu9 OB9
   rw[hwz]
   clear hwz
   replace OB9:Box w8 oa 24 (nc kd nu tx (Value.slice (some ⟨g7,0,none⟩) (acc.length+1) cap7)):=by simpa [nc] using OB9
   replace OB:=hid OB9
   replace KOF:=hid (KOF.out.self hu9)
   replace HN1:=hid (HN1.out.upd hu9 (fun q hq=>hq.2.1))
   have hb9:Below B w7 w8:=hu9.own hoB hBw
   replace HP:=hid (HP.out.belowB hb9 hbB HA.out)
   replace HU:=hid (HU.out.trans (UpdB.of_below hb9 (Nat.le_refl _)))
   replace hBw:=Nat.le_trans hBw hb9.size
   refine hK.out _ _ (.inl rfl) (fun hHeld=> ?_)
   clear hK hHeld K
   (try simp only[Act.put,sq])
   clear hu9 OB9 hb9 c3 f3
   refine rdU 9 rfl fun K hK=> ?_
   obtain⟨cur,hcur,hcl,hKO⟩:=KOF.out.last HN1.out
   have HKO:=hid hKO
   refine step_store_midbox rfl 24 (.tmp 10) (.tmp 6) rfl g7 (acc.length * 4) #[.int .i64 10,.int .i64 0,.string (byt nm),.slice none 0 0] (by simp[Act.eval,Act.put]) (by simp[Act.eval,Act.put]) cur 24 hcur hcl info_nod (nc_one _ _ _ rfl) ?_
   intro wz hx8 hu8 hz8
   have hb8:Below B w8 wz:=hu8.own hg7B hBw
   replace OB:=hid (Box.grown OB.out hu8 (by intro h;injection h with h;exact hoa7 h.symm))
   have KOF:=hid (HKO.out wz hx8 hu8)
   replace HP:=hid (HP.out.belowB hb8 hbB HA.out)
   replace HU:=hid (HU.out.trans (UpdB.of_below hb8 (Nat.le_refl _)))
   replace hBw:=Nat.le_trans hBw hb8.size
   refine hK.out _ _ (.inl rfl) (fun hHeld=> ?_)
   clear hK hHeld K
   (try simp only[Act.put,sq])
   clear hx8 hu8 hz8 hb8 hcur hcl hKO HKO
  all_goals
   refine wpAnyU_done (by kernel_rfl) ?_ _
   go_wp2
   go_end0
   exact .inl ⟨acc++[.mk 10 0 nm []],k+1,(Value.slice (some ⟨g7,0,none⟩) (acc.length+1) cap7),by rw[HRR.out];rfl,by omega,by omega,by simp only[ln];omega,rfl,OB.out,KOF.out,HP.out.box,HU.out⟩
end Go.Proofs.YtflmjbmdmoifhaaGreatDoor
namespace Go.Proofs.YtflmjbmdmoifhaaGreatDoor
open Go.Lib (hid)
open Go.RowKit
set_option maxRecDepth 100000 in
set_option maxHeartbeats 4000000 in
theorem one_pair {m:Nat} (h:∀q,q<m→All q) (B b oa pb:Nat) (ts:List KT) (A:Option Addr) (c:Nat) (fn lp:Bool) (kd nu:Int) (tx:List UInt8) (hbB:b<B) (hpB:pb<B) (hpb:pb≠b) (hoB:B≤oa) (hA:0<ts.length→∀g o,A=some ⟨g,o,none⟩→g<B):
  One m .pair 136 #[.pointer (some ⟨pb,0,none⟩),.pointer (some ⟨oa,0,none⟩)] B b oa pb ts A c fn lp kd nu tx:=by
 intro w k acc kv hP hpx hox hko hBw hal hm
 obtain⟨i0,hi0,hi1,hi2,hi3⟩:=info_parts parts_nod
 have HA:=hid hA
 have HP:=hid hP
 have PX:=hid hpx
 have hkl:=hP.kle
 have hlen:=hP.len
 have HR:Hid ((Pars.run m .pair fn lp (left ts k)).map (fun y=>(acc++[y.1],y.2))=_):=hid rfl
 have HU:=hid (UpdB.refl B w b)
 have hbl:=hP.box.lt
 obtain⟨KA,kc,rfl⟩:∃KA kc,kv= .slice KA acc.length kc:=by
  obtain⟨css,h1,_⟩:=hko.row
  obtain⟨KA,kc,e,_⟩:=Rd.own h1
  exact⟨KA,kc,e⟩
 have OB:=hid hox
 have KOF:=hid hko
 clear hA hP hpx hox hko
 go_enter Tryz.func136,Tryz.ntmps136
 obtain⟨m,rfl⟩:∃q,m=q+1:=⟨m - 1,by omega⟩
 have hm':=h m (Nat.lt_succ_self m)
 have hobl:=OB.out.lt
 have px:=PX.out.cell 0
 simp at px
 go_wp2_with fail
 clear px
 refine (name_any _ b ts A c k fn lp HP.out).mono ?_
 rintro e w1 (⟨tn,htn,hk1,hk,rfl,hx,hu⟩ | ⟨hi,rfl,hu⟩)
 rotate_left
 ·exact⟨rfl,.inr ⟨by rw[Pars.run,named_no hi];rfl,rfl,HU.out.trans (UpdB.of_upd hu hBw)⟩⟩
 have HR:Hid (Pars.run (m+1) .pair fn lp (left ts k)=_):=hid (by rw[Pars.run,named_at htn hk1])
 obtain⟨nm,hnm⟩:∃q,tn.1.text=q:=⟨_,rfl⟩
 rw[hnm] at HR ⊢
 have hub:=UpdB.of_upd hu hBw
 replace OB:=bg OB hu
 replace KOF:=hid (KOF.out.upd hu hbB)
 replace HP:=hid (HP.out.upd hx hu (by omega))
 replace HU:=hid (HU.out.trans hub)
 replace hBw:=Nat.le_trans hBw hu.size
 clear hub
 replace PX:=bg PX hu
 clear htn hk1 hx hu hnm
 have hle1:=HP.out.kle
 have KO1:=KOF
 clear KOF
 go_upto_region 1 with (refine wpList_store_box rfl 24 (.tmp 2) (.tmp 5) rfl w1.heap.size #[.int .i64 8,.int .i64 0,.string (byt nm),.slice none 0 0] rfl rfl 24 _ (Box.new w1 _ _) info_nod rfl (nc_one _ _ _ rfl) ?_;intro w2 hx hv hz;have HZO:=hid hz;clear hz)
 have hb:Below w1.heap.size w1 w2:=((Below.refl _ w1).alloc (Nat.le_refl _) _).trans (hv.own (Nat.le_refl _) (by simp))
 have NB:=hid hx
 obtain⟨nb,hnb⟩:∃nb,w1.heap.size=nb:=⟨_,rfl⟩
 have KN:Hid ((Value.slice KA acc.length kc).ownBlock≠some nb):=hid (fun e=>by obtain⟨_,ho,_⟩:=KO1.out.row;have:=(ho.lt _ e).2;omega)
 have hnbo:oa<nb:=by have:=OB.out.lt;omega
 have hnbB:B≤nb:=by omega
 replace OB:=bl OB hb
 replace HP:=hid (HP.out.below hb)
 replace HU:=hid (HU.out.trans (UpdB.of_below hb hBw))
 replace hBw:=Nat.le_trans hBw hb.size
 have HU1:Hid (UpdB nb w1 w2 b):=hid (UpdB.of_below hb (by omega))
 replace PX:=bl PX hb
 clear hx hv hb
 have hnb1:=hid hnb
 rw[hnb] at NB ⊢
 clear hnb HZO
 have px:=PX.out.cell 0
 simp at px
 have hnl:=NB.out.lt
 go_wp2_with fail
 clear px
 refine (must_any [58] _ b ts A c (k+1) fn lp HP.out).mono ?_
 rintro e w3 (⟨hi,hk,rfl,hx,hu⟩ | ⟨hi,rfl,hu⟩)
 rotate_left
 ·exact⟨rfl,.inr ⟨by rw[HR.out,Pars.must_no hi];rfl,rfl,HU.out.trans (UpdB.of_upd hu hBw)⟩⟩
 replace HR:=hid (HR.out.trans (Pars.must_some hi))
 have hub:=UpdB.of_upd hu hBw
 replace OB:=bg OB hu
 replace HP:=hid (HP.out.upd hx hu (by omega))
 replace NB:=bg NB hu
 replace HU:=hid (HU.out.trans hub)
 replace hBw:=Nat.le_trans hBw hu.size
 clear hub
 replace HU1:=hid (HU1.out.trans (UpdB.of_upd hu (Nat.le_of_lt hnl)))
 replace PX:=bg PX hu
 clear hi hx hu
 have hle2:=HP.out.kle
 replace hnl:=NB.out.lt
 have px:=PX.out.cell 0
 simp at px
 go_wp2_with fail
 clear px
 refine (hm'.expr HP.out (by omega)).mono ?_
 rintro e wx (⟨x1,k1,cs1,hr,hk1,hk2,rfl,hn,hx,hu⟩ | ⟨hr,rfl,hu⟩)
 rotate_left
 ·exact⟨rfl,.inr ⟨by rw[HR.out,Pars.and_no hr];rfl,rfl,HU.out.trans (UpdB.of_upd hu hBw)⟩⟩
 have hlt1:=got_lt hr rfl
 replace HR:=hid (HR.out.trans (Pars.and_some hr))
 have hrl:=KO1.out.row
 have hz1:=HU1.out.size
 have HN1:Hid (NodeAt wx (fun g=>B≤g∧g≠oa∧(Value.slice KA acc.length kc).ownBlock≠some g∧g≠nb) x1 cs1):=hid (hn.weak (fun g hg=>⟨by omega,by have:=OB.out.lt;omega,fun e=>by obtain⟨_,ho,_⟩:=hrl;have:=(ho.lt g e).2;omega,by omega⟩))
 clear hrl
 have hub:=UpdB.of_upd hu hBw
 replace OB:=bg OB hu
 replace HP:=hid (HP.out.upd hx hu (by omega))
 replace NB:=bg NB hu
 replace HU:=hid (HU.out.trans hub)
 replace hBw:=Nat.le_trans hBw hu.size
 clear hub
 replace HU1:=hid (HU1.out.trans (UpdB.of_upd hu (Nat.le_of_lt hnl)))
 replace PX:=bg PX hu
 clear hr hn hx hu
 have hleX:=HP.out.kle
 obtain⟨v1,hlit,hvo⟩:=NodeAt.lit HN1.out
 rw[hlit] at HN1 ⊢
 have HVO1:=hid hvo
 clear hlit hvo
 have hnX:=NB.out.lt
 have hne:nb≠wx.heap.size:=by omega
 have hne2:wx.heap.size≠nb:=fun e=>hne e.symm
 have f3:(wx.alloc (.cells #[.int .i64 x1.kind,.int .i64 x1.num,.string (byt x1.text),v1] 24)).frozen? ⟨nb,3,none⟩=false:=(NB.out.alloc _).frozen 3
 have c3:=(NB.out.alloc (.cells #[.int .i64 x1.kind,.int .i64 x1.num,.string (byt x1.text),v1] 24)).cell 3
 simp at c3
 go_upto_region 3 with fail
 clear f3 c3
 have bxB:=Box.new wx 24 #[.int .i64 x1.kind,.int .i64 x1.num,.string (byt x1.text),v1]
 have hb1:Below wx.heap.size wx (wx.alloc (.cells #[.int .i64 x1.kind,.int .i64 x1.num,.string (byt x1.text),v1] 24)):=below1 wx _
 have hu1:Upd (wx.alloc (.cells #[.int .i64 x1.kind,.int .i64 x1.num,.string (byt x1.text),v1] 24)) ((wx.alloc (.cells #[.int .i64 x1.kind,.int .i64 x1.num,.string (byt x1.text),v1] 24)).setCell ⟨nb,3,none⟩ (.slice (some ⟨wx.heap.size,0,none⟩) 1 1)) nb:=(Upd.refl _ _).set (.inl rfl) _
 have NB8:=(NB.out.alloc (.cells #[.int .i64 x1.kind,.int .i64 x1.num,.string (byt x1.text),v1] 24)).set 3 (.slice (some ⟨wx.heap.size,0,none⟩) 1 1)
 simp at NB8
 obtain⟨wy,hwy⟩:∃wy,((wx.alloc (.cells #[.int .i64 x1.kind,.int .i64 x1.num,.string (byt x1.text),v1] 24)).setCell ⟨nb,3,none⟩ (.slice (some ⟨wx.heap.size,0,none⟩) 1 1))=wy:=⟨_,rfl⟩
 rw[hwy] at hu1 NB8
 rw[World.setCell_alloc_past _ _ _ _ hnX] at hwy
 rw[hwy]
 clear hwy
 have hrl:=KO1.out.row
 have hob:=OB.out.lt
 have hz2:=HU1.out.size
 have hBX:=Nat.le_trans hBw hb1.size
 have hsz1:=hb1.size
 have HNB:Hid (wx.heap.size≠oa∧B≤wx.heap.size∧(Value.slice KA acc.length kc).ownBlock≠some wx.heap.size):=hid ⟨by omega,hBw,fun e=>by obtain⟨_,ho,_⟩:=hrl;have:=(ho.lt _ e).2;omega⟩
 have HKN:Hid ((Value.slice KA acc.length kc).ownBlock≠some nb):=hid (fun e=>KN.out e)
 have BXB:=Box.grown bxB hu1 (by intro h;injection h with h;omega)
 have HNX:Hid (NodeAt wy (fun g=>B≤g∧g≠oa∧(Value.slice KA acc.length kc).ownBlock≠some g∧g≠nb) x1 #[.int .i64 x1.kind,.int .i64 x1.num,.string (byt x1.text),v1]):=hid ((HN1.out.below hb1).upd hu1 (fun g hg=>hg.2.2.2))
 replace OB:=hid (Box.grown (OB.out.below hb1 OB.out.lt) hu1 (by intro h;injection h with h;omega))
 replace PX:=hid (Box.grown (PX.out.below hb1 PX.out.lt) hu1 (by intro h;injection h with h;omega))
 replace HU1:=hid ((HU1.out.trans (UpdB.of_below hb1 (Nat.le_of_lt hnX))).trans (UpdB.of_far hu1 (Nat.le_refl _) (by omega)))
 have KOF:=hid (KO1.out.updB (by rw[hnb1.out];exact HU1.out) hbB)
 clear KO1 HU1
 have hb2:Below B wx wy:=(hb1.mono hBw).trans (hu1.own hnbB hBX)
 replace HP:=hid (HP.out.belowB hb2 hbB HA.out)
 replace HU:=hid (HU.out.trans (UpdB.of_below hb2 (Nat.le_refl _)))
 replace hBw:=Nat.le_trans hBw hb2.size
 replace NB:=hid NB8
 have HN2:Hid (NodeAt wy (fun g=>B≤g∧g≠oa∧(Value.slice KA acc.length kc).ownBlock≠some g) (.mk 8 0 nm [x1]) #[.int .i64 8,.int .i64 0,.string (byt nm),(.slice (some ⟨wx.heap.size,0,none⟩) 1 1)]):=hid (NodeAt.build (css:=[#[.int .i64 x1.kind,.int .i64 x1.num,.string (byt x1.text),v1]]) 8 0 nm BXB ⟨HNB.out.2.1,HNB.out.1,HNB.out.2.2⟩ ⟨HNX.out.weak (fun g hg=>⟨hg.1,hg.2.1,hg.2.2.1⟩),trivial⟩)
 clear hb1 hu1 NB8 hb2 bxB BXB HNX HN1 hrl HNB HKN KN
 have HRR:=hid HR.out
 obtain⟨vv,hvv⟩:∃vv,(Value.slice (some ⟨wx.heap.size,0,none⟩) 1 1)=vv:=⟨_,rfl⟩
 have HVV:Hid (vv.oneCell'=true):=hid (by rw[←hvv];rfl)
 rw[hvv] at HN2 NB ⊢
 clear hvv
 refine wp_region_until 5 (fun w'=>Box w' oa 24 (nc kd nu tx (Value.slice KA acc.length kc))∧Box w' nb 24 #[.int .i64 8,.int .i64 0,.string (byt nm),vv]) (by kernel_rfl) ⟨OB.out.drew,NB.out.drew⟩ (fun hHeld=> ?_)
 obtain⟨wd,hwd⟩:∃wd,wy.drew=wd:=⟨_,rfl⟩
 have hb:Below wy.heap.size wy wd:=hwd ▸ (Below.refl _ wy).drew
 (try rw[hwd] at hHeld)
 (try rw[hwd])
 clear hwd hHeld
 replace OB:=bl OB hb
 replace KOF:=hid (KOF.out.below hb)
 replace HP:=hid (HP.out.below hb)
 replace HN2:=hid (HN2.out.below hb)
 replace NB:=bl NB hb
 replace HU:=hid (HU.out.trans (UpdB.of_below hb hBw))
 replace hBw:=Nat.le_trans hBw hb.size
 clear hb
 refine tU (i:=0) (v:= ?_) rfl ?_ (.inr ⟨OB.out,NB.out⟩) ?_
 rotate_left
 ·intro w hSw
  go_simp
  try (with_reducible rfl)
 (try simp only[Act.put,sq])
 refine tV (i:=1) (v:=(Value.slice KA acc.length kc)) rfl ?_ ⟨OB.out,NB.out⟩ ?_
 ·intro w hSw
  have c3:=hSw.1.cell 3
  simp[nc] at c3
  go_simp
 (try simp only[Act.put,sq])
 refine tU (i:=3) (v:= ?_) rfl ?_ (.inr ⟨OB.out,NB.out⟩) ?_
 rotate_left
 ·intro w hSw
  go_simp
  try (with_reducible rfl)
 (try simp only[Act.put,sq])
 refine wpAnyU_take (i:=2) (v:= .agg #[.int .i64 8,.int .i64 0,.string (byt nm),vv]) rfl (by kernel_rfl) (by kernel_rfl) (by kernel_rfl) (by kernel_rfl) (by kernel_rfl) (fun _ _ _ h=>h) (yields_load_box (by kernel_rfl) 24 (.tmp 2) rfl nb 24 #[.int .i64 8,.int .i64 0,.string (byt nm),vv] _ rfl (fun _ h=>h.2) Tryz.underlying24 rfl info_nod) ⟨OB.out,NB.out⟩ ?_
 (try simp only[Act.put,sq])
 refine rdU 4 rfl fun K hK=> ?_
 go_simp
 have bxB:=Box.new wd 24 #[.int .i64 0,.int .i64 0,.string ⟨#[]⟩,.slice none 0 0]
 have hb:Below wd.heap.size wd (wd.alloc (.cells #[.int .i64 0,.int .i64 0,.string ⟨#[]⟩,.slice none 0 0] 24)):=below1 wd _
 obtain⟨wb,hwb⟩:∃wb,(wd.alloc (.cells #[.int .i64 0,.int .i64 0,.string ⟨#[]⟩,.slice none 0 0] 24))=wb:=⟨_,rfl⟩
 rw[hwb] at bxB hb
 rw[hwb]
 clear hwb
 have BXB:=hid bxB
 obtain⟨zb,hzb⟩:∃zb,wd.heap.size=zb:=⟨_,rfl⟩
 rw[hzb] at BXB ⊢
 have hzbB:B≤zb:=hzb ▸ hBw
 replace OB:=bl OB hb
 replace KOF:=hid (KOF.out.below hb)
 replace HP:=hid (HP.out.below hb)
 replace HN2:=hid (HN2.out.below hb)
 replace NB:=bl NB hb
 replace HU:=hid (HU.out.trans (UpdB.of_below hb hBw))
 replace hBw:=Nat.le_trans hBw hb.size
 refine hK.out _ _ (.inr ⟨OB.out,NB.out⟩) (fun hHeld=> ?_)
 clear hK hHeld K
 (try simp only[Act.put,sq])
 clear hb bxB hzb
 refine rdU 5 rfl fun K hK=> ?_
 obtain⟨css,hrow,hkn⟩:=KOF.out.row
 refine step_append_lies _ rfl (.tmp 13) (.tmp 16) 22 rfl B 24 i0 _ 4 56 Tryz.underlying22 hi0 hi1 hi2 hi3 rfl (by decide) (Value.slice KA acc.length kc) acc.length (flatA css) (by simp[Act.eval,Act.put]) hrow ⟨zb,0,none⟩ 1 1 [.int .i64 0,.int .i64 0,.string ⟨#[]⟩,.slice none 0 0] (by simp[Act.eval,Act.put]) rfl (by exact World.news_of_block BXB.out) zrow_one (by omega) (by unfold maxLen;omega) (by omega) hBw wb.heap.size rfl ?_
 intro g7 cap7 w7 hown7 hgr7 hor7 hlt7
 have hbB7:Below B wb w7:=below_grown hgr7 hBw (fun q hq=>(hrow.lt q hq).1)
 have hob:=OB.out.lt
 have KO7:=KOF.out.snoc (x:= .mk 0 0 [] []) (cs:= #[.int .i64 0,.int .i64 0,.string ⟨#[]⟩,.slice none 0 0]) css hrow hkn (NodeAt.leaf _ _ 0 0 []) hown7 hgr7 hor7 hob
 replace HN2:=hid (NodeAt.room HN2.out hgr7 hor7)
 have hoa7:g7≠oa:=by
  rcases hor7 with e | e
  ·intro e2;exact KOF.out.ne (by rw[e,e2])
  ·omega
 have hg7B:B≤g7:=by
  rcases hor7 with e | e
  ·exact (hrow.lt _ e).1
  ·omega
 replace OB:=hid (Box.grown OB.out hgr7 (fun e=>KOF.out.ne e.symm))
 replace HP:=hid (HP.out.belowB hbB7 hbB HA.out)
 replace HU:=hid (HU.out.trans (UpdB.of_below hbB7 (Nat.le_refl _)))
 replace hBw:=Nat.le_trans hBw hbB7.size
 replace KOF:=hid KO7
 refine hK.out _ _ (.inl rfl) (fun hHeld=> ?_)
 clear hK hHeld K
 (try simp only[Act.put,sq])
 clear hown7 hgr7 hor7 hlt7 hbB7 hrow hkn hob KO7
 have n1:(acc.length:Int)<((acc.length+1:Nat):Int):=by omega
 have n2:decide ((acc.length:Int)<((acc.length+1:Nat):Int))=true:=decide_eq_true n1
 have n3:acc.length<acc.length+1:=by omega
 refine tU (i:=6) (v:= .pointer (some ⟨g7,acc.length * 4,none⟩)) rfl ?_ (.inl rfl) ?_
 ·intro w hSw
  go_simp
  try (intro hx;exfalso;omega)
 (try simp only[Act.put,sq])
 clear n1 n2 n3
 refine tU (i:=8) (v:= ?_) rfl ?_ (.inl rfl) ?_
 rotate_left
 ·intro w hSw
  go_simp
  try (with_reducible rfl)
 (try simp only[Act.put,sq])
 refine wpAnyU_ready (rs:=[7,9]) (by kernel_rfl) (by simp) ?_
 refine AllReadyU.cons rfl (fun K hK=> ?_) (AllReadyU.cons rfl (fun K hK=> ?_) AllReadyU.nil)
 focus
  obtain⟨cur,hcur,hcl,hKO⟩:=KOF.out.last HN2.out
  have HKO:=hid hKO
  refine step_store_midbox rfl 24 (.tmp 18) (.tmp 14) rfl g7 (acc.length * 4) #[.int .i64 8,.int .i64 0,.string (byt nm),vv] (by simp[Act.eval,Act.put]) (by simp[Act.eval,Act.put]) cur 24 hcur hcl info_nod (nc_one _ _ _ HVV.out) ?_
  intro w8 hx8 hu8 hz8
  have hb8:Below B w7 w8:=hu8.own hg7B hBw
  replace OB:=hid (Box.grown OB.out hu8 (by intro h;injection h with h;exact hoa7 h.symm))
  have KOF:=hid (HKO.out w8 hx8 hu8)
  replace HP:=hid (HP.out.belowB hb8 hbB HA.out)
  replace HU:=hid (HU.out.trans (UpdB.of_below hb8 (Nat.le_refl _)))
  replace hBw:=Nat.le_trans hBw hb8.size
  refine hK.out _ _ (.inl rfl) (fun hHeld=> ?_)
  clear hK hHeld K
  (try simp only[Act.put,sq])
  clear hx8 hu8 hz8 hb8 hcur hcl hKO HKO
  refine rdU 9 rfl fun K hK=> ?_
  have c3:=OB.out.cell 3
  have f3:w8.frozen? ⟨oa,3,none⟩=false:=OB.out.frozen 3
  simp[nc] at c3
  go_simp
  have hu9:Upd w8 (w8.setCell ⟨oa,3,none⟩ (Value.slice (some ⟨g7,0,none⟩) (acc.length+1) cap7)) oa:=(Upd.refl _ _).set (.inl rfl) _
  have OB9:=OB.out.set 3 (Value.slice (some ⟨g7,0,none⟩) (acc.length+1) cap7)
  obtain⟨wz,hwz⟩:∃wz,(w8.setCell ⟨oa,3,none⟩ (Value.slice (some ⟨g7,0,none⟩) (acc.length+1) cap7))=wz:=⟨_,rfl⟩
  rw[hwz] at hu9 OB9
  rw[hwz]
  clear hwz
  replace OB9:Box wz oa 24 (nc kd nu tx (Value.slice (some ⟨g7,0,none⟩) (acc.length+1) cap7)):=by simpa [nc] using OB9
  replace OB:=hid OB9
  replace KOF:=hid (KOF.out.self hu9)
  have hb9:Below B w8 wz:=hu9.own hoB hBw
  replace HP:=hid (HP.out.belowB hb9 hbB HA.out)
  replace HU:=hid (HU.out.trans (UpdB.of_below hb9 (Nat.le_refl _)))
  replace hBw:=Nat.le_trans hBw hb9.size
  refine hK.out _ _ (.inl rfl) (fun hHeld=> ?_)
  clear hK hHeld K
  (try simp only[Act.put,sq])
  clear hu9 OB9 hb9 c3 f3
 rotate_left
 focus
  have c3:=OB.out.cell 3
  have f3:w7.frozen? ⟨oa,3,none⟩=false:=OB.out.frozen 3
  simp[nc] at c3
  go_simp
  have hu9:Upd w7 (w7.setCell ⟨oa,3,none⟩ (Value.slice (some ⟨g7,0,none⟩) (acc.length+1) cap7)) oa:=(Upd.refl _ _).set (.inl rfl) _
  have OB9:=OB.out.set 3 (Value.slice (some ⟨g7,0,none⟩) (acc.length+1) cap7)
  obtain⟨w8,hwz⟩:∃wz,(w7.setCell ⟨oa,3,none⟩ (Value.slice (some ⟨g7,0,none⟩) (acc.length+1) cap7))=wz:=⟨_,rfl⟩
  rw[hwz] at hu9 OB9
  rw[hwz]
  clear hwz
  replace OB9:Box w8 oa 24 (nc kd nu tx (Value.slice (some ⟨g7,0,none⟩) (acc.length+1) cap7)):=by simpa [nc] using OB9
  replace OB:=hid OB9
  replace KOF:=hid (KOF.out.self hu9)
  replace HN2:=hid (HN2.out.upd hu9 (fun q hq=>hq.2.1))
  have hb9:Below B w7 w8:=hu9.own hoB hBw
  replace HP:=hid (HP.out.belowB hb9 hbB HA.out)
  replace HU:=hid (HU.out.trans (UpdB.of_below hb9 (Nat.le_refl _)))
  replace hBw:=Nat.le_trans hBw hb9.size
  refine hK.out _ _ (.inl rfl) (fun hHeld=> ?_)
  clear hK hHeld K
  (try simp only[Act.put,sq])
  clear hu9 OB9 hb9 c3 f3
  refine rdU 7 rfl fun K hK=> ?_
  obtain⟨cur,hcur,hcl,hKO⟩:=KOF.out.last HN2.out
  have HKO:=hid hKO
  refine step_store_midbox rfl 24 (.tmp 18) (.tmp 14) rfl g7 (acc.length * 4) #[.int .i64 8,.int .i64 0,.string (byt nm),vv] (by simp[Act.eval,Act.put]) (by simp[Act.eval,Act.put]) cur 24 hcur hcl info_nod (nc_one _ _ _ HVV.out) ?_
  intro wz hx8 hu8 hz8
  have hb8:Below B w8 wz:=hu8.own hg7B hBw
  replace OB:=hid (Box.grown OB.out hu8 (by intro h;injection h with h;exact hoa7 h.symm))
  have KOF:=hid (HKO.out wz hx8 hu8)
  replace HP:=hid (HP.out.belowB hb8 hbB HA.out)
  replace HU:=hid (HU.out.trans (UpdB.of_below hb8 (Nat.le_refl _)))
  replace hBw:=Nat.le_trans hBw hb8.size
  refine hK.out _ _ (.inl rfl) (fun hHeld=> ?_)
  clear hK hHeld K
  (try simp only[Act.put,sq])
  clear hx8 hu8 hz8 hb8 hcur hcl hKO HKO
 all_goals
  refine wpAnyU_done (by kernel_rfl) ?_ _
  go_wp2
  go_end0
  exact .inl ⟨acc++[.mk 8 0 nm [x1]],k1,(Value.slice (some ⟨g7,0,none⟩) (acc.length+1) cap7),by rw[HRR.out];rfl,by omega,by omega,by simp only[ln];omega,rfl,OB.out,KOF.out,HP.out.box,HU.out⟩
end Go.Proofs.YtflmjbmdmoifhaaGreatDoor
namespace Go.Proofs.YtflmjbmdmoifhaaGreatDoor
open Go.Lib (hid)
open Go.RowKit
theorem some_no {r:Pars.R} {f:Pars.Node×List Lexy.Tk→List Pars.Node×List Lexy.Tk} (h:r.map f=none):r=none:=by
 cases r with
 | none=>rfl
 | some _=>cases h
theorem some_yes {r:Pars.R} {pre l:List Pars.Node} {t:List Lexy.Tk} (h:r.map (fun y=>(pre++y.1.kids,y.2))=some (l,t)):∃y:Pars.Node,r=some (y,t)∧l=pre++y.kids:=by
 cases r with
 | none=>cases h
 | some y=>
  obtain⟨y,t'⟩:=y
  injection h with h
  injection h with h1 h2
  exact⟨y,by rw[←h2],h1.symm⟩
theorem kv_slice {w:World} {B oa:Nat} {l:List Pars.Node} {v:Value} (h:KO w B oa l v):∃KA kc,v= .slice KA l.length kc:=by
 obtain⟨css,h1,_⟩:=h.row
 obtain⟨KA,kc,e,_⟩:=Rd.own h1
 exact⟨KA,kc,e⟩
theorem eg_fn:∀args w,(callFunc 105 args).run Tryz.prog w= .ok (.enter 105 args) w:=Go.Proofs.enters_of Tryz.func105 (by kernel_rfl) rfl
theorem eg_un:∀args w,(callFunc 132 args).run Tryz.prog w= .ok (.enter 132 args) w:=Go.Proofs.enters_of Tryz.func132 (by kernel_rfl) rfl
theorem eg_l:∀args w,(callFunc 135 args).run Tryz.prog w= .ok (.enter 135 args) w:=Go.Proofs.enters_of Tryz.func135 (by kernel_rfl) rfl
theorem eg_r:∀args w,(callFunc 136 args).run Tryz.prog w= .ok (.enter 136 args) w:=Go.Proofs.enters_of Tryz.func136 (by kernel_rfl) rfl
set_option maxRecDepth 100000 in
set_option maxHeartbeats 4000000 in
theorem func_step {n:Nat} (hall:∀m,m≤n→All m):∀(nm:List UInt8),∀{w:World} {b:Nat} {ts:List KT} {A:Option Addr} {c k:Nat} {fn lp:Bool},PSt w b ts A c k fn lp→20 * (ts.length - k)+1<n+1→Calls Tryz.prog 78 #[.pointer (some ⟨b,0,none⟩),.string (byt nm)] w (Got w b ts A c k fn lp (Pars.run (n+1) (.function nm) fn lp (left ts k))):=by
 have h:=hall n (Nat.le_refl _)
 intro nm w b ts A c k fn lp hP hm
 have HR:Hid (Pars.run (n+1) (.function nm) fn lp (left ts k)=_):=hid (by rw[Pars.run])
 have hbl:=hP.box.lt
 have hle:=hP.kle
 go_enter Tryz.func78,Tryz.ntmps78
 go_upto_region 1 with fail
 refine gen_world (F:=fun W=>Box W w.heap.size 106 #[.pointer (some ⟨b,0,none⟩)]∧Box W (w.heap.size+1) 24 #[.int .i64 0,.int .i64 0,.string ⟨#[]⟩,.slice none 0 0]∧Below w.heap.size w W) ⟨(Box.new w _ _).alloc _,new2 w _ _ _,(below1 w _).alloc (by simp) _⟩ ?_
 rintro W0 ⟨p0,r0,hU⟩
 obtain⟨i0,hi0,hi1,hi2,hi3⟩:=info_parts parts_nod
 have hlen:=hP.len
 obtain⟨pb,hpbe⟩:∃q,w.heap.size=q:=⟨_,rfl⟩
 obtain⟨B,hBe⟩:∃q,W0.heap.size=q:=⟨_,rfl⟩
 have hpb:pb≠b:=by omega
 have hrb:pb+1≠b:=by omega
 have hrB:pb+1<B:=by have:=r0.lt;omega
 have hpB:pb<B:=by omega
 have hbB:b<B:=by omega
 have hwB:w.heap.size≤B:=by omega
 have hpw:w.heap.size=pb:=hpbe
 have HPB:=hid hpbe
 have HBE:=hid hBe
 rw[hpbe] at p0 r0 ⊢
 clear hpbe hpw
 have PX:=hid p0
 have RB:=hid r0
 have HP:=hid (hP.below hU)
 have HA:Hid (0<ts.length→∀g o,A=some ⟨g,o,none⟩→g<B):=hid (hBe ▸ HP.out.old)
 have HW:Hid (Upd w W0 b):=hid (Upd.below hU b)
 have HU:Hid (UpdB B W0 W0 b):=hid (UpdB.refl _ _ _)
 have hBw:B≤W0.heap.size:=Nat.le_of_eq hBe.symm
 clear p0 r0 hU hP hBe
 go_upto_region 2 with (refine wpList_store_box rfl 24 (.tmp 5) (.tmp 7) rfl W0.heap.size #[.int .i64 9,.int .i64 0,.string (byt nm),.slice none 0 0] rfl rfl 24 _ (Box.new W0 _ _) info_nod rfl (nc_one _ _ _ rfl) ?_;intro w1 hx hv hz;have HZO:=hid hz;clear hz)
 have hb:Below W0.heap.size W0 w1:=((Below.refl _ W0).alloc (Nat.le_refl _) _).trans (hv.own (Nat.le_refl _) (by simp))
 have OB:Hid (Box w1 W0.heap.size 24 (nc 9 0 nm (.slice none 0 0))):=hid hx
 have hoB:B≤W0.heap.size:=hBw
 replace PX:=bl PX hb
 replace RB:=bl RB hb
 replace HP:=hid (HP.out.below hb)
 replace HU:=hid (HU.out.trans (UpdB.of_below hb hBw))
 replace hBw:=Nat.le_trans hBw hb.size
 have KOF:=hid (KO.nil w1 B W0.heap.size)
 clear hx hv hb HZO
 obtain⟨oa,hoa⟩:∃oa,W0.heap.size=oa:=⟨_,rfl⟩
 rw[hoa] at OB KOF hoB ⊢
 clear hoa
 (try simp only[Act.put])
 have px:=PX.out.cell 0
 simp at px
 go_wp2_with fail
 clear px
 refine (must_any [40] _ b ts A c (k) fn lp HP.out).mono ?_
 rintro e w2 (⟨hi,hk,rfl,hx,hu⟩ | ⟨hi,rfl,hu⟩)
 rotate_left
 ·exact⟨rfl,.inr ⟨HR.out.trans (Pars.must_no hi),rfl,HW.out.updB (HU.out.trans (UpdB.of_upd hu hBw)) hwB⟩⟩
 replace HR:=hid (HR.out.trans (Pars.must_some hi))
 have hub:=UpdB.of_upd hu hBw
 replace OB:=bg OB hu
 replace KOF:=hid (KOF.out.upd hu hbB)
 replace PX:=bg PX hu
 replace RB:=bg RB hu
 replace HP:=hid (HP.out.upd hx hu (by omega))
 replace HU:=hid (HU.out.trans hub)
 replace hBw:=Nat.le_trans hBw hu.size
 clear hub
 clear hi hx hu
 have hle1:=HP.out.kle
 have px:=PX.out.cell 0
 simp at px
 go_wp2_with fail
 clear px
 refine (some_any [41] .param rfl 105 #[.pointer (some ⟨oa,0,none⟩),.pointer (some ⟨pb,0,none⟩)] eg_fn n B b oa pb ts A c fn lp 9 0 nm (fun q hq=>one_param (hall q (by omega)) B b oa pb ts A c fn lp 9 0 nm hbB hpB hpb hoB HA.out) hbB hpB hpb hoB HA.out _ (k+1) _ [] (by simp) HP.out PX.out OB.out KOF.out hBw (by omega)).mono ?_
 rintro e w3 (⟨ll,k1,kvs,hr,hk1,hkl1,hll,rfl,hox,hko,hx,hu⟩ | ⟨hr,rfl,hu⟩)
 rotate_left
 ·exact⟨rfl,.inr ⟨HR.out.trans (Pars.and_no (some_no hr)),rfl,HW.out.updB (HU.out.trans hu) hwB⟩⟩
 obtain⟨ys,hy,rfl⟩:=some_yes hr
 replace HR:=hid (HR.out.trans (Pars.and_some hy))
 replace HP:=hid (HP.out.updB hx hu hkl1 HA.out)
 replace PX:=hid (PX.out.updB hu hpB hpb)
 replace RB:=hid (RB.out.updB hu hrB hrb)
 replace HU:=hid (HU.out.trans hu)
 replace hBw:=Nat.le_trans hBw hu.size
 replace OB:=hid hox
 replace KOF:=hid hko
 clear hr hy hox hko hx hu
 obtain⟨acc,hacc⟩:∃q,ys.kids=q:=⟨_,rfl⟩
 rw[List.nil_append] at hll
 rw[List.nil_append] at KOF
 rw[hacc] at HR KOF hll
 obtain⟨KA,kc,rfl⟩:=kv_slice KOF.out
 clear hacc
 go_upto_region 4 with fail
 refine wp_region_until 6 (fun w'=>Box w' oa 24 (nc 9 0 nm (Value.slice KA acc.length kc))∧Box w' pb 106 #[.pointer (some ⟨b,0,none⟩)]) (by kernel_rfl) ⟨OB.out.drew,PX.out.drew⟩ (fun hHeld=> ?_)
 obtain⟨wd,hwd⟩:∃wd,w3.drew=wd:=⟨_,rfl⟩
 have hb:Below w3.heap.size w3 wd:=hwd ▸ (Below.refl _ w3).drew
 (try rw[hwd] at hHeld)
 (try rw[hwd])
 clear hwd hHeld
 replace OB:=bl OB hb
 replace KOF:=hid (KOF.out.below hb)
 replace HP:=hid (HP.out.below hb)
 replace HU:=hid (HU.out.trans (UpdB.of_below hb hBw))
 replace hBw:=Nat.le_trans hBw hb.size
 replace PX:=bl PX hb
 replace RB:=bl RB hb
 clear hb
 refine tU (i:=0) (v:= ?_) rfl ?_ (.inr ⟨OB.out,PX.out⟩) ?_
 rotate_left
 ·intro w hSw
  go_simp
  try (with_reducible rfl)
 (try simp only[Act.put,sq])
 refine tV (i:=1) (v:=(Value.slice KA acc.length kc)) rfl ?_ ⟨OB.out,PX.out⟩ ?_
 ·intro w hSw
  have c3:=hSw.1.cell 3
  simp[nc] at c3
  go_simp
 (try simp only[Act.put,sq])
 refine tV (i:=2) (v:= .pointer (some ⟨b,0,none⟩)) rfl ?_ ⟨OB.out,PX.out⟩ ?_
 ·intro w hSw
  have c3:=hSw.2.cell 0
  simp at c3
  go_simp
 (try simp only[Act.put,sq])
 refine tU (i:=4) (v:= ?_) rfl ?_ (.inr ⟨OB.out,PX.out⟩) ?_
 rotate_left
 ·intro w hSw
  go_simp
  try (with_reducible rfl)
 (try simp only[Act.put,sq])
 refine wpAnyU_ready (rs:=[3,5]) (by kernel_rfl) (by simp) ?_
 refine AllReadyU.cons rfl (fun K hK=> ?_) (AllReadyU.cons rfl (fun K hK=> ?_) AllReadyU.nil)
 focus
  go_simp
  refine (h.body true HP.out (by omega)).mono ?_
  rintro e w5 (⟨x1,k2,cs1,hr,hk1,hk2,rfl,hn,hx,hu⟩ | ⟨hr,rfl,hu⟩)
  rotate_left
  ·exact⟨rfl,.inr ⟨HR.out.trans (Pars.and_no hr),rfl,HW.out.updB (HU.out.trans (UpdB.of_upd hu hBw)) hwB⟩⟩
  have hlt1:=got_lt hr rfl
  replace HR:=hid (HR.out.trans (Pars.and_some hr))
  have hrl:=KOF.out.row
  have HN1:Hid (NodeAt w5 (fun g=>B≤g∧g≠oa∧(Value.slice KA acc.length kc).ownBlock≠some g) x1 cs1):=hid (hn.weak (fun g hg=>⟨by omega,by have:=OB.out.lt;omega,fun e=>by obtain⟨_,ho,_⟩:=hrl;have:=(ho.lt g e).2;omega⟩))
  clear hrl
  have hub:=UpdB.of_upd hu hBw
  replace OB:=bg OB hu
  replace KOF:=hid (KOF.out.upd hu hbB)
  replace PX:=bg PX hu
  replace RB:=bg RB hu
  replace HP:=hid (HP.out.upd hx hu (by omega))
  replace HU:=hid (HU.out.trans hub)
  replace hBw:=Nat.le_trans hBw hu.size
  clear hub
  clear hr hn hx hu
  obtain⟨v1,hlit,hvo⟩:=NodeAt.lit HN1.out
  rw[hlit] at HN1 ⊢
  have HVO1:=hid hvo
  clear hlit hvo
  go_wp2_with fail
  refine hK.out _ _ (.inr ⟨OB.out,PX.out⟩) (fun hHeld=> ?_)
  clear hK hHeld K
  (try simp only[Act.put,sq])
  refine rdU 5 rfl fun K hK=> ?_
  go_simp
  have bxB:=Box.new w5 24 #[.int .i64 0,.int .i64 0,.string ⟨#[]⟩,.slice none 0 0]
  have hb:Below w5.heap.size w5 (w5.alloc (.cells #[.int .i64 0,.int .i64 0,.string ⟨#[]⟩,.slice none 0 0] 24)):=below1 w5 _
  obtain⟨wc,hwb⟩:∃wb,(w5.alloc (.cells #[.int .i64 0,.int .i64 0,.string ⟨#[]⟩,.slice none 0 0] 24))=wb:=⟨_,rfl⟩
  rw[hwb] at bxB hb
  rw[hwb]
  clear hwb
  have BXB:=hid bxB
  obtain⟨zb,hzb⟩:∃zb,w5.heap.size=zb:=⟨_,rfl⟩
  rw[hzb] at BXB ⊢
  have hzbB:B≤zb:=hzb ▸ hBw
  replace OB:=bl OB hb
  replace KOF:=hid (KOF.out.below hb)
  replace HP:=hid (HP.out.below hb)
  replace HN1:=hid (HN1.out.below hb)
  replace HU:=hid (HU.out.trans (UpdB.of_below hb hBw))
  replace hBw:=Nat.le_trans hBw hb.size
  replace PX:=bl PX hb
  replace RB:=bl RB hb
  refine hK.out _ _ (.inr ⟨OB.out,PX.out⟩) (fun hHeld=> ?_)
  clear hK hHeld K
  (try simp only[Act.put,sq])
  clear hb bxB hzb
 rotate_left
 focus
  go_simp
  have bxB:=Box.new wd 24 #[.int .i64 0,.int .i64 0,.string ⟨#[]⟩,.slice none 0 0]
  have hb:Below wd.heap.size wd (wd.alloc (.cells #[.int .i64 0,.int .i64 0,.string ⟨#[]⟩,.slice none 0 0] 24)):=below1 wd _
  obtain⟨w5,hwb⟩:∃wb,(wd.alloc (.cells #[.int .i64 0,.int .i64 0,.string ⟨#[]⟩,.slice none 0 0] 24))=wb:=⟨_,rfl⟩
  rw[hwb] at bxB hb
  rw[hwb]
  clear hwb
  have BXB:=hid bxB
  obtain⟨zb,hzb⟩:∃zb,wd.heap.size=zb:=⟨_,rfl⟩
  rw[hzb] at BXB ⊢
  have hzbB:B≤zb:=hzb ▸ hBw
  replace OB:=bl OB hb
  replace KOF:=hid (KOF.out.below hb)
  replace HP:=hid (HP.out.below hb)
  replace HU:=hid (HU.out.trans (UpdB.of_below hb hBw))
  replace hBw:=Nat.le_trans hBw hb.size
  replace PX:=bl PX hb
  replace RB:=bl RB hb
  refine hK.out _ _ (.inr ⟨OB.out,PX.out⟩) (fun hHeld=> ?_)
  clear hK hHeld K
  (try simp only[Act.put,sq])
  clear hb bxB hzb
  refine rdU 3 rfl fun K hK=> ?_
  go_simp
  refine (h.body true HP.out (by omega)).mono ?_
  rintro e wc (⟨x1,k2,cs1,hr,hk1,hk2,rfl,hn,hx,hu⟩ | ⟨hr,rfl,hu⟩)
  rotate_left
  ·exact⟨rfl,.inr ⟨HR.out.trans (Pars.and_no hr),rfl,HW.out.updB (HU.out.trans (UpdB.of_upd hu hBw)) hwB⟩⟩
  have hlt1:=got_lt hr rfl
  replace HR:=hid (HR.out.trans (Pars.and_some hr))
  have hrl:=KOF.out.row
  have HN1:Hid (NodeAt wc (fun g=>B≤g∧g≠oa∧(Value.slice KA acc.length kc).ownBlock≠some g) x1 cs1):=hid (hn.weak (fun g hg=>⟨by omega,by have:=OB.out.lt;omega,fun e=>by obtain⟨_,ho,_⟩:=hrl;have:=(ho.lt g e).2;omega⟩))
  clear hrl
  have hub:=UpdB.of_upd hu hBw
  replace OB:=bg OB hu
  replace KOF:=hid (KOF.out.upd hu hbB)
  replace PX:=bg PX hu
  replace RB:=bg RB hu
  replace BXB:=bg BXB hu
  replace HP:=hid (HP.out.upd hx hu (by omega))
  replace HU:=hid (HU.out.trans hub)
  replace hBw:=Nat.le_trans hBw hu.size
  clear hub
  clear hr hn hx hu
  obtain⟨v1,hlit,hvo⟩:=NodeAt.lit HN1.out
  rw[hlit] at HN1 ⊢
  have HVO1:=hid hvo
  clear hlit hvo
  go_wp2_with fail
  refine hK.out _ _ (.inr ⟨OB.out,PX.out⟩) (fun hHeld=> ?_)
  clear hK hHeld K
  (try simp only[Act.put,sq])
 all_goals
  refine rdU 6 rfl fun K hK=> ?_
  obtain⟨css,hrow,hkn⟩:=KOF.out.row
  refine step_append_lies _ rfl (.tmp 14) (.tmp 18) 22 rfl B 24 i0 _ 4 56 Tryz.underlying22 hi0 hi1 hi2 hi3 rfl (by decide) (Value.slice KA acc.length kc) acc.length (flatA css) (by simp[Act.eval,Act.put]) hrow ⟨zb,0,none⟩ 1 1 [.int .i64 0,.int .i64 0,.string ⟨#[]⟩,.slice none 0 0] (by simp[Act.eval,Act.put]) rfl (by exact World.news_of_block BXB.out) zrow_one (by omega) (by unfold maxLen;omega) (by omega) hBw wc.heap.size rfl ?_
  intro g7 cap7 w7 hown7 hgr7 hor7 hlt7
  have hbB7:Below B wc w7:=below_grown hgr7 hBw (fun q hq=>(hrow.lt q hq).1)
  replace RB:=hid ((hbB7.block _ hrB).trans RB.out)
  have hob:=OB.out.lt
  have KO7:=KOF.out.snoc (x:= .mk 0 0 [] []) (cs:= #[.int .i64 0,.int .i64 0,.string ⟨#[]⟩,.slice none 0 0]) css hrow hkn (NodeAt.leaf _ _ 0 0 []) hown7 hgr7 hor7 hob
  replace HN1:=hid (NodeAt.room HN1.out hgr7 hor7)
  have hoa7:g7≠oa:=by
   rcases hor7 with e | e
   ·intro e2;exact KOF.out.ne (by rw[e,e2])
   ·omega
  have hg7B:B≤g7:=by
   rcases hor7 with e | e
   ·exact (hrow.lt _ e).1
   ·omega
  replace OB:=hid (Box.grown OB.out hgr7 (fun e=>KOF.out.ne e.symm))
  replace HP:=hid (HP.out.belowB hbB7 hbB HA.out)
  replace HU:=hid (HU.out.trans (UpdB.of_below hbB7 (Nat.le_refl _)))
  replace hBw:=Nat.le_trans hBw hbB7.size
  replace KOF:=hid KO7
  refine hK.out _ _ (.inl rfl) (fun hHeld=> ?_)
  clear hK hHeld K
  (try simp only[Act.put,sq])
  clear hown7 hgr7 hor7 hlt7 hbB7 hrow hkn hob KO7
  have n1:(acc.length:Int)<((acc.length+1:Nat):Int):=by omega
  have n2:decide ((acc.length:Int)<((acc.length+1:Nat):Int))=true:=decide_eq_true n1
  have n3:acc.length<acc.length+1:=by omega
  refine tU (i:=7) (v:= .pointer (some ⟨g7,acc.length * 4,none⟩)) rfl ?_ (.inl rfl) ?_
  ·intro w hSw
   go_simp
   try (intro hx;exfalso;omega)
  (try simp only[Act.put,sq])
  clear n1 n2 n3
  refine tU (i:=9) (v:= ?_) rfl ?_ (.inl rfl) ?_
  rotate_left
  ·intro w hSw
   go_simp
   try (with_reducible rfl)
  (try simp only[Act.put,sq])
  refine wpAnyU_ready (rs:=[8,10]) (by kernel_rfl) (by simp) ?_
  refine AllReadyU.cons rfl (fun K hK=> ?_) (AllReadyU.cons rfl (fun K hK=> ?_) AllReadyU.nil)
  focus
   obtain⟨cur,hcur,hcl,hKO⟩:=KOF.out.last HN1.out
   have HKO:=hid hKO
   refine step_store_midbox rfl 24 (.tmp 20) (.tmp 16) rfl g7 (acc.length * 4) #[.int .i64 x1.kind,.int .i64 x1.num,.string (byt x1.text),v1] (by simp[Act.eval,Act.put]) (by simp[Act.eval,Act.put]) cur 24 hcur hcl info_nod (nc_one _ _ _ HVO1.out) ?_
   intro w8 hx8 hu8 hz8
   have hb8:Below B w7 w8:=hu8.own hg7B hBw
   replace RB:=hid ((hb8.block _ hrB).trans RB.out)
   replace OB:=hid (Box.grown OB.out hu8 (by intro h;injection h with h;exact hoa7 h.symm))
   have KOF:=hid (HKO.out w8 hx8 hu8)
   replace HP:=hid (HP.out.belowB hb8 hbB HA.out)
   replace HU:=hid (HU.out.trans (UpdB.of_below hb8 (Nat.le_refl _)))
   replace hBw:=Nat.le_trans hBw hb8.size
   refine hK.out _ _ (.inl rfl) (fun hHeld=> ?_)
   clear hK hHeld K
   (try simp only[Act.put,sq])
   clear hx8 hu8 hz8 hb8 hcur hcl hKO HKO
   refine rdU 10 rfl fun K hK=> ?_
   have c3:=OB.out.cell 3
   have f3:w8.frozen? ⟨oa,3,none⟩=false:=OB.out.frozen 3
   simp[nc] at c3
   go_simp
   have hu9:Upd w8 (w8.setCell ⟨oa,3,none⟩ (Value.slice (some ⟨g7,0,none⟩) (acc.length+1) cap7)) oa:=(Upd.refl _ _).set (.inl rfl) _
   have OB9:=OB.out.set 3 (Value.slice (some ⟨g7,0,none⟩) (acc.length+1) cap7)
   obtain⟨wz,hwz⟩:∃wz,(w8.setCell ⟨oa,3,none⟩ (Value.slice (some ⟨g7,0,none⟩) (acc.length+1) cap7))=wz:=⟨_,rfl⟩
   rw[hwz] at hu9 OB9
   rw[hwz]
   clear hwz
   replace OB9:Box wz oa 24 (nc 9 0 nm (Value.slice (some ⟨g7,0,none⟩) (acc.length+1) cap7)):=by simpa [nc] using OB9
   replace OB:=hid OB9
   replace KOF:=hid (KOF.out.self hu9)
   have hb9:Below B w8 wz:=hu9.own hoB hBw
   replace RB:=hid ((hb9.block _ hrB).trans RB.out)
   replace HP:=hid (HP.out.belowB hb9 hbB HA.out)
   replace HU:=hid (HU.out.trans (UpdB.of_below hb9 (Nat.le_refl _)))
   replace hBw:=Nat.le_trans hBw hb9.size
   refine hK.out _ _ (.inl rfl) (fun hHeld=> ?_)
   clear hK hHeld K
   (try simp only[Act.put,sq])
   clear hu9 OB9 hb9 c3 f3
  rotate_left
  focus
   have c3:=OB.out.cell 3
   have f3:w7.frozen? ⟨oa,3,none⟩=false:=OB.out.frozen 3
   simp[nc] at c3
   go_simp
   have hu9:Upd w7 (w7.setCell ⟨oa,3,none⟩ (Value.slice (some ⟨g7,0,none⟩) (acc.length+1) cap7)) oa:=(Upd.refl _ _).set (.inl rfl) _
   have OB9:=OB.out.set 3 (Value.slice (some ⟨g7,0,none⟩) (acc.length+1) cap7)
   obtain⟨w8,hwz⟩:∃wz,(w7.setCell ⟨oa,3,none⟩ (Value.slice (some ⟨g7,0,none⟩) (acc.length+1) cap7))=wz:=⟨_,rfl⟩
   rw[hwz] at hu9 OB9
   rw[hwz]
   clear hwz
   replace OB9:Box w8 oa 24 (nc 9 0 nm (Value.slice (some ⟨g7,0,none⟩) (acc.length+1) cap7)):=by simpa [nc] using OB9
   replace OB:=hid OB9
   replace KOF:=hid (KOF.out.self hu9)
   replace HN1:=hid (HN1.out.upd hu9 (fun q hq=>hq.2.1))
   have hb9:Below B w7 w8:=hu9.own hoB hBw
   replace RB:=hid ((hb9.block _ hrB).trans RB.out)
   replace HP:=hid (HP.out.belowB hb9 hbB HA.out)
   replace HU:=hid (HU.out.trans (UpdB.of_below hb9 (Nat.le_refl _)))
   replace hBw:=Nat.le_trans hBw hb9.size
   refine hK.out _ _ (.inl rfl) (fun hHeld=> ?_)
   clear hK hHeld K
   (try simp only[Act.put,sq])
   clear hu9 OB9 hb9 c3 f3
   refine rdU 8 rfl fun K hK=> ?_
   obtain⟨cur,hcur,hcl,hKO⟩:=KOF.out.last HN1.out
   have HKO:=hid hKO
   refine step_store_midbox rfl 24 (.tmp 20) (.tmp 16) rfl g7 (acc.length * 4) #[.int .i64 x1.kind,.int .i64 x1.num,.string (byt x1.text),v1] (by simp[Act.eval,Act.put]) (by simp[Act.eval,Act.put]) cur 24 hcur hcl info_nod (nc_one _ _ _ HVO1.out) ?_
   intro wz hx8 hu8 hz8
   have hb8:Below B w8 wz:=hu8.own hg7B hBw
   replace RB:=hid ((hb8.block _ hrB).trans RB.out)
   replace OB:=hid (Box.grown OB.out hu8 (by intro h;injection h with h;exact hoa7 h.symm))
   have KOF:=hid (HKO.out wz hx8 hu8)
   replace HP:=hid (HP.out.belowB hb8 hbB HA.out)
   replace HU:=hid (HU.out.trans (UpdB.of_below hb8 (Nat.le_refl _)))
   replace hBw:=Nat.le_trans hBw hb8.size
   refine hK.out _ _ (.inl rfl) (fun hHeld=> ?_)
   clear hK hHeld K
   (try simp only[Act.put,sq])
   clear hx8 hu8 hz8 hb8 hcur hcl hKO HKO
  all_goals
   refine wpAnyU_done (by kernel_rfl) ?_ _
   have hle9:=HP.out.kle
   have ob:=OB.out
   go_wp2_with (first | (refine wpList_load_row rfl 24 (.tmp 5) rfl (oa) rfl _ (nc 9 0 nm (Value.slice (some ⟨g7,0,none⟩) (acc.length+1) cap7)) (0,0) _ ob Tryz.underlying24 rfl info_nod ?_) | (refine wpList_store_box rfl 24 (.tmp 4) (.tmp 22) rfl (pb+1) (nc 9 0 nm (Value.slice (some ⟨g7,0,none⟩) (acc.length+1) cap7)) rfl rfl 24 _ RB.out info_nod rfl (nc_own _ _ _ KOF.out) ?_;intro wy hxz huz hzz;have HZZ:=hid hzz;clear hzz))
   refine bodyPost_ret (results_box rfl _ _ (pb+1) 24 _ _ rfl hxz Tryz.underlying24 rfl info_nod) rfl ?_
   exact .inl ⟨.mk 9 0 nm (acc++[x1]),k2,_,HR.out,by omega,HP.out.kle,rfl,((KOF.out.node 9 0 nm).upd huz (fun g hg=>by have:=hg.1;omega)).weak (fun g hg=>by have:=hg.1;omega),Box.grown HP.out.box huz (by intro h;injection h with h;omega),Upd.fresh (HW.out.updB HU.out hwB) huz (by have:=HPB.out;omega)⟩
end Go.Proofs.YtflmjbmdmoifhaaGreatDoor

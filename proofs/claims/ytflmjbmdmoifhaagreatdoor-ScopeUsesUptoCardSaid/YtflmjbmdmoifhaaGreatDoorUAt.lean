/-
  Texts that the law leans on: PwY, PwZ, PlD, PlE, PlR, PxA, PxC0, PxG. Conditions: as each says.
-/
import Derived.Test.YtflmjbmdmoifhaaGreatDoorUAs
import Derived.Test.YtflmjbmdmoifhaaGreatDoorUAb
import Derived.Test.YtflmjbmdmoifhaaGreatDoorUAc
import Derived.Lib.ItoaLen
import Derived.Test.YtflmjbmdmoifhaaGreatDoorUAp
import Derived.Test.YtflmjbmdmoifhaaGreatDoorUAo
import Derived.Test.YtflmjbmdmoifhaaGreatDoorUAa
set_option linter.unusedSimpArgs false
set_option linter.unusedVariables false
namespace Go.Proofs.YtflmjbmdmoifhaaGreatDoor
open Go.Lib (hid)
open Go.RowKit
theorem kidr {w:World} {B:Nat} {l:List Pars.Node} {css:List (Array Value)} {g0 o0 i:Nat} {x:Pars.Node} (hk:NodesAt w (fun g=>g<B) l css) (hrow:0<l.length→∃g o,(some ⟨g0,o0,none⟩:Option Addr)=some ⟨g,o,none⟩∧g<B∧g<w.heap.size∧w.rangeAt g o (flatA css)) (hx:l[i]? =some x):
  ∃a b c d,NodeAt w (fun g=>g<B) x #[a,b,c,d]∧∀W,Below B w W→W.rangeAt g0 (o0+i * 4) [a,b,c,d]:=by
 obtain⟨xc,g,o,h1,_,h3,h4,h5⟩:=kid_at hk hrow hx
 injection h1 with h1
 injection h1 with e1 e2
 subst e1 e2
 obtain⟨a,b,c,d,rfl⟩:=four h3
 exact⟨a,b,c,d,h4,h5⟩
theorem rank_lt (n:Pars.Node): -2≤Wri.rank n∧Wri.rank n≤8:=by
 have hro:∀(t:List UInt8) (ls:List (List (List UInt8))) (i:Nat), -2≤Wri.rankOf i ls t∧(Wri.rankOf i ls t≤8∨Wri.rankOf i ls t<i+ls.length):=by
  intro t ls
  induction ls with
  | nil=>intro i;simp[Wri.rankOf]
  | cons r l ih=>
   intro i
   unfold Wri.rankOf
   split
   ·simp;omega
   ·have:=ih (i+1);simp only[List.length_cons];omega
 unfold Wri.rank
 have:=hro n.text Pars.ranks 0
 have hl:Pars.ranks.length=6:=rfl
 repeat' split
 all_goals omega
theorem wr_exb (k nu:Int) (t:List UInt8) (l:List Pars.Node) (x0 x1:Pars.Node) (hk:k=17∨k=16∨k=15) (h0:l[0]? =some x0) (h1:l[1]? =some x1):Wri.wr (.mk k nu t l) .ex=Wri.wr x0 (.at (Wri.rank (.mk k nu t l)))++([32]++Wri.sgn k t++[32])++Wri.wr x1 (.at (Wri.rank (.mk k nu t l)+1)):=by
 show Wri.wEx k nu t (Wri.wrs l)=_
 unfold Wri.wEx
 rw[if_neg (by omega),if_neg (by omega),if_pos hk,wrs_kid h0,wrs_kid h1]
 rfl
set_option maxRecDepth 100000 in
set_option maxHeartbeats 4000000 in
theorem exb_w {N:Nat} (IH:Wall N):∀(k:Int) (hk:k=17∨k=16∨k=15) {nu:Int} {t:List UInt8} {kl:List Pars.Node} {cs:Array Value} {w:World} {B wb:Nat} {l:List UInt8},Wri.wg (.mk k nu t kl)≤N+1→Wri.wg (.mk k nu t kl)≤1048576→Ri (.mk k nu t kl)→NodeAt w (fun g=>g<B) (.mk k nu t kl) cs→Wt B wb l w→B≤w.heap.size→7≤B→EnvW w→l.length+(Wri.wr (.mk k nu t kl) .ex).length≤70368744177664→Calls Tryz.prog 106 #[.pointer (some ⟨wb,0,none⟩),.agg cs] w (WOut B wb l (Wri.wr (.mk k nu t kl) .ex) w):=by
 intro k hk nu t kl cs w B wb l hN hM hR hn hW hBw h7 he hl
 have hn0:=hn
 unfold NodeAt at hn
 obtain⟨A,cap,css,rfl,hc1,hc2,hrow,hk⟩:=hn
 have HROW:=hid hrow
 have HK:=hid hk
 have HN:=hid hn0
 have HE:=hid he
 have hwlt:=hW.lt
 have hll:=Wri.wgs_len kl
 clear hrow hk hn0 he
 have HKK:=hid hk
 have hlen:kl.length=2:=(ri_len hR).1 (by omega)
 obtain⟨x0,hx0⟩:∃x,kl[0]? =some x:=⟨_,List.getElem?_eq_getElem (by omega)⟩
 obtain⟨x1,hx1⟩:∃x,kl[1]? =some x:=⟨_,List.getElem?_eq_getElem (by omega)⟩
 obtain⟨g0,o0,rfl,hg0,_,_⟩:=HROW.out (by omega)
 obtain⟨b0,c0,d0,hn0,hc0⟩:=kid4 HK.out HROW.out hx0
 have HN0:=hid hn0
 have HC0:=hid hc0
 have HX0:=hid hx0
 have HR0:=hid (ri_kid hR x0 (List.mem_of_getElem? hx0))
 have hxw0:=Wri.wg_mem (List.mem_of_getElem? hx0)
 have HW0:Hid (Wri.wg x0≤N∧Wri.wg x0≤1048576):=hid (by simp only[Wri.wg] at hN hM;exact⟨by omega,by omega⟩)
 clear hn0 hc0 hx0 hxw0
 obtain⟨b1,c1,d1,hn1,hc1⟩:=kid4 HK.out HROW.out hx1
 have HN1:=hid hn1
 have HC1:=hid hc1
 have HX1:=hid hx1
 have HR1:=hid (ri_kid hR x1 (List.mem_of_getElem? hx1))
 have hxw1:=Wri.wg_mem (List.mem_of_getElem? hx1)
 have HW1:Hid (Wri.wg x1≤N∧Wri.wg x1≤1048576):=hid (by simp only[Wri.wg] at hN hM;exact⟨by omega,by omega⟩)
 clear hn1 hc1 hx1 hxw1
 obtain⟨p0,p1,p2,p3,hm0,hr0⟩:=kidr HK.out HROW.out HX0.out
 obtain⟨q0,q1,q2,q3,hm1,hr1⟩:=kidr HK.out HROW.out HX1.out
 have HM0:=hid hm0
 have HM1:=hid hm1
 have HG0:Hid (∀W,Below B w W→W.rangeAt g0 o0 [p0,p1,p2,p3]):=hid (by simpa using hr0)
 have HG1:Hid (∀W,Below B w W→W.rangeAt g0 (o0+4) [q0,q1,q2,q3]):=hid (by simpa using hr1)
 clear hm0 hm1 hr0 hr1
 rw[wr_exb k nu t kl x0 x1 hk HX0.out HX1.out] at hl
 have HWR:=hid (wr_exb k nu t kl x0 x1 hk HX0.out HX1.out)
 have hqb:=rank_lt (.mk k nu t kl)
 have hrk:=rank_any k nu t kl (some ⟨g0,o0,none⟩) 2 cap
 have hsg:=sign_any k nu t (some ⟨g0,o0,none⟩) 2 cap
 obtain⟨q,hq⟩:∃q,Wri.rank (.mk k nu t kl)=q:=⟨_,rfl⟩
 obtain⟨sg,hsge⟩:∃s,Wri.sgn k t=s:=⟨_,rfl⟩
 rw[hq,hsge] at hl HWR
 rw[hq] at hqb hrk
 rw[hsge] at hsg
 obtain⟨wx,hwx⟩:∃s,Wri.wr (.mk k nu t kl) .ex=s:=⟨_,rfl⟩
 rw[hwx] at HWR ⊢
 obtain⟨cy,hcy⟩:∃q,(nc k nu t (.slice (some ⟨g0,o0,none⟩) 2 cap))=q:=⟨_,rfl⟩
 have HC0:Hid (cy[0]? =some (.int .i64 k)):=hid (by rw[←hcy];rfl)
 have HC3:Hid (cy[3]? =some (.slice (some ⟨g0,o0,none⟩) 2 cap)):=hid (by rw[←hcy];rfl)
 have HINF:Hid ((Tryz.prog.info? 24).map (·.size)=some cy.size):=hid (by rw[←hcy];exact info_nod)
 have hlen2:kl.length=2:=hlen
 rw[hlen2] at HN ⊢
 rw[hcy] at hrk hsg ⊢
 have HRK:=hid hrk
 have HSGN:=hid hsg
 clear hq hsge hrk hsg hwx hcy hlen2
 have hts:(byt sg).size≤70368744177664:=by rw[byt_size];simp only[ln] at hl;omega
 have hcc:¬9223372036854775807<1+(byt sg).size:=by omega
 have hcc2:¬9223372036854775807<1+(byt sg).size+1:=by omega
 have hg1:(⟨#[32]⟩:ByteArray).size=1:=rfl
 have HPC:Hid ((⟨#[32]⟩++byt sg++⟨#[32]⟩:ByteArray)=byt ([32]++sg++[32])):=hid (by rw[show (⟨#[32]⟩:ByteArray)=byt [32] from rfl,byt_append,byt_append])
 have HINL:Hid (∀a b c d:Value,(Tryz.prog.info? 24).map (·.size)=some [a,b,c,d].length):=hid (fun a b c d=>info_nod)
 go_enter Tryz.func106,Tryz.ntmps106
 go_upto_region 1 with fail
 refine gen_world (F:=fun W=>Box W w.heap.size 24 cy∧Below w.heap.size w W) ⟨Box.new w _ _,below1 w _⟩ ?_
 rintro W0 ⟨b0,hU⟩
 have NB:=hid b0
 have WT:=hid (hW.below hU)
 have HU:Hid (Below B w W0):=hid (hU.mono hBw)
 have HS:Hid (Stays wb w W0):=hid (Stays.below hU)
 have hB0:B≤W0.heap.size:=Nat.le_trans hBw hU.size
 have hnw:w.heap.size≠wb:=by omega
 have hbx:=Nat.lt_of_lt_of_le b0.lt (Nat.le_refl _)
 clear b0 hU
 have HNENB:=hid hnw
 have c0:=NB.out.cell 0
 rw[HC0.out] at c0
 rcases hk with rfl | rfl | rfl
 all_goals
  go_upto_region 16 with fail
  clear c0
  refine wp_region_held_drew (S:=fun w'=>Box w' w.heap.size 24 cy∧Below B w w') (by kernel_rfl) ⟨NB.out.drew,HU.out.drew⟩ (fun hHeld=> ?_)
  obtain⟨wd,hwd⟩:∃wd,W0.drew=wd:=⟨_,rfl⟩
  have hdr:Below W0.heap.size W0 wd:=hwd ▸ (Below.refl _ W0).drew
  (try rw[hwd] at hHeld)
  (try rw[hwd])
  clear hwd hHeld
  replace WT:=hid (WT.out.below hdr)
  replace NB:=bl NB hdr
  replace HU:=hid (HU.out.trans (hdr.mono hB0))
  replace HS:=hid (HS.out.trans (Stays.below hdr))
  replace hB0:=Nat.le_trans hB0 hdr.size
  clear hdr
  refine tH (i:=0) (v:= ?_) rfl ?_ ⟨NB.out,HU.out⟩ ?_
  rotate_left
  ·intro w hSw
   go_simp
   try (with_reducible rfl)
  (try simp only[Act.put,sq])
  refine tH (i:=1) (v:= ?_) rfl ?_ ⟨NB.out,HU.out⟩ ?_
  rotate_left
  ·intro w hSw
   go_simp
   try (with_reducible rfl)
  (try simp only[Act.put,sq])
  refine tH (i:=2) (v:= .slice (some ⟨g0,o0,none⟩) 2 cap) rfl ?_ ⟨NB.out,HU.out⟩ ?_
  ·intro w hSw
   have cq:=hSw.1.cell 3
   rw[HC3.out] at cq
   go_simp
  (try simp only[Act.put,sq])
  refine tH (i:=3) (v:= .pointer (some ⟨g0,o0,none⟩)) rfl ?_ ⟨NB.out,HU.out⟩ ?_
  ·intro w hSw
   go_simp
  (try simp only[Act.put,sq])
  refine wpAnyH_take (i:=4) (v:=_) rfl (by kernel_rfl) (by kernel_rfl) (by kernel_rfl) (fun _ _ _ h=>h) (yieldsIf_load_mid (by kernel_rfl) 24 (.tmp 62) rfl g0 (o0) rfl [p0,p1,p2,p3] _ (fun _ h=>HG0.out _ h.2) Tryz.underlying24 rfl (HINL.out _ _ _ _)) ⟨NB.out,HU.out⟩ ?_
  (try simp only[Act.put,sq])
  refine wpAnyH_take (i:=5) (v:=_) rfl (by kernel_rfl) (by kernel_rfl) (by kernel_rfl) (fun _ _ _ h=>h) (yields_load_box (by kernel_rfl) 24 (.tmp 3) rfl w.heap.size 24 cy _ rfl (fun _ h=>h.1) Tryz.underlying24 rfl HINF.out) ⟨NB.out,HU.out⟩ ?_
  (try simp only[Act.put,sq])
  refine rdH 6 rfl fun K hK=> ?_
  go_simp
  refine (HRK.out _).mono ?_
  rintro e w1 ⟨rfl,hq⟩
  replace WT:=hid (WT.out.below hq)
  replace NB:=bl NB hq
  replace HU:=hid (HU.out.trans (hq.mono hB0))
  replace HS:=hid (HS.out.trans (Stays.below hq))
  replace hB0:=Nat.le_trans hB0 hq.size
  clear hq
  refine hK.out _ _ ⟨NB.out,HU.out⟩ (fun hHeld=> ?_)
  clear hK hHeld K
  (try simp only[Act.put,sq])
  refine rdH 7 rfl fun K hK=> ?_
  go_simp
  refine (IH.at_ q HW0.out.1 HW0.out.2 HR0.out (HM0.out.belowB HU.out) WT.out hB0 h7 (HE.out.below HU.out h7) (by (try simp only[ln] at hl);(try simp only[ln]);omega)).mono ?_
  rintro e w2 ⟨rfl,hw,hb,hs⟩
  replace WT:=hid hw
  replace NB:=st hs NB HNENB
  replace HU:=hid (HU.out.trans hb)
  replace HS:=hid (HS.out.trans hs)
  replace hB0:=Nat.le_trans hB0 hb.size
  clear hw hb hs
  refine hK.out _ _ ⟨NB.out,HU.out⟩ (fun hHeld=> ?_)
  clear hK hHeld K
  (try simp only[Act.put,sq])
  refine wpAnyH_done (by kernel_rfl) ?_ _
  go_upto_region 17 with fail
  refine wp_region_held_drew (S:=fun w'=>Box w' w.heap.size 24 cy∧Below B w w') (by kernel_rfl) ⟨NB.out.drew,HU.out.drew⟩ (fun hHeld=> ?_)
  obtain⟨we,hwd⟩:∃wd,w2.drew=wd:=⟨_,rfl⟩
  have hdr:Below w2.heap.size w2 we:=hwd ▸ (Below.refl _ w2).drew
  (try rw[hwd] at hHeld)
  (try rw[hwd])
  clear hwd hHeld
  replace WT:=hid (WT.out.below hdr)
  replace NB:=bl NB hdr
  replace HU:=hid (HU.out.trans (hdr.mono hB0))
  replace HS:=hid (HS.out.trans (Stays.below hdr))
  replace hB0:=Nat.le_trans hB0 hdr.size
  clear hdr
  refine tH (i:=0) (v:= ?_) rfl ?_ ⟨NB.out,HU.out⟩ ?_
  rotate_left
  ·intro w hSw
   go_simp
   try (with_reducible rfl)
  (try simp only[Act.put,sq])
  refine tH (i:=1) (v:= ?_) rfl ?_ ⟨NB.out,HU.out⟩ ?_
  rotate_left
  ·intro w hSw
   go_simp
   try (with_reducible rfl)
  (try simp only[Act.put,sq])
  refine tH (i:=2) (v:= ?_) rfl ?_ ⟨NB.out,HU.out⟩ ?_
  rotate_left
  ·intro w hSw
   go_simp
   try (with_reducible rfl)
  (try simp only[Act.put,sq])
  refine wpAnyH_take (i:=3) (v:=_) rfl (by kernel_rfl) (by kernel_rfl) (by kernel_rfl) (fun _ _ _ h=>h) (yields_load_box (by kernel_rfl) 24 (.tmp 3) rfl w.heap.size 24 cy _ rfl (fun _ h=>h.1) Tryz.underlying24 rfl HINF.out) ⟨NB.out,HU.out⟩ ?_
  (try simp only[Act.put,sq])
  refine rdH 4 rfl fun K hK=> ?_
  go_simp
  refine (HSGN.out _).mono ?_
  rintro e w3 ⟨rfl,hq⟩
  replace WT:=hid (WT.out.below hq)
  replace NB:=bl NB hq
  replace HU:=hid (HU.out.trans (hq.mono hB0))
  replace HS:=hid (HS.out.trans (Stays.below hq))
  replace hB0:=Nat.le_trans hB0 hq.size
  clear hq
  refine hK.out _ _ ⟨NB.out,HU.out⟩ (fun hHeld=> ?_)
  clear hK hHeld K
  (try simp only[Act.put,sq])
  refine tH (i:=5) (v:= .string (⟨#[32]⟩++byt sg)) rfl ?_ ⟨NB.out,HU.out⟩ ?_
  ·intro w hSw
   go_simp
  (try simp only[Act.put,sq])
  refine tH (i:=6) (v:= .string (⟨#[32]⟩++byt sg++⟨#[32]⟩)) rfl ?_ ⟨NB.out,HU.out⟩ ?_
  ·intro w hSw
   go_simp
  (try simp only[Act.put,sq])
  refine rdH 7 rfl fun K hK=> ?_
  go_simp
  rw[HPC.out]
  refine (wstr B wb (l++Wri.wr x0 (.at q)) ([32]++sg++[32]) _ WT.out (by (try simp only[ln] at hl);(try simp only[ln]);omega) hB0).mono ?_
  rintro e w4 ⟨⟨v,rfl⟩,hw,hb,hs⟩
  replace WT:=hid hw
  replace NB:=st hs NB HNENB
  replace HU:=hid (HU.out.trans hb)
  replace HS:=hid (HS.out.trans hs)
  replace hB0:=Nat.le_trans hB0 hb.size
  clear hw hb hs
  refine hK.out _ _ ⟨NB.out,HU.out⟩ (fun hHeld=> ?_)
  clear hK hHeld K
  (try simp only[Act.put,sq])
  refine wpAnyH_done (by kernel_rfl) ?_ _
  go_upto_region 18 with fail
  refine wp_region_held_drew (S:=fun w'=>Box w' w.heap.size 24 cy∧Below B w w') (by kernel_rfl) ⟨NB.out.drew,HU.out.drew⟩ (fun hHeld=> ?_)
  obtain⟨wf,hwd⟩:∃wd,w4.drew=wd:=⟨_,rfl⟩
  have hdr:Below w4.heap.size w4 wf:=hwd ▸ (Below.refl _ w4).drew
  (try rw[hwd] at hHeld)
  (try rw[hwd])
  clear hwd hHeld
  replace WT:=hid (WT.out.below hdr)
  replace NB:=bl NB hdr
  replace HU:=hid (HU.out.trans (hdr.mono hB0))
  replace HS:=hid (HS.out.trans (Stays.below hdr))
  replace hB0:=Nat.le_trans hB0 hdr.size
  clear hdr
  refine tH (i:=0) (v:= ?_) rfl ?_ ⟨NB.out,HU.out⟩ ?_
  rotate_left
  ·intro w hSw
   go_simp
   try (with_reducible rfl)
  (try simp only[Act.put,sq])
  refine tH (i:=1) (v:= ?_) rfl ?_ ⟨NB.out,HU.out⟩ ?_
  rotate_left
  ·intro w hSw
   go_simp
   try (with_reducible rfl)
  (try simp only[Act.put,sq])
  refine tH (i:=2) (v:= .slice (some ⟨g0,o0,none⟩) 2 cap) rfl ?_ ⟨NB.out,HU.out⟩ ?_
  ·intro w hSw
   have cq:=hSw.1.cell 3
   rw[HC3.out] at cq
   go_simp
  (try simp only[Act.put,sq])
  refine tH (i:=3) (v:= .pointer (some ⟨g0,o0+4,none⟩)) rfl ?_ ⟨NB.out,HU.out⟩ ?_
  ·intro w hSw
   go_simp
  (try simp only[Act.put,sq])
  refine wpAnyH_take (i:=4) (v:=_) rfl (by kernel_rfl) (by kernel_rfl) (by kernel_rfl) (fun _ _ _ h=>h) (yieldsIf_load_mid (by kernel_rfl) 24 (.tmp 78) rfl g0 (o0+4) rfl [q0,q1,q2,q3] _ (fun _ h=>HG1.out _ h.2) Tryz.underlying24 rfl (HINL.out _ _ _ _)) ⟨NB.out,HU.out⟩ ?_
  (try simp only[Act.put,sq])
  refine wpAnyH_take (i:=5) (v:=_) rfl (by kernel_rfl) (by kernel_rfl) (by kernel_rfl) (fun _ _ _ h=>h) (yields_load_box (by kernel_rfl) 24 (.tmp 3) rfl w.heap.size 24 cy _ rfl (fun _ h=>h.1) Tryz.underlying24 rfl HINF.out) ⟨NB.out,HU.out⟩ ?_
  (try simp only[Act.put,sq])
  refine rdH 6 rfl fun K hK=> ?_
  go_simp
  refine (HRK.out _).mono ?_
  rintro e w5 ⟨rfl,hq⟩
  replace WT:=hid (WT.out.below hq)
  replace NB:=bl NB hq
  replace HU:=hid (HU.out.trans (hq.mono hB0))
  replace HS:=hid (HS.out.trans (Stays.below hq))
  replace hB0:=Nat.le_trans hB0 hq.size
  clear hq
  refine hK.out _ _ ⟨NB.out,HU.out⟩ (fun hHeld=> ?_)
  clear hK hHeld K
  (try simp only[Act.put,sq])
  refine tH (i:=7) (v:= .int .i64 (q+1)) rfl ?_ ⟨NB.out,HU.out⟩ ?_
  ·intro w hSw
   go_simp
   rw[IntKind.wrap_i64]
   (try omega)
  (try simp only[Act.put,sq])
  refine rdH 8 rfl fun K hK=> ?_
  go_simp
  refine (IH.at_ (q+1) HW1.out.1 HW1.out.2 HR1.out (HM1.out.belowB HU.out) WT.out hB0 h7 (HE.out.below HU.out h7) (by (try simp only[ln] at hl);(try simp only[ln]);omega)).mono ?_
  rintro e w6 ⟨rfl,hw,hb,hs⟩
  replace WT:=hid hw
  replace NB:=st hs NB HNENB
  replace HU:=hid (HU.out.trans hb)
  replace HS:=hid (HS.out.trans hs)
  replace hB0:=Nat.le_trans hB0 hb.size
  clear hw hb hs
  refine hK.out _ _ ⟨NB.out,HU.out⟩ (fun hHeld=> ?_)
  clear hK hHeld K
  (try simp only[Act.put,sq])
  refine wpAnyH_done (by kernel_rfl) ?_ _
  go_wp2
  go_end0
  exact⟨rfl,by rw[HWR.out];simpa [List.append_assoc] using WT.out,HU.out,HS.out⟩
set_option maxRecDepth 100000 in
set_option maxHeartbeats 4000000 in
theorem ex_w {N:Nat} (IH:Wall N) (FS:∀{n:Pars.Node} {cs:Array Value} {w:World} {B wb:Nat} {l:List UInt8},Wri.wg n≤N+1→Wri.wg n≤1048576→Ri n→NodeAt w (fun g=>g<B) n cs→Wt B wb l w→B≤w.heap.size→7≤B→EnvW w→l.length+(Wri.wr n .fst).length≤70368744177664→Calls Tryz.prog 115 #[.pointer (some ⟨wb,0,none⟩),.agg cs] w (WOut B wb l (Wri.wr n .fst) w)):∀{n:Pars.Node} {cs:Array Value} {w:World} {B wb:Nat} {l:List UInt8},Wri.wg n≤N+1→Wri.wg n≤1048576→Ri n→NodeAt w (fun g=>g<B) n cs→Wt B wb l w→B≤w.heap.size→7≤B→EnvW w→l.length+(Wri.wr n .ex).length≤70368744177664→Calls Tryz.prog 106 #[.pointer (some ⟨wb,0,none⟩),.agg cs] w (WOut B wb l (Wri.wr n .ex) w):=by
 intro n cs w B wb l hN hM hR hn hW hBw h7 he hl
 obtain⟨k,nu,t,kl⟩:=n
 have hn0:=hn
 unfold NodeAt at hn
 obtain⟨A,cap,css,rfl,hc1,hc2,hrow,hk⟩:=hn
 have HROW:=hid hrow
 have HK:=hid hk
 have HN:=hid hn0
 have HE:=hid he
 have hwlt:=hW.lt
 have hll:=Wri.wgs_len kl
 clear hrow hk hn0 he
 by_cases y19:k=19
 ·subst y19
  exact absurd (ri_few hR) (by decide)
 by_cases y18:k=18
 ·subst y18
  exact absurd (ri_few hR) (by decide)
 by_cases y17:k=17
 ·subst y17
  exact absurd (ri_few hR) (by decide)
 by_cases y16:k=16
 ·subst y16
  exact absurd (ri_few hR) (by decide)
 by_cases y15:k=15
 ·subst y15
  exact exb_w IH 15 (by omega) hN hM hR HN.out hW hBw h7 HE.out hl
 by_cases y14:k=14
 ·subst y14
  exact absurd (ri_few hR) (by decide)
 by_cases y11:k=11
 ·subst y11
  exact absurd (ri_few hR) (by decide)
 by_cases y12:k=12
 ·subst y12
  exact absurd (ri_few hR) (by decide)
 by_cases y13:k=13
 ·subst y13
  exact absurd (ri_few hR) (by decide)
 have n19:(k==19)=false:=bn y19
 have n18:(k==18)=false:=bn y18
 have n17:(k==17)=false:=bn y17
 have n16:(k==16)=false:=bn y16
 have n15:(k==15)=false:=bn y15
 have n14:(k==14)=false:=bn y14
 have n11:(k==11)=false:=bn y11
 have n12:(k==12)=false:=bn y12
 have n13:(k==13)=false:=bn y13
 have hl0:Wri.wr (.mk k nu t kl) .ex=Wri.wr (.mk k nu t kl) .fst:=by show Wri.wEx k nu t (Wri.wrs kl)=_;unfold Wri.wEx;rw[if_neg y19,if_neg y18,if_neg (by rintro (h | h | h)<;>contradiction),if_neg y14,if_neg y11,if_neg y12,if_neg y13];rfl
 rw[hl0] at hl
 have INF:(Tryz.prog.info? 24).map (·.size)=some (nc k nu t (.slice A kl.length cap)).size:=info_nod
 go_enter Tryz.func106,Tryz.ntmps106
 go_upto_region 1 with fail
 refine gen_world (F:=fun W=>Box W w.heap.size 24 (nc k nu t (.slice A kl.length cap))∧Below w.heap.size w W) ⟨Box.new w _ _,below1 w _⟩ ?_
 rintro W0 ⟨b0,hU⟩
 have NB:=hid b0
 have WT:=hid (hW.below hU)
 have HU:Hid (Below B w W0):=hid (hU.mono hBw)
 have HS:Hid (Stays wb w W0):=hid (Stays.below hU)
 have hB0:B≤W0.heap.size:=Nat.le_trans hBw hU.size
 have hnw:w.heap.size≠wb:=by omega
 have hbx:=Nat.lt_of_lt_of_le b0.lt (Nat.le_refl _)
 clear b0 hU
 have HNENB:=hid hnw
 have c0:=NB.out.cell 0
 simp[nc] at c0
 go_wp2_with (refine wpList_load_row rfl 24 (.tmp 3) rfl w.heap.size rfl _ (nc k nu t (.slice A kl.length cap)) (0,0) _ NB.out Tryz.underlying24 rfl INF ?_)
 refine (FS hN hM hR (HN.out.belowB HU.out) WT.out hB0 h7 (HE.out.below HU.out h7) hl).mono ?_
 rintro e w2 ⟨rfl,hw,hb,hs⟩
 go_wp2
 go_end0
 exact⟨rfl,by rw[hl0];exact hw,HU.out.trans hb,HS.out.trans hs⟩
end Go.Proofs.YtflmjbmdmoifhaaGreatDoor
namespace Go.Proofs.YtflmjbmdmoifhaaGreatDoor
open Go.Lib (hid)
open Go.RowKit
theorem wr_st20 (nu:Int) (t:List UInt8) (l:List Pars.Node) (x0:Pars.Node) (h0:l[0]? =some x0):Wri.wr (.mk 20 nu t l) .stmt=[108,101,116,32]++t++[32,61,32]++Wri.wr x0 (.at (-2))++[59]:=by
 show Wri.wStmt 20 nu t l (Wri.wrs l)=_
 unfold Wri.wStmt
 simp[wrs_kid h0,List.append_assoc]
theorem wr_st21 (nu:Int) (t:List UInt8) (l:List Pars.Node) (x0:Pars.Node) (h0:l[0]? =some x0):Wri.wr (.mk 21 nu t l) .stmt=Wri.wr x0 .fn:=by
 show Wri.wStmt 21 nu t l (Wri.wrs l)=_
 unfold Wri.wStmt
 simp[wrs_kid h0,List.append_assoc]
theorem def_kid {nu:Int} {t:List UInt8} {l:List Pars.Node} {x:Pars.Node} (h:Ri (.mk 21 nu t l)) (hx:l[0]? =some x):x.kind=9:=by
 obtain⟨⟨a,b,h⟩,_⟩:=h
 have hr:=Wri.rt_of _ _ _ h
 cases hr with
 | def_ _ _ f h1 h2 h3=>
  simp at hx
  rw[←hx];exact h1
theorem wr_st25a (nu:Int) (t:List UInt8) (l:List Pars.Node) (h:l.length=0):Wri.wr (.mk 25 nu t l) .stmt=[114,101,116,117,114,110]++[59]:=by
 obtain rfl:l=[]:=List.length_eq_zero_iff.1 h
 rfl
theorem wr_st25b (nu:Int) (t:List UInt8) (l:List Pars.Node) (x0:Pars.Node) (h0:l[0]? =some x0) (h:l.length=1):Wri.wr (.mk 25 nu t l) .stmt=[114,101,116,117,114,110]++[32]++Wri.wr x0 (.at (-2))++[59]:=by
 obtain⟨y,rfl⟩:=List.length_eq_one_iff.1 h
 simp at h0
 subst h0
 show [114,101,116,117,114,110]++(32 :: Wri.wr y (.at (-2)))++[59]=_
 simp
set_option maxRecDepth 100000 in
set_option maxHeartbeats 4000000 in
theorem stmt_w {N:Nat} (IH:Wall N) (BL:∀{n:Pars.Node} {cs:Array Value} {w:World} {B wb:Nat} {l:List UInt8},Wri.wg n≤N+1→Wri.wg n≤1048576→Ri n→NodeAt w (fun g=>g<B) n cs→Wt B wb l w→B≤w.heap.size→7≤B→EnvW w→l.length+(Wri.wr n .block).length≤70368744177664→Calls Tryz.prog 59 #[.pointer (some ⟨wb,0,none⟩),.agg cs] w (WOut B wb l (Wri.wr n .block) w)):∀{n:Pars.Node} {cs:Array Value} {w:World} {B wb:Nat} {l:List UInt8},Wri.wg n≤N+1→Wri.wg n≤1048576→Ri n→NodeAt w (fun g=>g<B) n cs→Wt B wb l w→B≤w.heap.size→7≤B→EnvW w→l.length+(Wri.wr n .stmt).length≤70368744177664→Calls Tryz.prog 33 #[.pointer (some ⟨wb,0,none⟩),.agg cs] w (WOut B wb l (Wri.wr n .stmt) w):=by
 intro n cs w B wb l hN hM hR hn hW hBw h7 he hl
 obtain⟨k,nu,t,kl⟩:=n
 have hn0:=hn
 unfold NodeAt at hn
 obtain⟨A,cap,css,rfl,hc1,hc2,hrow,hk⟩:=hn
 have HROW:=hid hrow
 have HK:=hid hk
 have HN:=hid hn0
 have HE:=hid he
 have hwlt:=hW.lt
 have hll:=Wri.wgs_len kl
 clear hrow hk hn0 he
 by_cases y20:k=20
 ·subst y20
  have hlen:kl.length=1:=(ri_len hR).2.2.1 (by simp)
  obtain⟨x0,hx0⟩:∃x,kl[0]? =some x:=⟨_,List.getElem?_eq_getElem (by omega)⟩
  obtain⟨g0,o0,rfl,hg0,_,_⟩:=HROW.out (by omega)
  obtain⟨b0,c0,d0,hn0,hc0⟩:=kid4 HK.out HROW.out hx0
  have HN0:=hid hn0
  have HC0:=hid hc0
  have HX0:=hid hx0
  have HR0:=hid (ri_kid hR x0 (List.mem_of_getElem? hx0))
  have hxw0:=Wri.wg_mem (List.mem_of_getElem? hx0)
  have HW0:Hid (Wri.wg x0≤N∧Wri.wg x0≤1048576):=hid (by simp only[Wri.wg] at hN hM;exact⟨by omega,by omega⟩)
  clear hn0 hc0 hx0 hxw0
  rw[wr_st20 nu t kl x0 HX0.out] at hl
  have hts:(byt t).size≤70368744177664:=by rw[byt_size];simp only[List.length_append,List.length_cons] at hl;omega
  go_enter Tryz.func33,Tryz.ntmps33
  go_upto_region 1 with fail
  refine gen_world (F:=fun W=>Box W w.heap.size 24 (nc 20 nu t (.slice (some ⟨g0,o0,none⟩) 1 cap))∧Below w.heap.size w W) ⟨Box.new w _ _,below1 w _⟩ ?_
  rintro W0 ⟨b0,hU⟩
  have NB:=hid b0
  have WT:=hid (hW.below hU)
  have HU:Hid (Below B w W0):=hid (hU.mono hBw)
  have HS:Hid (Stays wb w W0):=hid (Stays.below hU)
  have hB0:B≤W0.heap.size:=Nat.le_trans hBw hU.size
  have hnw:w.heap.size≠wb:=by omega
  have hbx:=Nat.lt_of_lt_of_le b0.lt (Nat.le_refl _)
  clear b0 hU
  have HNENB:=hid hnw
  have c0:=NB.out.cell 0
  simp[nc] at c0
  have c2:=NB.out.cell 2
  simp[nc] at c2
  have hcc:¬9223372036854775807<4+(byt t).size:=by omega
  have hcc2:¬9223372036854775807<4+(byt t).size+3:=by omega
  have hg8:(⟨#[108,101,116,32]⟩:ByteArray).size=4:=rfl
  have hg2:(⟨#[32,61,32]⟩:ByteArray).size=3:=rfl
  have HPC:Hid ((⟨#[108,101,116,32]⟩++byt t++⟨#[32,61,32]⟩:ByteArray)=byt ([108,101,116,32]++t++[32,61,32])):=hid (by rw[←byt_append, ←byt_append];rfl)
  go_upto_region 3 with fail
  go_wp2
  go_still_tail 7,(by kernel_rfl)
  change wpList _ _ _ _ _ W0.drew
  have hdr:Below W0.heap.size W0 W0.drew:=Below.drew (Below.refl _ _)
  have hdz:W0.drew.heap.size=W0.heap.size:=rfl
  obtain⟨wd,hwd⟩:∃wd,W0.drew=wd:=⟨_,rfl⟩
  rw[hwd] at hdr hdz ⊢
  replace WT:=hid (WT.out.below hdr)
  replace NB:=bl NB hdr
  replace HU:=hid (HU.out.trans (hdr.mono hB0))
  replace HS:=hid (HS.out.trans (Stays.below hdr))
  have hB1:B≤wd.heap.size:=by omega
  clear hB0
  have hB0:=hB1
  clear hdr hdz hwd
  clear c0 c2
  go_wp2_with fail
  rw[HPC.out]
  refine (wstr B wb (l) ([108,101,116,32]++t++[32,61,32]) _ WT.out (by (try simp only[ln] at hl);(try simp only[ln]);omega) hB0).mono ?_
  rintro e w1 ⟨⟨v,rfl⟩,hw,hb,hs⟩
  replace WT:=hid hw
  replace NB:=st hs NB HNENB
  replace HU:=hid (HU.out.trans hb)
  replace HS:=hid (HS.out.trans hs)
  replace hB0:=Nat.le_trans hB0 hb.size
  clear hw hb hs
  obtain⟨k0,k1,k2,k3⟩:=HC0.out w1 HU.out
  simp at k0 k1 k2 k3
  have c3:=NB.out.cell 3
  simp[nc] at c3
  go_wp2_with fail
  refine (IH.any HW0.out.1 HW0.out.2 HR0.out (HN0.out.belowB HU.out) WT.out hB0 h7 (HE.out.below HU.out h7) (by (try simp only[ln] at hl);(try simp only[ln]);omega)).mono ?_
  rintro e w2 ⟨rfl,hw,hb,hs⟩
  clear k0 k1 k2 k3 c3
  replace WT:=hid hw
  replace NB:=st hs NB HNENB
  replace HU:=hid (HU.out.trans hb)
  replace HS:=hid (HS.out.trans hs)
  replace hB0:=Nat.le_trans hB0 hb.size
  clear hw hb hs
  go_wp2_with fail
  refine (wbyte B wb (l++([108,101,116,32]++t++[32,61,32])++Wri.wr x0 (.at (-2))) 59 _ WT.out (by (try simp only[ln] at hl);(try simp only[ln]);omega) hB0).mono ?_
  rintro e w3 ⟨rfl,hw,hb,hs⟩
  replace WT:=hid hw
  replace NB:=st hs NB HNENB
  replace HU:=hid (HU.out.trans hb)
  replace HS:=hid (HS.out.trans hs)
  replace hB0:=Nat.le_trans hB0 hb.size
  clear hw hb hs
  go_wp2
  go_end0
  exact⟨rfl,by rw[wr_st20 nu t kl x0 HX0.out];simpa [List.append_assoc] using WT.out,HU.out,HS.out⟩
 by_cases y21:k=21
 ·subst y21
  have hlen:kl.length=1:=(ri_len hR).2.2.1 (by simp)
  obtain⟨x0,hx0⟩:∃x,kl[0]? =some x:=⟨_,List.getElem?_eq_getElem (by omega)⟩
  obtain⟨g0,o0,rfl,hg0,_,_⟩:=HROW.out (by omega)
  obtain⟨b0,c0,d0,hn0,hc0⟩:=kid4 HK.out HROW.out hx0
  have HN0:=hid hn0
  have HC0:=hid hc0
  have HX0:=hid hx0
  have HR0:=hid (ri_kid hR x0 (List.mem_of_getElem? hx0))
  have hxw0:=Wri.wg_mem (List.mem_of_getElem? hx0)
  have HW0:Hid (Wri.wg x0≤N∧Wri.wg x0≤1048576):=hid (by simp only[Wri.wg] at hN hM;exact⟨by omega,by omega⟩)
  clear hn0 hc0 hx0 hxw0
  have HKD:Hid (x0.kind=9):=hid (def_kid hR HX0.out)
  rw[wr_st21 nu t kl x0 HX0.out] at hl
  have hn9:=HN0.out
  rw[HKD.out] at hn9
  replace HN0:=hid hn9
  clear hn9
  go_enter Tryz.func33,Tryz.ntmps33
  go_upto_region 1 with fail
  refine gen_world (F:=fun W=>Box W w.heap.size 24 (nc 21 nu t (.slice (some ⟨g0,o0,none⟩) 1 cap))∧Below w.heap.size w W) ⟨Box.new w _ _,below1 w _⟩ ?_
  rintro W0 ⟨b0,hU⟩
  have NB:=hid b0
  have WT:=hid (hW.below hU)
  have HU:Hid (Below B w W0):=hid (hU.mono hBw)
  have HS:Hid (Stays wb w W0):=hid (Stays.below hU)
  have hB0:B≤W0.heap.size:=Nat.le_trans hBw hU.size
  have hnw:w.heap.size≠wb:=by omega
  have hbx:=Nat.lt_of_lt_of_le b0.lt (Nat.le_refl _)
  clear b0 hU
  have HNENB:=hid hnw
  have c0:=NB.out.cell 0
  simp[nc] at c0
  have HC00:=HC0.out
  rw[HKD.out] at HC00
  replace HC0:=hid HC00
  clear HC00
  obtain⟨k0,k1,k2,k3⟩:=HC0.out W0 HU.out
  simp at k0 k1 k2 k3
  have c3:=NB.out.cell 3
  simp[nc] at c3
  go_wp2_with fail
  refine (IH.fn HW0.out.1 HW0.out.2 HR0.out HKD.out (HN0.out.belowB HU.out) WT.out hB0 h7 (HE.out.below HU.out h7) (by (try simp only[ln] at hl);(try simp only[ln]);omega)).mono ?_
  rintro e w1 ⟨rfl,hw,hb,hs⟩
  clear k0 k1 k2 k3 c3
  replace WT:=hid hw
  replace NB:=st hs NB HNENB
  replace HU:=hid (HU.out.trans hb)
  replace HS:=hid (HS.out.trans hs)
  replace hB0:=Nat.le_trans hB0 hb.size
  clear hw hb hs
  go_wp2
  go_end0
  exact⟨rfl,by rw[wr_st21 nu t kl x0 HX0.out];simpa [List.append_assoc] using WT.out,HU.out,HS.out⟩
 by_cases y22:k=22
 ·subst y22
  exact absurd (ri_few hR) (by decide)
 by_cases y23:k=23
 ·subst y23
  exact absurd (ri_few hR) (by decide)
 by_cases y24:k=24
 ·subst y24
  exact absurd (ri_few hR) (by decide)
 by_cases y25:k=25
 ·subst y25
  by_cases hlen:kl.length=0
  ·have hl2:l.length+([114,101,116,117,114,110]++[59]:List UInt8).length≤70368744177664:=by rw[←wr_st25a nu t kl hlen];exact hl
   clear hl
   have hl:=hl2
   clear hl2
   have HLN:=hid hlen
   obtain rfl:kl=[]:=List.length_eq_zero_iff.1 hlen
   go_enter Tryz.func33,Tryz.ntmps33
   go_upto_region 1 with fail
   refine gen_world (F:=fun W=>Box W w.heap.size 24 (nc 25 nu t (.slice A ([]:List Pars.Node).length cap))∧Below w.heap.size w W) ⟨Box.new w _ _,below1 w _⟩ ?_
   rintro W0 ⟨b0,hU⟩
   have NB:=hid b0
   have WT:=hid (hW.below hU)
   have HU:Hid (Below B w W0):=hid (hU.mono hBw)
   have HS:Hid (Stays wb w W0):=hid (Stays.below hU)
   have hB0:B≤W0.heap.size:=Nat.le_trans hBw hU.size
   have hnw:w.heap.size≠wb:=by omega
   have hbx:=Nat.lt_of_lt_of_le b0.lt (Nat.le_refl _)
   clear b0 hU
   have HNENB:=hid hnw
   have c0:=NB.out.cell 0
   simp[nc] at c0
   go_upto_region 21 with fail
   clear c0
   go_wp2_with fail
   refine (wstr B wb (l) [114,101,116,117,114,110] _ WT.out (by (try simp only[ln] at hl);(try simp only[ln]);omega) hB0).mono ?_
   rintro e w1 ⟨⟨v,rfl⟩,hw,hb,hs⟩
   replace WT:=hid hw
   replace NB:=st hs NB HNENB
   replace HU:=hid (HU.out.trans hb)
   replace HS:=hid (HS.out.trans hs)
   replace hB0:=Nat.le_trans hB0 hb.size
   clear hw hb hs
   have c3:=NB.out.cell 3
   simp[nc] at c3
   go_upto_region 25 with fail
   clear c3
   go_wp2_with fail
   refine (wbyte B wb (l++[114,101,116,117,114,110]) 59 _ WT.out (by (try simp only[ln] at hl);(try simp only[ln]);omega) hB0).mono ?_
   rintro e w2 ⟨rfl,hw,hb,hs⟩
   replace WT:=hid hw
   replace NB:=st hs NB HNENB
   replace HU:=hid (HU.out.trans hb)
   replace HS:=hid (HS.out.trans hs)
   replace hB0:=Nat.le_trans hB0 hb.size
   clear hw hb hs
   go_wp2
   go_end0
   exact⟨rfl,by rw[wr_st25a nu t [] rfl];simpa [List.append_assoc] using WT.out,HU.out,HS.out⟩
  ·have hlen1:kl.length=1:=by have:=(ri_len hR).2.2.2.2.2.2.1 rfl;omega
   have hlen:kl.length=1:=hlen1
   obtain⟨x0,hx0⟩:∃x,kl[0]? =some x:=⟨_,List.getElem?_eq_getElem (by omega)⟩
   obtain⟨g0,o0,rfl,hg0,_,_⟩:=HROW.out (by omega)
   obtain⟨b0,c0,d0,hn0,hc0⟩:=kid4 HK.out HROW.out hx0
   have HN0:=hid hn0
   have HC0:=hid hc0
   have HX0:=hid hx0
   have HR0:=hid (ri_kid hR x0 (List.mem_of_getElem? hx0))
   have hxw0:=Wri.wg_mem (List.mem_of_getElem? hx0)
   have HW0:Hid (Wri.wg x0≤N∧Wri.wg x0≤1048576):=hid (by simp only[Wri.wg] at hN hM;exact⟨by omega,by omega⟩)
   clear hn0 hc0 hx0 hxw0
   rw[wr_st25b nu t kl x0 HX0.out hlen1] at hl
   have HLN:=hid hlen1
   go_enter Tryz.func33,Tryz.ntmps33
   go_upto_region 1 with fail
   refine gen_world (F:=fun W=>Box W w.heap.size 24 (nc 25 nu t (.slice (some ⟨g0,o0,none⟩) 1 cap))∧Below w.heap.size w W) ⟨Box.new w _ _,below1 w _⟩ ?_
   rintro W0 ⟨b0,hU⟩
   have NB:=hid b0
   have WT:=hid (hW.below hU)
   have HU:Hid (Below B w W0):=hid (hU.mono hBw)
   have HS:Hid (Stays wb w W0):=hid (Stays.below hU)
   have hB0:B≤W0.heap.size:=Nat.le_trans hBw hU.size
   have hnw:w.heap.size≠wb:=by omega
   have hbx:=Nat.lt_of_lt_of_le b0.lt (Nat.le_refl _)
   clear b0 hU
   have HNENB:=hid hnw
   have c0:=NB.out.cell 0
   simp[nc] at c0
   go_upto_region 21 with fail
   clear c0
   go_wp2_with fail
   refine (wstr B wb (l) [114,101,116,117,114,110] _ WT.out (by (try simp only[ln] at hl);(try simp only[ln]);omega) hB0).mono ?_
   rintro e w1 ⟨⟨v,rfl⟩,hw,hb,hs⟩
   replace WT:=hid hw
   replace NB:=st hs NB HNENB
   replace HU:=hid (HU.out.trans hb)
   replace HS:=hid (HS.out.trans hs)
   replace hB0:=Nat.le_trans hB0 hb.size
   clear hw hb hs
   have c3:=NB.out.cell 3
   simp[nc] at c3
   go_upto_region 23 with fail
   clear c3
   go_wp2_with fail
   refine (wbyte B wb (l++[114,101,116,117,114,110]) 32 _ WT.out (by (try simp only[ln] at hl);(try simp only[ln]);omega) hB0).mono ?_
   rintro e w2 ⟨rfl,hw,hb,hs⟩
   replace WT:=hid hw
   replace NB:=st hs NB HNENB
   replace HU:=hid (HU.out.trans hb)
   replace HS:=hid (HS.out.trans hs)
   replace hB0:=Nat.le_trans hB0 hb.size
   clear hw hb hs
   obtain⟨k0,k1,k2,k3⟩:=HC0.out w2 HU.out
   simp at k0 k1 k2 k3
   have c3:=NB.out.cell 3
   simp[nc] at c3
   go_wp2_with fail
   refine (IH.any HW0.out.1 HW0.out.2 HR0.out (HN0.out.belowB HU.out) WT.out hB0 h7 (HE.out.below HU.out h7) (by (try simp only[ln] at hl);(try simp only[ln]);omega)).mono ?_
   rintro e w3 ⟨rfl,hw,hb,hs⟩
   clear k0 k1 k2 k3 c3
   replace WT:=hid hw
   replace NB:=st hs NB HNENB
   replace HU:=hid (HU.out.trans hb)
   replace HS:=hid (HS.out.trans hs)
   replace hB0:=Nat.le_trans hB0 hb.size
   clear hw hb hs
   go_wp2_with fail
   refine (wbyte B wb (l++[114,101,116,117,114,110]++[32]++Wri.wr x0 (.at (-2))) 59 _ WT.out (by (try simp only[ln] at hl);(try simp only[ln]);omega) hB0).mono ?_
   rintro e w4 ⟨rfl,hw,hb,hs⟩
   replace WT:=hid hw
   replace NB:=st hs NB HNENB
   replace HU:=hid (HU.out.trans hb)
   replace HS:=hid (HS.out.trans hs)
   replace hB0:=Nat.le_trans hB0 hb.size
   clear hw hb hs
   go_wp2
   go_end0
   exact⟨rfl,by rw[wr_st25b nu t kl x0 HX0.out HLN.out];simpa [List.append_assoc] using WT.out,HU.out,HS.out⟩
 by_cases y26:k=26
 ·subst y26
  exact absurd (ri_few hR) (by decide)
 by_cases y27:k=27
 ·subst y27
  exact absurd (ri_few hR) (by decide)
 by_cases y28:k=28
 ·subst y28
  exact absurd (ri_few hR) (by decide)
 by_cases y29:k=29
 ·subst y29
  exact absurd (ri_few hR) (by decide)
 by_cases y30:k=30
 ·subst y30
  have INF:(Tryz.prog.info? 24).map (·.size)=some (nc 30 nu t (.slice A kl.length cap)).size:=info_nod
  go_enter Tryz.func33,Tryz.ntmps33
  go_upto_region 1 with fail
  refine gen_world (F:=fun W=>Box W w.heap.size 24 (nc 30 nu t (.slice A kl.length cap))∧Below w.heap.size w W) ⟨Box.new w _ _,below1 w _⟩ ?_
  rintro W0 ⟨b0,hU⟩
  have NB:=hid b0
  have WT:=hid (hW.below hU)
  have HU:Hid (Below B w W0):=hid (hU.mono hBw)
  have HS:Hid (Stays wb w W0):=hid (Stays.below hU)
  have hB0:B≤W0.heap.size:=Nat.le_trans hBw hU.size
  have hnw:w.heap.size≠wb:=by omega
  have hbx:=Nat.lt_of_lt_of_le b0.lt (Nat.le_refl _)
  clear b0 hU
  have HNENB:=hid hnw
  have c0:=NB.out.cell 0
  simp[nc] at c0
  go_wp2_with (refine wpList_load_row rfl 24 (.tmp 3) rfl w.heap.size rfl _ (nc 30 nu t (.slice A kl.length cap)) (0,0) _ NB.out Tryz.underlying24 rfl INF ?_)
  refine (BL hN hM hR (HN.out.belowB HU.out) WT.out hB0 h7 (HE.out.below HU.out h7) hl).mono ?_
  rintro e w2 ⟨rfl,hw,hb,hs⟩
  go_wp2
  go_end0
  exact⟨rfl,hw,HU.out.trans hb,HS.out.trans hs⟩
 by_cases y31:k=31
 ·subst y31
  exact absurd (ri_few hR) (by decide)
 have n20:(k==20)=false:=bn y20
 have n21:(k==21)=false:=bn y21
 have n22:(k==22)=false:=bn y22
 have n23:(k==23)=false:=bn y23
 have n24:(k==24)=false:=bn y24
 have n25:(k==25)=false:=bn y25
 have n26:(k==26)=false:=bn y26
 have n27:(k==27)=false:=bn y27
 have n28:(k==28)=false:=bn y28
 have n29:(k==29)=false:=bn y29
 have n30:(k==30)=false:=bn y30
 have n31:(k==31)=false:=bn y31
 have hl0:Wri.wr (.mk k nu t kl) .stmt=[]:=by show Wri.wStmt k nu t kl (Wri.wrs kl)=[];unfold Wri.wStmt;rw[if_neg y20,if_neg y21,if_neg y22,if_neg y23,if_neg y24,if_neg y25,if_neg y26,if_neg y27,if_neg y28,if_neg y29,if_neg y30,if_neg y31]
 go_enter Tryz.func33,Tryz.ntmps33
 go_upto_region 1 with fail
 refine gen_world (F:=fun W=>Box W w.heap.size 24 (nc k nu t (.slice A kl.length cap))∧Below w.heap.size w W) ⟨Box.new w _ _,below1 w _⟩ ?_
 rintro W0 ⟨b0,hU⟩
 have NB:=hid b0
 have WT:=hid (hW.below hU)
 have HU:Hid (Below B w W0):=hid (hU.mono hBw)
 have HS:Hid (Stays wb w W0):=hid (Stays.below hU)
 have hB0:B≤W0.heap.size:=Nat.le_trans hBw hU.size
 have hnw:w.heap.size≠wb:=by omega
 have hbx:=Nat.lt_of_lt_of_le b0.lt (Nat.le_refl _)
 clear b0 hU
 have HNENB:=hid hnw
 have c0:=NB.out.cell 0
 simp[nc] at c0
 go_wp2
 go_end0
 exact⟨rfl,by rw[hl0];simpa using WT.out,HU.out,HS.out⟩
theorem wall:∀N,Wall N
 | 0=>by
  have z:∀n:Pars.Node,Wri.wg n≤0→False:=fun n h=>by cases n;simp[Wri.wg] at h
  exact⟨fun h=>(z _ h).elim,fun h=>(z _ h).elim,fun h=>(z _ h).elim,fun h=>(z _ h).elim,fun h=>(z _ h).elim,fun h=>(z _ h).elim,fun q=>fun h=>(z _ h).elim⟩
 | N+1=>by
  have IH:=wall N
  have fn:=@function_w N IH
  have fst:=@first_w N IH fn
  have ex:=@ex_w N IH fst
  have at_:=@at_w N ex
  have any:=@any_w N at_
  have bl:=@block_w N IH
  have st:=@stmt_w N IH bl
  exact⟨bl,st,any,ex,fst,fn,at_⟩
end Go.Proofs.YtflmjbmdmoifhaaGreatDoor
namespace Wri
open Pars (Node Bs)
open Lexy (Tk sg kw nm W noN all IsName LexT)
abbrev G:=M→List Tk
def tkid (f:List G) (i:Nat):G:=f.getD i (fun _=>[])
def tjoin:List (List Tk)→List Tk
 | []=>[]
 | [a]=>a
 | a :: l=>a++[sg [44]]++tjoin l
def tlisted (o c:Bs) (l:List (List Tk)):List Tk:=[sg o]++tjoin l++[sg c]
def tFn (t:Bs) (f:List G):List Tk:=[kw Pars.wFn]++(if t=[] then [] else [nm t])++tlisted [40] [41] ((f.take (f.length - 1)).map (· .param))++tkid f (f.length - 1) .block
def tFst (k nu:Int) (t:Bs) (f:List G):List Tk:=
 if k=1 then [⟨2,[],nu.toNat⟩] else if k=2 then [⟨3,t,0⟩] else if k=3 then (if nu=0 then [kw Pars.wFalse] else [kw Pars.wTrue]) else if k=4 then [kw Pars.wNull] else if k=5 then [nm t]
 else if k=6 then tlisted [91] [93] (f.map (· (.at (-2)))) else if k=7 then tlisted [123] [125] (f.map (· .pair)) else if k=9 then tFn t f else []
def tEx (k nu:Int) (t:Bs) (f:List G):List Tk:=
 if k=19 then tkid f 0 (.at 7)++[sg [61]]++tkid f 1 (.at (-2))
 else if k=18 then tkid f 0 (.at 0)++[sg [63]]++tkid f 1 (.at (-2))++[sg [58]]++tkid f 2 (.at (-2))
 else if k=17∨k=16∨k=15 then tkid f 0 (.at (rank (.mk k nu t [])))++[sg (sgn k t)]++tkid f 1 (.at (rank (.mk k nu t [])+1))
 else if k=14 then [sg t]++tkid f 0 (.at 6)
 else if k=11 then tkid f 0 (.at 7)++tlisted [40] [41] ((f.drop 1).map (· (.at (-2))))
 else if k=12 then tkid f 0 (.at 7)++[sg [91]]++tkid f 1 (.at (-2))++[sg [93]]
 else if k=13 then tkid f 0 (.at 7)++[sg [46],nm t]
 else tFst k nu t f
def tBlock (f:List G):List Tk:=[sg [123]]++(f.flatMap fun g=>g .stmt)++[sg [125]]
def tIfs (l:List Node) (f:List G):List Tk:=
 [kw Pars.wIf,sg [40]]++tkid f 0 (.at (-2))++[sg [41]]++tkid f 1 .block++
  (if f.length=3 then [kw Pars.wElse]++(if (l.getD 2 default).kind=22 then tkid f 2 .ifs else tkid f 2 .block) else [])
def tTries (nu:Int) (t:Bs) (f:List G):List Tk:=
 [kw Pars.wTry]++tkid f 0 .block++(if nu=2 then [] else [kw Pars.wCatch,sg [40],nm t,sg [41]]++tkid f 1 .block)++
  (if 1<nu then [kw Pars.wFinally]++tkid f (if nu=2 then 1 else 2) .block else [])
def tStmt (k nu:Int) (t:Bs) (l:List Node) (f:List G):List Tk:=
 if k=20 then [kw Pars.wLet,nm t,sg [61]]++tkid f 0 (.at (-2))++[sg [59]]
 else if k=21 then tkid f 0 .fn
 else if k=22 then tIfs l f
 else if k=23 then [kw Pars.wWhile,sg [40]]++tkid f 0 (.at (-2))++[sg [41]]++tkid f 1 .block
 else if k=24 then [kw Pars.wFor,sg [40],kw Pars.wLet,nm t,kw Pars.wOf]++tkid f 0 (.at (-2))++[sg [41]]++tkid f 1 .block
 else if k=25 then [kw Pars.wReturn]++(if 0<f.length then tkid f 0 (.at (-2)) else [])++[sg [59]]
 else if k=26 then [kw Pars.wBreak,sg [59]]
 else if k=27 then [kw Pars.wContinue,sg [59]]
 else if k=28 then [kw Pars.wThrow]++tkid f 0 (.at (-2))++[sg [59]]
 else if k=29 then tTries nu t f
 else if k=30 then tBlock f
 else if k=31 then (if front (l.getD 0 default)=7∨front (l.getD 0 default)=9 then [sg [40]]++tkid f 0 (.at (-2))++[sg [41]] else tkid f 0 (.at (-2)))++[sg [59]]
 else []
def tstep (k nu:Int) (t:Bs) (l:List Node) (f:List G):G
 | .ex=>tEx k nu t f
 | .at q=>if q≤rank (.mk k nu t []) then tEx k nu t f else [sg [40]]++tEx k nu t f++[sg [41]]
 | .fst=>tFst k nu t f
 | .fn=>tFn t f
 | .block=>tBlock f
 | .ifs=>tIfs l f
 | .tries=>tTries nu t f
 | .stmt=>tStmt k nu t l f
 | .param=>[nm t]
 | .pair=>[nm t,sg [58]]++tkid f 0 (.at (-2))
mutual
def tw:Node→G
 | .mk k nu t l=>tstep k nu t l (tws l)
def tws:List Node→List G
 | []=>[]
 | n :: l=>tw n :: tws l
end
def HD (b:Bs):Prop:=∃c r,b=c :: r∧c≠61
theorem HD.app {a:Bs} (h:HD a) (b:Bs):HD (a++b):=by obtain⟨c,r,rfl,hc⟩:=h;exact⟨c,r++b,rfl,hc⟩
theorem wr_at (n:Node) (q:Int):wr n (.at q)=if q≤rank n then wr n .ex else [40]++wr n .ex++[41]:=by
 cases n with | mk k nu t l=>rfl
theorem tw_at (n:Node) (q:Int):tw n (.at q)=if q≤rank n then tw n .ex else [sg [40]]++tw n .ex++[sg [41]]:=by
 cases n with | mk k nu t l=>rfl
end Wri
namespace Wri
open Pars (Node Bs)
open Lexy (Tk sg kw nm W noN all IsName LexT)
structure LX (n:Node):Prop where
 ex:isE n→W noN (wr n .ex) (tw n .ex)
 stmt:20≤n.kind→W noN (wr n .stmt) (tw n .stmt)
 fn:n.kind=9→W noN (wr n .fn) (tw n .fn)
 block:n.kind=30→W noN (wr n .block) (tw n .block)
 ifs:n.kind=22→W noN (wr n .ifs) (tw n .ifs)
 pair:n.kind=8→W noN (wr n .pair) (tw n .pair)
theorem LX.e {n:Node} (h:W noN (wr n .ex) (tw n .ex)) (hk:n.kind≤19:=by simp[Node.kind]) (h8:n.kind≠8:=by simp[Node.kind]) (h9:n.kind≠9:=by simp[Node.kind]):LX n:=
 ⟨fun _=>h,fun e=>by omega,fun e=>absurd e h9,fun e=>by omega,fun e=>by omega,fun e=>absurd e h8⟩
theorem LX.s {n:Node} (h:W noN (wr n .stmt) (tw n .stmt)) (hk:20≤n.kind:=by simp[Node.kind]) (h2:n.kind≠22:=by simp[Node.kind]) (h3:n.kind≠30:=by simp[Node.kind]):LX n:=
 ⟨fun e=>by unfold isE at e;omega,fun _=>h,fun e=>by omega,fun e=>absurd e h3,fun e=>absurd e h2,fun e=>by omega⟩
theorem LX.at_ {n:Node} (h:LX n) (he:isE n) (q:Int):W noN (wr n (.at q)) (tw n (.at q)):=by
 rw[wr_at,tw_at]
 split
 ·exact h.ex he
 ·exact (((Lexy.w_sign1 40 (by decide)).after (h.ex he)).ahead (by decide) (Lexy.w_sign1 41 (by decide))).n
end Wri
namespace Wri
open Go (ln bn)
open Pars (Node Bs)
theorem rt_kids {a b:Bool} {k nu:Int} {t:Bs} {l:List Node} (h:Rt a b (.mk k nu t l)):(k=1→0≤nu∧nu≤9007199254740992)∧∀x∈l,∃a b,Rt a b x:=by
  cases h with
  | func _ _ _ ps b h1 h2 h3 h4=>
    refine⟨fun hk=>by omega,fun x hx=> ?_⟩
    rcases List.mem_append.1 hx with hx | hx
    · obtain⟨p,hp,rfl⟩:=List.mem_map.1 hx
      exact⟨false,false,.param false false p (h2 p hp)⟩
    · simp only[List.mem_cons,List.not_mem_nil,or_false] at hx
      subst hx
      exact⟨_,_,h4⟩
  | call _ _ c q h1 h2 h3 h4=>
    refine⟨fun hk=>by omega,fun x hx=> ?_⟩
    rcases List.mem_cons.1 hx with rfl | hx
    · exact⟨_,_,h2⟩
    · exact⟨_,_,h4 x hx⟩
  | list _ _ _ h1 h2=>exact⟨fun hk=>by omega,fun x hx=>⟨_,_,h2 x hx⟩⟩
  | recd _ _ _ h1 h2=>exact⟨fun hk=>by omega,fun x hx=>⟨_,_,h2 x hx⟩⟩
  | block _ _ _ h1 h2=>exact⟨fun hk=>by omega,fun x hx=>⟨_,_,h2 x hx⟩⟩
  | num _ _ _ h1 h2=>exact⟨fun _=>⟨h1,h2⟩,fun x hx=>by cases hx⟩
  | _=>
    refine⟨fun hk=>by omega,fun x hx=> ?_⟩
    first
      | (cases hx;done)
      | (simp only[List.mem_cons,List.not_mem_nil,or_false] at hx
         rcases hx with rfl | rfl | rfl<;>exact⟨_,_,by assumption⟩)
      | (simp only[List.mem_cons,List.not_mem_nil,or_false] at hx
         rcases hx with rfl | rfl<;>exact⟨_,_,by assumption⟩)
      | (simp only[List.mem_cons,List.not_mem_nil,or_false] at hx
         subst hx
         exact⟨_,_,by assumption⟩)
def sm:List Bs→Nat
 | []=>0
 | a :: l=>a.length+2+sm l
theorem joinC_len:∀l:List Bs,(joinC l).length≤sm l
 | []=>by simp[joinC,sm]
 | [a]=>by simp[joinC,sm]
 | a :: b :: l=>by
  have:=joinC_len (b :: l)
  simp only[joinC,sm,List.length_append,List.length_cons,List.length_nil] at this ⊢
  omega
def KL (l:List Node):Prop:=∀x∈l,∀m,(wr x m).length+8≤64 * wg x
theorem KL.tail {x:Node} {l:List Node} (h:KL (x :: l)):KL l:=fun y hy=>h y (by simp[hy])
theorem sm_len (m:M):∀l:List Node,KL l→sm (l.map (wr · m))≤64 * wgs l
 | [],_=>by simp[sm]
 | x :: l,h=>by
  have h1:=h x (by simp) m
  have h2:=sm_len m l h.tail
  simp only[List.map_cons,sm,wgs];omega
theorem flat_len':∀l:List Node,KL l→(l.flatMap fun x=>wr x .stmt++[32]).length≤64 * wgs l
 | [],_=>by simp
 | x :: l,h=>by
  have h1:=h x (by simp) .stmt
  have h2:=flat_len' l h.tail
  simp only[List.flatMap_cons,List.length_append,List.length_cons,List.length_nil,wgs] at h2 ⊢;omega
theorem joinB_len:∀l:List Node,KL l→(joinB (l.map fun x=>wr x .stmt)).length≤64 * wgs l
 | [],_=>by simp[joinB]
 | [a],h=>by
  have:=h a (by simp) .stmt
  simp only[List.map_cons,List.map_nil,joinB,wgs];omega
 | a :: b :: l,h=>by
  have h1:=h a (by simp) .stmt
  have h2:=joinB_len (b :: l) h.tail
  simp only[List.map_cons,joinB,wgs,List.length_append,List.length_cons,List.length_nil] at h2 ⊢;omega
theorem kid_nil (i:Nat) (m:M):kid (wrs []) i m=[]:=by simp[kid,wrs]
theorem kid_zero (x:Node) (l:List Node):kid (wrs (x :: l)) 0=wr x:=by simp[kid,wrs]
theorem kid_succ (x:Node) (l:List Node) (i:Nat):kid (wrs (x :: l)) (i+1)=kid (wrs l) i:=by simp[kid,wrs]
theorem kid1_len (i:Nat) (m:M):∀l:List Node,KL l→(kid (wrs l) i m).length≤64 * wgs l
 | [],_=>by rw[kid_nil];simp
 | x :: l,h=>by
  have h1:=h x (by simp) m
  cases i with
  | zero=>rw[kid_zero];simp only[wgs];omega
  | succ i=>rw[kid_succ];have:=kid1_len i m l h.tail;simp only[wgs];omega
theorem kid3_len (a b c:M) (l:List Node) (h:KL l):(kid (wrs l) 0 a).length+(kid (wrs l) 1 b).length+(kid (wrs l) 2 c).length≤64 * wgs l:=by
 cases l with
 | nil=>rw[kid_nil,kid_nil,kid_nil];simp
 | cons x l=>
  have h1:=h x (by simp) a
  rw[kid_zero,kid_succ,kid_succ]
  cases l with
  | nil=>rw[kid_nil,kid_nil];simp only[wgs,List.length_nil];omega
  | cons y l=>
   have h2:=h.tail y (by simp) b
   have h3:=kid1_len 0 c l h.tail.tail
   rw[kid_zero,kid_succ]
   simp only[wgs];omega
theorem kidr_len (a b:M) (l:List Node) (h:KL l):(kid (wrs l) 0 a).length+(joinC (((wrs l).drop 1).map (· b))).length≤64 * wgs l:=by
 cases l with
 | nil=>rw[kid_nil];simp[wrs,joinC]
 | cons x l=>
  have h1:=h x (by simp) a
  rw[kid_zero]
  have e:((wrs (x :: l)).drop 1).map (· b)=l.map (wr · b):=by simp only[wrs,List.drop_succ_cons,List.drop_zero];rw[wrs_map,List.map_map];rfl
  rw[e]
  have h2:=joinC_len (l.map (wr · b))
  have h3:=sm_len b l h.tail
  simp only[wgs];omega
theorem kidf_len (a b:M):∀(l:List Node) (q:Nat),KL l→sm (((wrs l).take q).map (· a))+(kid (wrs l) q b).length≤64 * wgs l
 | [],q,_=>by rw[kid_nil];simp[wrs,sm]
 | x :: l,0,h=>by
  have h1:=h x (by simp) b
  rw[kid_zero]
  simp only[List.take_zero,List.map_nil,sm,wgs];omega
 | x :: l,q+1,h=>by
  have h1:=h x (by simp) a
  have h2:=kidf_len a b l q h.tail
  rw[kid_succ]
  simp only[wrs,List.take_succ_cons,List.map_cons,sm,wgs];omega
theorem listed_len (o c:Bs) (l:List Bs):(listed o c l).length≤o.length+c.length+(joinC l).length:=by simp only[listed,List.length_append];omega
theorem quote_le (l:Bs):(Lexy.quote l).length≤4 * l.length+2:=by
 have:(l.flatMap Lexy.qb).length≤4 * l.length:=by
  induction l with
  | nil=>simp
  | cons c r ih=>have:=(Lexy.qb_len c).2;simp only[List.flatMap_cons,List.length_append,List.length_cons];omega
 simp only[Lexy.quote,List.length_cons,List.length_append,List.length_nil];omega
theorem sgn_len (k:Int) (t:Bs):(sgn k t).length≤t.length+2:=by
 unfold sgn;split
 ·simp
 ·split
  ·simp
  ·omega
section
variable {k nu : Int} {t : Bs} {l : List Node}
theorem fn_len (h:KL l):(wFn t (wrs l)).length≤t.length+64 * wgs l+12:=by
 have h1:=kidf_len .param .block l ((wrs l).length - 1) h
 have h2:=joinC_len (((wrs l).take ((wrs l).length - 1)).map (· M.param))
 have h3:=listed_len [40] [41] (((wrs l).take ((wrs l).length - 1)).map (· M.param))
 unfold wFn
 simp only[ln] at h3 ⊢
 by_cases ht:t=[]
 ·rw[if_pos ht];simp only[List.length_nil];omega
 ·rw[if_neg ht];simp only[List.length_cons];omega
theorem fst_len (hk:k=1→0≤nu∧nu≤9007199254740992) (h:KL l):(wFst k nu t (wrs l)).length≤4 * t.length+64 * wgs l+24:=by
 have hj:∀m:M,(joinC ((wrs l).map (· m))).length≤64 * wgs l:=fun m=>by
  have h1:=joinC_len ((wrs l).map (· m))
  have h2:=sm_len m l h
  have e:(wrs l).map (· m)=l.map (wr · m):=by rw[wrs_map,List.map_map];rfl
  rw[e] at h1 ⊢;omega
 unfold wFst
 by_cases h1:k=1
 ·rw[if_pos h1]
  have:=Go.Lib.itoa_length_le nu (by have:=hk h1;omega) (by have:=hk h1;omega)
  omega
 rw[if_neg h1]
 by_cases h2:k=2
 ·rw[if_pos h2];have:=quote_le t;omega
 rw[if_neg h2]
 by_cases h3:k=3
 ·rw[if_pos h3];split<;>simp
 rw[if_neg h3]
 by_cases h4:k=4
 ·rw[if_pos h4];simp
 rw[if_neg h4]
 by_cases h5:k=5
 ·rw[if_pos h5];omega
 rw[if_neg h5]
 by_cases h6:k=6
 ·rw[if_pos h6];have h7:=listed_len [91] [93] ((wrs l).map (· (M.at (-2))));have:=hj (.at (-2));simp only[List.length_cons,List.length_nil] at h7;omega
 rw[if_neg h6]
 by_cases h7:k=7
 ·rw[if_pos h7];have h8:=listed_len [123] [125] ((wrs l).map (· M.pair));have:=hj .pair;simp only[List.length_cons,List.length_nil] at h8;omega
 rw[if_neg h7]
 by_cases h9:k=9
 ·rw[if_pos h9];have:=fn_len (t:=t) h;omega
 rw[if_neg h9];simp
theorem ex_len (hk:k=1→0≤nu∧nu≤9007199254740992) (h:KL l):(wEx k nu t (wrs l)).length≤4 * t.length+64 * wgs l+24:=by
 have h3:=fun a b c=>kid3_len a b c l h
 unfold wEx
 split
 ·have:=h3 (.at 7) (.at (-2)) (.at (-2));simp only[ln];omega
 split
 ·have:=h3 (.at 0) (.at (-2)) (.at (-2));simp only[ln];omega
 split
 ·have:=h3 (.at (rank (.mk k nu t []))) (.at (rank (.mk k nu t [])+1)) (.at (-2))
  have:=sgn_len k t
  simp only[ln];omega
 split
 ·have:=kid1_len 0 (.at 6) l h;simp only[List.length_append];omega
 split
 ·have h4:=kidr_len (.at 7) (.at (-2)) l h
  have h5:=listed_len [40] [41] (((wrs l).drop 1).map (· (M.at (-2))))
  simp only[ln] at h5 ⊢;omega
 split
 ·have:=h3 (.at 7) (.at (-2)) (.at (-2));simp only[ln];omega
 split
 ·have:=kid1_len 0 (.at 7) l h;simp only[List.length_append,List.length_cons];omega
 ·exact fst_len hk h
theorem block_len (h:KL l):(wBlock (wrs l)).length≤64 * wgs l+8:=by
 have e:((wrs l).flatMap fun g=>g .stmt++[32])=l.flatMap fun x=>wr x .stmt++[32]:=by rw[wrs_map,List.flatMap_map]
 have:=flat_len' l h
 unfold wBlock
 rw[e]
 simp only[ln];omega
theorem ifs_len (h:KL l):(wIfs l (wrs l)).length≤64 * wgs l+16:=by
 have h1:=kid3_len (.at (-2)) .block .ifs l h
 have h2:=kid3_len (.at (-2)) .block .block l h
 unfold wIfs
 simp only[ln]
 split
 ·split<;>simp only[ln]<;>omega
 ·simp only[List.length_nil];omega
theorem tries_len (h:KL l):(wTries nu t (wrs l)).length≤t.length+64 * wgs l+24:=by
 have h1:=kid3_len .block .block .block l h
 unfold wTries
 simp only[ln]
 split
 ·split<;>simp only[ln]<;>omega
 ·split<;>simp only[ln]<;>omega
theorem stmt_len (h:KL l):(wStmt k nu t l (wrs l)).length≤t.length+64 * wgs l+24:=by
 have h3:=fun a b c=>kid3_len a b c l h
 have hb:=block_len h
 have hi:=ifs_len h
 have ht:=tries_len (nu:=nu) (t:=t) h
 have e2:=h3 (.at (-2)) .block .block
 have e1:=kid1_len 0 (.at (-2)) l h
 have ef:=kid1_len 0 .fn l h
 unfold wStmt
 by_cases y20:k=20
 ·rw[if_pos y20]
  simp only[ln];omega
 rw[if_neg y20]
 by_cases y21:k=21
 ·rw[if_pos y21]
  omega
 rw[if_neg y21]
 by_cases y22:k=22
 ·rw[if_pos y22]
  omega
 rw[if_neg y22]
 by_cases y23:k=23
 ·rw[if_pos y23]
  simp only[ln];omega
 rw[if_neg y23]
 by_cases y24:k=24
 ·rw[if_pos y24]
  simp only[ln];omega
 rw[if_neg y24]
 by_cases y25:k=25
 ·rw[if_pos y25]
  split<;>simp only[ln]<;>omega
 rw[if_neg y25]
 by_cases y26:k=26
 ·rw[if_pos y26]
  simp only[List.length_cons,List.length_nil];omega
 rw[if_neg y26]
 by_cases y27:k=27
 ·rw[if_pos y27]
  simp only[List.length_cons,List.length_nil];omega
 rw[if_neg y27]
 by_cases y28:k=28
 ·rw[if_pos y28]
  simp only[ln];omega
 rw[if_neg y28]
 by_cases y29:k=29
 ·rw[if_pos y29]
  omega
 rw[if_neg y29]
 by_cases y30:k=30
 ·rw[if_pos y30]
  omega
 rw[if_neg y30]
 by_cases y31:k=31
 ·rw[if_pos y31]
  by_cases hf:front (l.getD 0 default)=7∨front (l.getD 0 default)=9
  ·rw[if_pos hf];simp only[ln];omega
  ·rw[if_neg hf];simp only[ln];omega
 rw[if_neg y31]
 simp only[List.length_nil];omega
end
theorem wr_len:∀n:Node,(∃a b,Rt a b n)→∀m,(wr n m).length+8≤64 * wg n:=by
 refine ind fun k nu t l ih hr m=> ?_
 obtain⟨a,b,hr⟩:=hr
 obtain⟨hk,hkids⟩:=rt_kids hr
 have h:KL l:=fun x hx m=>ih x hx (hkids x hx) m
 have h1:=ex_len (t:=t) hk h
 have h2:=fst_len (t:=t) hk h
 have h3:=fn_len (t:=t) h
 have h4:=block_len h
 have h5:=ifs_len h
 have h6:=tries_len (nu:=nu) (t:=t) h
 have h7:=stmt_len (k:=k) (nu:=nu) (t:=t) h
 have h8:=kid1_len 0 (.at (-2)) l h
 show (step k nu t l (wrs l) m).length+8≤64 * (t.length+wgs l+1)
 cases m<;>simp only[step]
 case «at» q=>
  split
  ·omega
  ·simp only[ln];omega
 case pair=>simp only[ln];omega
 all_goals omega
end Wri
namespace Go.Proofs.YtflmjbmdmoifhaaGreatDoor
open Go.Lib (hid)
open Go.RowKit
def WriteOut (n:Pars.Node) (w:World) (e:Ending) (w':World):Prop:=
 (∃s,Wri.write n= .ok s∧e= .returned (.tuple #[.string (byt s),.int .i64 0])∧Below w.heap.size w w')∨
 (∃k:Nat,Wri.write n= .error k∧(k=2∨k=3)∧e= .returned (.tuple #[.string ⟨#[]⟩,.int .i64 (k:Int)])∧Below w.heap.size w w')
theorem wt_fresh {B:Nat} (w:World) (hB:B≤w.heap.size):Wt B w.heap.size [] (w.alloc (.cells #[.pointer none,.slice none 0 0] 87)):=Or.inl ⟨hB,.slice none 0 0,(Box.new w _ _),World.ownsRow_nil _ _ _ _,by simp[Value.ownBlock]⟩
def jb (kl:List Pars.Node) (j:Nat):List UInt8:=Wri.joinB ((kl.take j).map fun x=>Wri.wr x .stmt)
theorem joinB_snoc:∀(l:List (List UInt8)) (a:List UInt8),l≠[]→Wri.joinB (l++[a])=Wri.joinB l++[32]++a
 | [],_,h=>absurd rfl h
 | [b],a,_=>by simp[Wri.joinB]
 | b :: c :: l,a,_=>by
  have ih:=joinB_snoc (c :: l) a (by simp)
  simp only[List.cons_append,Wri.joinB] at ih ⊢
  rw[ih];simp
theorem jb_zero (kl:List Pars.Node):jb kl 0=[]:=rfl
theorem jb_one {kl:List Pars.Node} {x:Pars.Node} (h:kl[0]? =some x):jb kl (0+1)=Wri.wr x .stmt:=by
 unfold jb
 rw[List.take_add_one,h];rfl
theorem jb_next {kl:List Pars.Node} {x:Pars.Node} {j:Nat} (h:kl[j]? =some x) (hj:0<j):jb kl (j+1)=jb kl j++[32]++Wri.wr x .stmt:=by
 have hlt:=(List.getElem?_eq_some_iff.1 h).1
 unfold jb
 rw[List.take_add_one,h,Option.toList_some,List.map_append,List.map_cons,List.map_nil,joinB_snoc]
 intro h0
 have h1:((kl.take j).map fun x=>Wri.wr x .stmt).length=j:=by rw[List.length_map,List.length_take];omega
 rw[h0] at h1
 simp at h1
 omega
theorem jb_all (kl:List Pars.Node) {j:Nat} (h:kl.length≤j):jb kl j=Wri.joinB (kl.map fun x=>Wri.wr x .stmt):=by
 unfold jb;rw[List.take_of_length_le h]
theorem wgs_take (kl:List Pars.Node) (j:Nat):Wri.wgs (kl.take j)≤Wri.wgs kl:=by
 induction kl generalizing j with
 | nil=>simp
 | cons x l ih=>
  cases j with
  | zero=>simp[Wri.wgs]
  | succ j=>simp only[List.take_succ_cons,Wri.wgs];have:=ih j;omega
theorem jb_len {kl:List Pars.Node} (h:Wri.KL kl) (j:Nat):(jb kl j).length≤64 * Wri.wgs kl:=by
 have h1:=Wri.joinB_len (kl.take j) (fun x hx m=>h x (List.mem_of_mem_take hx) m)
 have h2:=wgs_take kl j
 unfold jb;omega
theorem ri_check {n:Pars.Node} (h:Wri.check n=0) (hf:Scopy.few n=true):Ri n:=by
 unfold Wri.check at h
 split at h
 ·cases h
 ·rename_i h1
  refine⟨⟨false,false,?_⟩,hf⟩
  cases hr:Wri.right n false false with
  | true=>rfl
  | false=>exact absurd (.inr hr) h1
theorem ri_KL {k nu:Int} {t:List UInt8} {l:List Pars.Node} (h:Ri (.mk k nu t l)):Wri.KL l:=by
 obtain⟨⟨a,b,h⟩,_⟩:=h
 exact fun x hx m=>Wri.wr_len x ((Wri.rt_kids (Wri.rt_of _ _ _ h)).2 x hx) m
theorem check_vals (n:Pars.Node):Wri.check n=0∨Wri.check n=2∨Wri.check n=3:=by
 unfold Wri.check;split
 ·simp
 ·split<;>simp
set_option maxRecDepth 100000 in
set_option maxHeartbeats 4000000 in
theorem write_any {n:Pars.Node} {cs:Array Value} {w:World} {S:Nat→Prop} (hfew:Scopy.few n=true) (hM:Wri.wg n≤1048576) (hn:NodeAt w S n cs) (he:EnvW w):Calls Tryz.prog 20 #[.agg cs] w (WriteOut n w):=by
 obtain⟨k,nu,t,kl⟩:=n
 replace hn:=NodeAt.keep (S1:=fun g=>g<w.heap.size) (w1:=w) (fun g _ h=>h) (Nat.le_refl _) (fun _ _ _=>rfl) hn
 have hn0:=hn
 unfold NodeAt at hn
 obtain⟨A,cap,css,rfl,hc1,hc2,hrow,hk⟩:=hn
 have HROW:=hid hrow
 have HK:=hid hk
 have HN:=hid hn0
 have HE:=hid he
 have hll:=Wri.wgs_len kl
 have h7:=he.big
 have HWG:=hid hM
 clear hrow hk hn0 he
 have INF:(Tryz.prog.info? 24).map (·.size)=some (nc k nu t (.slice A kl.length cap)).size:=info_nod
 obtain⟨c,hc⟩:∃c,Wri.check (.mk k nu t kl)=c:=⟨_,rfl⟩
 have hcv:=check_vals (.mk k nu t kl)
 rw[hc] at hcv
 have HC:=hid hc
 clear hc
 go_enter Tryz.func20,Tryz.ntmps20
 go_upto_region 1 with fail
 refine gen_world (F:=fun W=>Box W w.heap.size 24 (nc k nu t (.slice A kl.length cap))∧Below w.heap.size w W) ⟨Box.new w _ _,below1 w _⟩ ?_
 rintro W0 ⟨b0,hU⟩
 have NB:=hid b0
 have HU:=hid hU
 have hB0:=hU.size
 clear b0 hU
 go_wp2_with (refine wpList_load_row rfl 24 (.tmp 1) rfl w.heap.size rfl _ (nc k nu t (.slice A kl.length cap)) (0,0) _ NB.out Tryz.underlying24 rfl INF ?_)
 refine (check_is (by have:=HWG.out;omega) (HN.out.belowB HU.out) (HE.out.below HU.out h7)).mono ?_
 rintro e w1 ⟨rfl,hb⟩
 rw[HC.out]
 replace NB:=bl NB hb
 replace HU:=hid (HU.out.trans (hb.mono hB0))
 replace hB0:=Nat.le_trans hB0 hb.size
 have hnw:w.heap.size<w1.heap.size:=NB.out.lt
 clear hb
 by_cases hc0:c=0
 ·have HC0:=hid hc0
  have hR:Ri (.mk k nu t kl):=ri_check (by rw[HC.out];exact hc0) hfew
  have HKL:=hid (ri_KL hR)
  have HJL:=hid (fun j=>jb_len (ri_KL hR) j)
  subst hc0
  go_upto_region 5 with fail
  refine gen_world (F:=fun W=>Wt w.heap.size w1.heap.size [] W∧Box W w.heap.size 24 (nc k nu t (.slice A kl.length cap))∧Below w.heap.size w W) ⟨wt_fresh w1 hB0,NB.out.alloc _,HU.out.trans ((below1 w1 _).mono hB0)⟩ ?_
  clear NB HU
  rintro W1 ⟨wt0,b0,hU⟩
  have WT:=hid wt0
  have NB:=hid b0
  have HU:=hid hU
  have hB1:=hU.size
  clear hB0
  have hB0:=hB1
  clear wt0 b0 hU
  have HNENB:Hid (w.heap.size≠w1.heap.size):=hid (by omega)
  clear hnw
  have c3:=NB.out.cell 3
  simp[nc] at c3
  go_wp2
  go_loopg [16] kl.length (fun gg s16 wr=>∃j:Nat,j≤kl.length∧kl.length - j≤gg∧s16= .int .i64 (j:Int)∧w.heap.size≤wr.heap.size∧Hid (Wt w.heap.size w1.heap.size (jb kl j) wr)∧Hid (Box wr w.heap.size 24 (nc k nu t (.slice A kl.length cap)))∧Hid (Below w.heap.size w wr))
  case atStart=>exact⟨0,Nat.zero_le _,by omega,rfl,hB0,by simpa [jb_zero] using WT,NB,HU⟩
  case round=>
   clear WT NB HU hB0 c3
   obtain⟨j,hj,hg,rfl,hB0,WT,NB,HU⟩:=hrel
   by_cases hlt:j<kl.length
   ·have hltz:(j:Int)<(kl.length:Int):=by omega
    have hltd:decide ((j:Int)<(kl.length:Int))=true:=decide_eq_true hltz
    have wj:IntKind.i64.wrap ((j:Int)+1)=(j:Int)+1:=by rw[IntKind.wrap_i64];simp only[Wri.wg] at hM;omega
    obtain⟨x,hx⟩:∃x,kl[j]? =some x:=⟨_,List.getElem?_eq_getElem hlt⟩
    have HX:=hid hx
    have HXL:=hid (HKL.out x (List.mem_of_getElem? hx) .stmt)
    have hxw:=Wri.wg_mem (List.mem_of_getElem? hx)
    obtain⟨xc,g0,o0,rfl,hg0,hx4,hnx,hrx⟩:=kid_at HK.out HROW.out hx
    have HR0:=hid hrx
    have HXN:=hid hnx
    have HXR:=hid (ri_kid hR x (List.mem_of_getElem? hx))
    have HXW:Hid (Wri.wg x≤1048576):=hid (by simp only[Wri.wg] at hM;omega)
    have hinf:(Tryz.prog.info? 24).map (·.size)=some xc.toList.length:=by rw[Array.length_toList,hx4];exact info_nod
    have HXI:=hid hinf
    have hinf2:(Tryz.prog.info? 24).map (·.size)=some xc.size:=by rw[hx4];exact info_nod
    have HXI2:=hid hinf2
    have H4:Hid ((4:Nat)=xc.size):=hid hx4.symm
    have HONE:=hid (NodeAt.one hnx)
    clear hxw hnx hrx hinf hinf2 hx4
    have hkl:=hlt
    have hwx:=HXW.out
    have HNEEB:Hid (wr.heap.size≠w1.heap.size):=hid (by have:=WT.out.lt.2;omega)
    clear hx
    have hrr:=HR0.out wr HU.out
    have c3:=NB.out.cell 3
    simp[nc] at c3
    have hwb2:=WT.out.lt.2
    go_upto_region 8 with (first | (refine wpList_load_mid rfl 24 (.tmp 19) rfl g0 (o0+j * 4) rfl xc.toList _ hrr Tryz.underlying24 rfl HXI.out ?_) | (refine wpList_store_box rfl 24 (.tmp 7) (.tmp 20) rfl wr.heap.size xc rfl (by simp[Act.eval,Act.put]) 24 _ (Box.new wr _ _) HXI2.out H4.out HONE.out ?_;intro w2 hx2 hu2 hz2;have HZ2:=hid hz2;clear hz2))
    have hb2:Below wr.heap.size wr w2:=((Below.refl _ wr).alloc (Nat.le_refl _) _).trans (hu2.own (Nat.le_refl _) (by simp))
    have EB:=hid hx2
    replace NB:=bl NB hb2
    replace WT:=hid (WT.out.below hb2)
    replace HU:=hid (HU.out.trans (hb2.mono hB0))
    replace hB0:=Nat.le_trans hB0 hb2.size
    clear hx2 hu2 hb2 hrr c3 hwb2
    by_cases hj0:j=0
    ·have HJ0:=hid hj0
     have hjd:decide ((0:Int)<(j:Int))=false:=decide_eq_false (by omega)
     have hje:decide (0<j)=false:=decide_eq_false (by omega)
     clear hj0
     replace WT:Hid (Wt w.heap.size w1.heap.size [] w2):=hid (by have:=WT.out;rwa [HJ0.out,jb_zero] at this)
     have eb:=EB.out
     go_wp2_with (refine wpList_load_row rfl 24 (.tmp 7) rfl wr.heap.size rfl _ xc (0,0) _ eb Tryz.underlying24 rfl HXI2.out ?_)
     refine ((wall 1048576).stmt HXW.out HXW.out HXR.out (HXN.out.belowB HU.out) WT.out hB0 h7 (HE.out.below HU.out h7) (by have:=HJL.out j;have:=HXL.out;simp only[Wri.wg] at hM;(try simp only[ln]);omega)).mono ?_
     rintro e w3 ⟨rfl,hw,hb,hs⟩
     clear eb EB
     replace WT:=hid hw
     replace NB:=st hs NB HNENB
     replace HU:=hid (HU.out.trans hb)
     replace hB0:=Nat.le_trans hB0 hb.size
     clear hw hb hs
     go_wp2
     go_roundg (kl.length - (j+1))
     case measure=>omega
     case rel=>
      have hx0:=HX.out
      rw[HJ0.out] at hx0
      have e0:=jb_one hx0
      rw[←HJ0.out] at e0
      exact⟨j+1,by omega,by omega,rfl,hB0,by rw[e0];simpa using WT,NB,HU⟩
    ·have HJ0:Hid (0<j):=hid (by omega)
     have hjd:decide ((0:Int)<(j:Int))=true:=decide_eq_true (by omega)
     have hje:decide (0<j)=true:=decide_eq_true (by omega)
     clear hj0
     go_wp2_with fail
     refine (wbyte w.heap.size w1.heap.size (jb kl j) 32 _ WT.out (by have:=HJL.out j;simp only[Wri.wg] at hM;omega) hB0).mono ?_
     rintro e w3 ⟨rfl,hw,hb,hs⟩
     replace WT:=hid hw
     replace NB:=st hs NB HNENB
     replace EB:=st hs EB HNEEB
     replace HU:=hid (HU.out.trans hb)
     replace hB0:=Nat.le_trans hB0 hb.size
     clear hw hb hs
     have eb:=EB.out
     go_wp2_with (refine wpList_load_row rfl 24 (.tmp 7) rfl wr.heap.size rfl _ xc (0,0) _ eb Tryz.underlying24 rfl HXI2.out ?_)
     refine ((wall 1048576).stmt HXW.out HXW.out HXR.out (HXN.out.belowB HU.out) WT.out hB0 h7 (HE.out.below HU.out h7) (by have:=HJL.out j;have:=HXL.out;simp only[Wri.wg] at hM;(try simp only[ln]);omega)).mono ?_
     rintro e w4 ⟨rfl,hw,hb,hs⟩
     clear eb EB
     replace WT:=hid hw
     replace NB:=st hs NB HNENB
     replace HU:=hid (HU.out.trans hb)
     replace hB0:=Nat.le_trans hB0 hb.size
     clear hw hb hs
     go_wp2
     go_roundg (kl.length - (j+1))
     case measure=>omega
     case rel=>exact⟨j+1,by omega,by omega,rfl,hB0,by rw[jb_next HX.out HJ0.out];simpa [List.append_assoc] using WT,NB,HU⟩
   ·have hltz:¬(j:Int)<(kl.length:Int):=by omega
    have hltd:decide ((j:Int)<(kl.length:Int))=false:=decide_eq_false hltz
    obtain⟨s,hs0⟩:∃s,Wri.text (.mk k nu t kl)=s:=⟨_,rfl⟩
    have HS0:=hid hs0
    have hjl:=HJL.out j
    replace WT:Hid (Wt w.heap.size w1.heap.size s wr):=hid (by have:=WT.out;rw[jb_all kl (by omega)] at this;rw[←hs0];exact this)
    have hsl:s.length≤64 * Wri.wgs kl:=by rw[←hs0];show (Wri.joinB (kl.map fun x=>Wri.wr x .stmt)).length≤_;rw[←jb_all kl (j:=j) (by omega)];exact hjl
    clear hs0 hjl
    simp only[Wri.wg] at hM
    go_wp2_with fail
    refine (wlen w.heap.size w1.heap.size s _ WT.out).mono ?_
    rintro e w2 ⟨rfl,rfl⟩
    by_cases hs2:2000<s.length
    ·have HS2:=hid hs2
     have d1:decide ((2000:Int)<(s.length:Int))=true:=decide_eq_true (by omega)
     have d2:(2000:Int)<(s.length:Int):=by omega
     go_wp2
     go_returns
     exact .inr ⟨2,by unfold Wri.write;rw[HC.out,if_neg (by decide),HS0.out,if_pos HS2.out],.inl rfl,rfl,HU.out⟩
    ·have HS2:=hid hs2
     have d1:decide ((2000:Int)<(s.length:Int))=false:=decide_eq_false (by omega)
     have d2:¬(2000:Int)<(s.length:Int):=by omega
     go_wp2_with fail
     refine (wstring w.heap.size w1.heap.size s _ WT.out hB0).mono ?_
     rintro e w3 ⟨rfl,hb⟩
     go_wp2
     go_returns
     exact .inl ⟨s,by unfold Wri.write;rw[HC.out,if_neg (by decide),HS0.out,if_neg HS2.out],rfl,HU.out.trans hb⟩
 have d1:((c:Int)==0)=false:=by rw[beq_eq_false_iff_ne];omega
 have d2:((c:Int) != 0)=true:=by simp[bne,d1]
 go_wp2
 go_returns
 exact .inr ⟨c,by unfold Wri.write;rw[HC.out,if_pos hc0],by omega,rfl,HU.out⟩
end Go.Proofs.YtflmjbmdmoifhaaGreatDoor
namespace Go.Proofs.YtflmjbmdmoifhaaGreatDoor
open Go.Lib (hid)
open Go.RowKit
theorem all_hit {α:Type} {p:α→Bool} {l:List α} {k:Nat} {x:α} (h:l[k]? =some x) (hp:p x=false):l.all p=false:=by
 rw[List.all_eq_false]
 exact⟨x,List.mem_of_getElem? h,by rw[hp];simp⟩
theorem all_yes {α:Type} {p:α→Bool} {l:List α} (h:∀(j:Nat) (y:α),l[j]? =some y→p y=true):l.all p=true:=by
 rw[List.all_eq_true]
 intro x hx
 obtain⟨j,hj⟩:=List.getElem?_of_mem hx
 exact h j x hj
def errs (l:List Int):Array Value:=(l.map (Value.int .i64)).toArray
set_option maxHeartbeats 2000000 in
theorem ok_any (l:List Int) (b:Nat) (w:World) (hb:Box w b 28 (errs l)) (hl:l.length≤100):
  Calls Tryz.prog 10 #[.slice (some ⟨b,0,none⟩) l.length l.length] w fun e w'=>e= .returned (.bool (l.all fun n=>decide (n=0)))∧w'=w:=by
 have HB:=hid hb
 obtain⟨n,hn⟩:∃n,l.length=n:=⟨_,rfl⟩
 have HN:=hid hn
 rw[hn] at hl ⊢
 clear hb hn
 go_enter Tryz.func10,Tryz.ntmps10
 go_upto_region 2 with fail
 go_loopg [4,7] n (fun gg _ s7 wr=>∃j:Nat,j≤n∧n - j≤gg∧s7= .int .i64 (j:Int)∧wr=w∧Hid (∀(i:Nat) (x:Int),i<j→l[i]? =some x→x=0))
 case atStart=>exact⟨0,Nat.zero_le _,by omega,rfl,rfl,fun i x hi=>absurd hi (Nat.not_lt_zero _)⟩
 case round=>
  obtain⟨j,hj,hgg,rfl,rfl,AA⟩:=hrel
  by_cases hlt:j<n
  ·have hlt2:decide ((j:Int)<(n:Int))=true:=decide_eq_true (by omega)
   have hltz:(j:Int)<(n:Int):=by omega
   obtain⟨x,hx⟩:∃x,l[j]? =some x:=⟨_,List.getElem?_eq_getElem (by rw[HN.out];exact hlt)⟩
   have cx:wr.cell? ⟨b,j,none⟩=some (.int .i64 x):=by
    rw[HB.out.cell j]
    simp[errs,hx]
   have HX:=hid hx
   clear hx
   by_cases y:x=0
   ·subst y
    go_wp2
    go_roundg (n - (j+1))
    case measure=>omega
    case rel=>
     refine⟨j+1,by omega,by omega,by go_num,rfl,(show Hid _ from fun i x hi hx=> ?_)⟩
     by_cases e:i=j
     ·subst e
      have:=HX.out
      rw[hx] at this
      injection this
     ·exact AA.out i x (by omega) hx
   ·have e1:(x != 0)=true:=by simp[y]
    have Y:=hid y
    clear y
    go_wp2
    go_ret
    exact⟨ret_bool (all_hit HX.out (decide_eq_false Y.out)).symm,rfl⟩
  ·have hlt2:decide ((j:Int)<(n:Int))=false:=decide_eq_false (by omega)
   go_wp2
   go_ret
   exact⟨ret_bool (all_yes (fun i x hi=>decide_eq_true (AA.out i x (by have:=(List.getElem?_eq_some_iff.1 hi).1;have:=HN.out;omega) hi))).symm,rfl⟩
def TruthOut (w:World) (e:Ending) (w':World):Prop:=e= .returned (.bool true)∧Below w.heap.size w w'
end Go.Proofs.YtflmjbmdmoifhaaGreatDoor
namespace Go.Proofs.YtflmjbmdmoifhaaGreatDoor
open Go.Lib (hid)
open Go.RowKit
def PC (s:List UInt8) (n:Pars.Node) (k:Int):Prop:=(Pars.parse s= .ok n∧k=0)∨(n= .mk 0 0 [] []∧(k=2∧Pars.parse s= .error 2∨k=4∧Pars.parse s= .error 4))
theorem parse_c (s:List UInt8) (w:World) (he:EnvW w) (hm:s.length≤9223372036854775807):
  Calls Tryz.prog 19 #[.string (byt s)] w fun e w'=>∃n cs k,e= .returned (.tuple #[.agg cs,.int .i64 k])∧NodeAt w' (fun _=>True) n cs∧Below w.heap.size w w'∧PC s n k:=
 (parse_any s w he.sp (by have:=he.big;omega) hm).mono (by
  rintro e w' (⟨n,cs,hp,rfl,hn,hb⟩ | ⟨k,hp,hk,rfl,hb⟩)
  ·exact⟨n,cs,0,rfl,hn.weak (fun _ _=>trivial),hb,.inl ⟨hp,rfl⟩⟩
  ·refine⟨.mk 0 0 [] [],_,k,rfl,NodeAt.leaf _ _ 0 0 [],hb,.inr ⟨rfl,?_⟩⟩
   rcases hk with rfl | rfl
   ·exact .inl ⟨rfl,hp⟩
   ·exact .inr ⟨rfl,hp⟩)
def WQ (n:Pars.Node) (t:List UInt8) (k:Int):Prop:=(Wri.write n= .ok t∧k=0)∨(t=[]∧(k=2∧Wri.write n= .error 2∨k=3∧Wri.write n= .error 3))
theorem write_c {n:Pars.Node} {cs:Array Value} {w:World} {S:Nat→Prop} (hfew:Scopy.few n=true) (hM:Wri.wg n≤1048576) (hn:NodeAt w S n cs) (he:EnvW w):
  Calls Tryz.prog 20 #[.agg cs] w fun e w'=>∃t k,e= .returned (.tuple #[.string (byt t),.int .i64 k])∧Below w.heap.size w w'∧WQ n t k:=
 (write_any hfew hM hn he).mono (by
  rintro e w' (⟨t,ht,rfl,hb⟩ | ⟨k,ht,hk,rfl,hb⟩)
  ·exact⟨t,0,rfl,hb,.inl ⟨ht,rfl⟩⟩
  ·refine⟨[],k,rfl,hb,.inr ⟨rfl,?_⟩⟩
   rcases hk with rfl | rfl
   ·exact .inl ⟨rfl,ht⟩
   ·exact .inr ⟨rfl,ht⟩)
end Go.Proofs.YtflmjbmdmoifhaaGreatDoor

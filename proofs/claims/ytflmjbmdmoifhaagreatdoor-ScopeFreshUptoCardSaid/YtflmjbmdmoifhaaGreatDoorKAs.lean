/-
  Texts that the law leans on: PwO, PwP, PwQ, PwR, PwT, PwU, PwX. Conditions: as each says.
-/
import Derived.Test.YtflmjbmdmoifhaaGreatDoorKAr
import Derived.StillTailTactics
import Derived.Test.YtflmjbmdmoifhaaGreatDoorKAa
set_option linter.unusedSimpArgs false
set_option linter.unusedVariables false
namespace Go.Proofs.YtflmjbmdmoifhaaGreatDoor
open Go.Lib (hid)
open Go.RowKit
structure Wall (N:Nat):Prop where
 block:∀{n:Pars.Node} {cs:Array Value} {w:World} {B wb:Nat} {l:List UInt8},Wri.wg n≤N→Wri.wg n≤1048576→Ri n→NodeAt w (fun g=>g<B) n cs→Wt B wb l w→B≤w.heap.size→7≤B→EnvW w→l.length+(Wri.wr n .block).length≤70368744177664→Calls Tryz.prog 59 #[.pointer (some ⟨wb,0,none⟩),.agg cs] w (WOut B wb l (Wri.wr n .block) w)
 stmt:∀{n:Pars.Node} {cs:Array Value} {w:World} {B wb:Nat} {l:List UInt8},Wri.wg n≤N→Wri.wg n≤1048576→Ri n→NodeAt w (fun g=>g<B) n cs→Wt B wb l w→B≤w.heap.size→7≤B→EnvW w→l.length+(Wri.wr n .stmt).length≤70368744177664→Calls Tryz.prog 33 #[.pointer (some ⟨wb,0,none⟩),.agg cs] w (WOut B wb l (Wri.wr n .stmt) w)
 any:∀{n:Pars.Node} {cs:Array Value} {w:World} {B wb:Nat} {l:List UInt8},Wri.wg n≤N→Wri.wg n≤1048576→Ri n→NodeAt w (fun g=>g<B) n cs→Wt B wb l w→B≤w.heap.size→7≤B→EnvW w→l.length+(Wri.wr n (.at (-2))).length≤70368744177664→Calls Tryz.prog 56 #[.pointer (some ⟨wb,0,none⟩),.agg cs] w (WOut B wb l (Wri.wr n (.at (-2))) w)
 ex:∀{n:Pars.Node} {cs:Array Value} {w:World} {B wb:Nat} {l:List UInt8},Wri.wg n≤N→Wri.wg n≤1048576→Ri n→NodeAt w (fun g=>g<B) n cs→Wt B wb l w→B≤w.heap.size→7≤B→EnvW w→l.length+(Wri.wr n .ex).length≤70368744177664→Calls Tryz.prog 106 #[.pointer (some ⟨wb,0,none⟩),.agg cs] w (WOut B wb l (Wri.wr n .ex) w)
 fst:∀{n:Pars.Node} {cs:Array Value} {w:World} {B wb:Nat} {l:List UInt8},Wri.wg n≤N→Wri.wg n≤1048576→Ri n→NodeAt w (fun g=>g<B) n cs→Wt B wb l w→B≤w.heap.size→7≤B→EnvW w→l.length+(Wri.wr n .fst).length≤70368744177664→Calls Tryz.prog 115 #[.pointer (some ⟨wb,0,none⟩),.agg cs] w (WOut B wb l (Wri.wr n .fst) w)
 fn:∀{n:Pars.Node} {cs:Array Value} {w:World} {B wb:Nat} {l:List UInt8},Wri.wg n≤N→Wri.wg n≤1048576→Ri n→n.kind=9→NodeAt w (fun g=>g<B) n cs→Wt B wb l w→B≤w.heap.size→7≤B→EnvW w→l.length+(Wri.wr n .fn).length≤70368744177664→Calls Tryz.prog 57 #[.pointer (some ⟨wb,0,none⟩),.agg cs] w (WOut B wb l (Wri.wr n .fn) w)
 at_:∀(q:Int) {n:Pars.Node} {cs:Array Value} {w:World} {B wb:Nat} {l:List UInt8},Wri.wg n≤N→Wri.wg n≤1048576→Ri n→NodeAt w (fun g=>g<B) n cs→Wt B wb l w→B≤w.heap.size→7≤B→EnvW w→l.length+(Wri.wr n (.at q)).length≤70368744177664→Calls Tryz.prog 88 #[.pointer (some ⟨wb,0,none⟩),.agg cs,.int .i64 q] w (WOut B wb l (Wri.wr n (.at q)) w)
def flatS (l:List Pars.Node):List UInt8:=l.flatMap fun x=>Wri.wr x .stmt++[32]
theorem flatS_take {l:List Pars.Node} {j:Nat} {x:Pars.Node} (h:l[j]? =some x):flatS (l.take (j+1))=flatS (l.take j)++(Wri.wr x .stmt++[32]):=by
 unfold flatS
 rw[List.take_add_one,h,List.flatMap_append]
 simp
theorem flat_mono (l:List Pars.Node):∀j,(flatS (l.take j)).length≤(flatS l).length:=by
 intro j
 have:l=l.take j++l.drop j:=(List.take_append_drop j l).symm
 have e:flatS l=flatS (l.take j)++flatS (l.drop j):=by
  unfold flatS
  rw[←List.flatMap_append,List.take_append_drop]
 rw[e,List.length_append];omega
theorem wr_block (k nu:Int) (t:List UInt8) (l:List Pars.Node):Wri.wr (.mk k nu t l) .block=[123,32]++flatS l++[125]:=by
 show Wri.wBlock (Wri.wrs l)=_
 unfold Wri.wBlock flatS
 rw[Wri.wrs_map,List.flatMap_map]
set_option maxRecDepth 100000 in
set_option maxHeartbeats 4000000 in
theorem block_w {N:Nat} (IH:Wall N):∀{n:Pars.Node} {cs:Array Value} {w:World} {B wb:Nat} {l:List UInt8},Wri.wg n≤N+1→Wri.wg n≤1048576→Ri n→NodeAt w (fun g=>g<B) n cs→Wt B wb l w→B≤w.heap.size→7≤B→EnvW w→l.length+(Wri.wr n .block).length≤70368744177664→Calls Tryz.prog 59 #[.pointer (some ⟨wb,0,none⟩),.agg cs] w (WOut B wb l (Wri.wr n .block) w):=by
 intro n cs w B wb l hN hM hR hn hW hBw h7 he hl
 obtain⟨k,nu,t,kl⟩:=n
 have hn0:=hn
 unfold NodeAt at hn
 obtain⟨A,cap,css,rfl,hc1,hc2,hrow,hk⟩:=hn
 have HROW:=hid hrow
 have HK:=hid hk
 have HN:=hid hn0
 have HE:=hid he
 have hwlt:=hW.lt
 have hll:=Wri.wgs_len kl
 clear hrow hk hn0 he
 have HSF:=hid (flat_mono kl)
 have hl2:l.length+(([123,32]++flatS kl++[125]:List UInt8)).length≤70368744177664:=by rw[←wr_block k nu t kl];exact hl
 clear hl
 have hl:=hl2
 clear hl2
 go_enter Tryz.func59,Tryz.ntmps59
 go_upto_region 1 with fail
 refine gen_world (F:=fun W=>Box W w.heap.size 24 (nc k nu t (.slice A kl.length cap))∧Below w.heap.size w W) ⟨Box.new w _ _,below1 w _⟩ ?_
 rintro W0 ⟨b0,hU⟩
 have NB:=hid b0
 have WT:=hid (hW.below hU)
 have HU:Hid (Below B w W0):=hid (hU.mono hBw)
 have HS:Hid (Stays wb w W0):=hid (Stays.below hU)
 have hB0:B≤W0.heap.size:=Nat.le_trans hBw hU.size
 have hnw:w.heap.size≠wb:=by omega
 have hbx:=Nat.lt_of_lt_of_le b0.lt (Nat.le_refl _)
 clear b0 hU
 have HNENB:=hid hnw
 go_wp2_with fail
 refine (wstr B wb (l) [123,32] _ WT.out (by simp only[ln] at hl ⊢;omega) hB0).mono ?_
 rintro e w1 ⟨⟨v,rfl⟩,hw,hb,hs⟩
 replace WT:=hid hw
 replace NB:=st hs NB HNENB
 replace HU:=hid (HU.out.trans hb)
 replace HS:=hid (HS.out.trans hs)
 replace hB0:=Nat.le_trans hB0 hb.size
 clear hw hb hs
 have c3:=NB.out.cell 3
 simp[nc] at c3
 go_wp2
 go_loopg [13] kl.length (fun gg s13 wr=>∃j:Nat,j≤kl.length∧kl.length - j≤gg∧s13= .int .i64 (j:Int)∧B≤wr.heap.size∧Hid (Wt B wb (l++[123,32]++flatS (kl.take j)) wr)∧Hid (Box wr w.heap.size 24 (nc k nu t (.slice A kl.length cap)))∧Hid (Below B w wr)∧Hid (Stays wb w wr))
 case atStart=>exact⟨0,Nat.zero_le _,by omega,rfl,hB0,by simpa [flatS] using WT,NB,HU,HS⟩
 case round=>
  clear WT NB HU HS hB0 c3
  obtain⟨j,hj,hg,rfl,hB0,WT,NB,HU,HS⟩:=hrel
  by_cases hlt:j<kl.length
  ·have hltz:(j:Int)<(kl.length:Int):=by omega
   have hltd:decide ((j:Int)<(kl.length:Int))=true:=decide_eq_true hltz
   have wj:IntKind.i64.wrap ((j:Int)+1)=(j:Int)+1:=by rw[IntKind.wrap_i64];simp only[Wri.wg] at hM;omega
   obtain⟨x,hx⟩:∃x,kl[j]? =some x:=⟨_,List.getElem?_eq_getElem hlt⟩
   have hxw:=Wri.wg_mem (List.mem_of_getElem? hx)
   obtain⟨xc,g0,o0,rfl,hg0,hx4,hnx,hrx⟩:=kid_at HK.out HROW.out hx
   have HR0:=hid hrx
   have HXN:=hid hnx
   have HXR:=hid (ri_kid hR x (List.mem_of_getElem? hx))
   have HXW:Hid (Wri.wg x≤N∧Wri.wg x≤1048576):=hid (by simp only[Wri.wg] at hN hM;exact⟨by omega,by omega⟩)
   have hinf:(Tryz.prog.info? 24).map (·.size)=some xc.toList.length:=by rw[Array.length_toList,hx4];exact info_nod
   have HXI:=hid hinf
   have hinf2:(Tryz.prog.info? 24).map (·.size)=some xc.size:=by rw[hx4];exact info_nod
   have HXI2:=hid hinf2
   have H4:Hid ((4:Nat)=xc.size):=hid hx4.symm
   have HONE:=hid (NodeAt.one hnx)
   clear hxw hnx hrx hinf hinf2 hx4
   have HTK:Hid (flatS (kl.take (j+1))=flatS (kl.take j)++(Wri.wr x .stmt++[32])):=hid (flatS_take hx)
   have hfl:=HSF.out (j+1)
   rw[HTK.out] at hfl
   have hkl:=hlt
   clear hx
   have hrr:=HR0.out wr HU.out
   have c3:=NB.out.cell 3
   simp[nc] at c3
   have hwb2:=WT.out.lt.2
   go_upto_region 5 with (first | (refine wpList_load_mid rfl 24 (.tmp 15) rfl g0 (o0+j * 4) rfl xc.toList _ hrr Tryz.underlying24 rfl HXI.out ?_) | (refine wpList_store_box rfl 24 (.tmp 5) (.tmp 16) rfl wr.heap.size xc rfl (by simp[Act.eval,Act.put]) 24 _ (Box.new wr _ _) HXI2.out H4.out HONE.out ?_;intro w2 hx2 hu2 hz2;have HZ2:=hid hz2;clear hz2))
   have hb2:Below wr.heap.size wr w2:=((Below.refl _ wr).alloc (Nat.le_refl _) _).trans (hu2.own (Nat.le_refl _) (by simp))
   have EB:=hid hx2
   replace NB:=bl NB hb2
   replace WT:=hid (WT.out.below hb2)
   replace HU:=hid (HU.out.trans (hb2.mono hB0))
   replace HS:=hid (HS.out.trans (Stays.below hb2))
   replace hB0:=Nat.le_trans hB0 hb2.size
   clear hx2 hu2 hb2 hrr c3 hwb2
   have eb:=EB.out
   go_wp2_with (refine wpList_load_row rfl 24 (.tmp 5) rfl wr.heap.size rfl _ xc (0,0) _ eb Tryz.underlying24 rfl HXI2.out ?_)
   refine (IH.stmt HXW.out.1 HXW.out.2 HXR.out (HXN.out.belowB HU.out) WT.out hB0 h7 (HE.out.below HU.out h7) (by simp only[ln] at hl hfl ⊢;omega)).mono ?_
   rintro e w3 ⟨rfl,hw,hb,hs⟩
   clear eb EB
   replace WT:=hid hw
   replace NB:=st hs NB HNENB
   replace HU:=hid (HU.out.trans hb)
   replace HS:=hid (HS.out.trans hs)
   replace hB0:=Nat.le_trans hB0 hb.size
   clear hw hb hs
   go_wp2_with fail
   refine (wbyte B wb (l++[123,32]++flatS (kl.take j)++Wri.wr x .stmt) 32 _ WT.out (by simp only[ln] at hl hfl ⊢;omega) hB0).mono ?_
   rintro e w4 ⟨rfl,hw,hb,hs⟩
   replace WT:=hid hw
   replace NB:=st hs NB HNENB
   replace HU:=hid (HU.out.trans hb)
   replace HS:=hid (HS.out.trans hs)
   replace hB0:=Nat.le_trans hB0 hb.size
   clear hw hb hs
   go_wp2
   go_roundg (kl.length - (j+1))
   case measure=>omega
   case rel=>exact⟨j+1,by omega,by omega,rfl,hB0,by rw[HTK.out];simpa [List.append_assoc] using WT,NB,HU,HS⟩
  ·have hltz:¬(j:Int)<(kl.length:Int):=by omega
   have hltd:decide ((j:Int)<(kl.length:Int))=false:=decide_eq_false hltz
   replace WT:Hid (Wt B wb (l++[123,32]++flatS kl) wr):=hid (by have:=WT.out;rwa [List.take_of_length_le (by omega)] at this)
   go_wp2_with fail
   refine (wbyte B wb (l++[123,32]++flatS kl) 125 _ WT.out (by simp only[ln] at hl ⊢;omega) hB0).mono ?_
   rintro e w5 ⟨rfl,hw,hb,hs⟩
   replace WT:=hid hw
   replace NB:=st hs NB HNENB
   replace HU:=hid (HU.out.trans hb)
   replace HS:=hid (HS.out.trans hs)
   replace hB0:=Nat.le_trans hB0 hb.size
   clear hw hb hs
   go_wp2
   go_end0
   exact⟨rfl,by rw[wr_block];simpa [List.append_assoc] using WT.out,HU.out,HS.out⟩
end Go.Proofs.YtflmjbmdmoifhaaGreatDoor
namespace Go.Proofs.YtflmjbmdmoifhaaGreatDoor
open Go.Lib (hid)
open Go.RowKit
theorem wr_at (k nu:Int) (t:List UInt8) (l:List Pars.Node) (q:Int):Wri.wr (.mk k nu t l) (.at q)=if q≤Wri.rank (.mk k nu t []) then Wri.wr (.mk k nu t l) .ex else [40]++Wri.wr (.mk k nu t l) .ex++[41]:=rfl
set_option maxRecDepth 100000 in
set_option maxHeartbeats 4000000 in
theorem any_w {N:Nat} (AT:∀(q:Int) {n:Pars.Node} {cs:Array Value} {w:World} {B wb:Nat} {l:List UInt8},Wri.wg n≤N+1→Wri.wg n≤1048576→Ri n→NodeAt w (fun g=>g<B) n cs→Wt B wb l w→B≤w.heap.size→7≤B→EnvW w→l.length+(Wri.wr n (.at q)).length≤70368744177664→Calls Tryz.prog 88 #[.pointer (some ⟨wb,0,none⟩),.agg cs,.int .i64 q] w (WOut B wb l (Wri.wr n (.at q)) w)):∀{n:Pars.Node} {cs:Array Value} {w:World} {B wb:Nat} {l:List UInt8},Wri.wg n≤N+1→Wri.wg n≤1048576→Ri n→NodeAt w (fun g=>g<B) n cs→Wt B wb l w→B≤w.heap.size→7≤B→EnvW w→l.length+(Wri.wr n (.at (-2))).length≤70368744177664→Calls Tryz.prog 56 #[.pointer (some ⟨wb,0,none⟩),.agg cs] w (WOut B wb l (Wri.wr n (.at (-2))) w):=by
 intro n cs w B wb l hN hM hR hn hW hBw h7 he hl
 obtain⟨k,nu,t,kl⟩:=n
 have hn0:=hn
 unfold NodeAt at hn
 obtain⟨A,cap,css,rfl,hc1,hc2,hrow,hk⟩:=hn
 have HROW:=hid hrow
 have HK:=hid hk
 have HN:=hid hn0
 have HE:=hid he
 have hwlt:=hW.lt
 have hll:=Wri.wgs_len kl
 clear hrow hk hn0 he
 have INF:(Tryz.prog.info? 24).map (·.size)=some (nc k nu t (.slice A kl.length cap)).size:=info_nod
 go_enter Tryz.func56,Tryz.ntmps56
 go_upto_region 1 with fail
 refine gen_world (F:=fun W=>Box W w.heap.size 24 (nc k nu t (.slice A kl.length cap))∧Below w.heap.size w W) ⟨Box.new w _ _,below1 w _⟩ ?_
 rintro W0 ⟨b0,hU⟩
 have NB:=hid b0
 have WT:=hid (hW.below hU)
 have HU:Hid (Below B w W0):=hid (hU.mono hBw)
 have HS:Hid (Stays wb w W0):=hid (Stays.below hU)
 have hB0:B≤W0.heap.size:=Nat.le_trans hBw hU.size
 have hnw:w.heap.size≠wb:=by omega
 have hbx:=Nat.lt_of_lt_of_le b0.lt (Nat.le_refl _)
 clear b0 hU
 go_wp2_with (refine wpList_load_row rfl 24 (.tmp 3) rfl w.heap.size rfl _ (nc k nu t (.slice A kl.length cap)) (0,0) _ NB.out Tryz.underlying24 rfl INF ?_)
 refine (AT (-2) hN hM hR (HN.out.belowB HU.out) WT.out hB0 h7 (HE.out.below HU.out h7) hl).mono ?_
 rintro e w2 ⟨rfl,hw,hb,hs⟩
 go_wp2
 go_end0
 exact⟨rfl,hw,HU.out.trans hb,HS.out.trans hs⟩
set_option maxRecDepth 100000 in
set_option maxHeartbeats 4000000 in
theorem at_w {N:Nat} (EX:∀{n:Pars.Node} {cs:Array Value} {w:World} {B wb:Nat} {l:List UInt8},Wri.wg n≤N+1→Wri.wg n≤1048576→Ri n→NodeAt w (fun g=>g<B) n cs→Wt B wb l w→B≤w.heap.size→7≤B→EnvW w→l.length+(Wri.wr n .ex).length≤70368744177664→Calls Tryz.prog 106 #[.pointer (some ⟨wb,0,none⟩),.agg cs] w (WOut B wb l (Wri.wr n .ex) w)):∀(q:Int) {n:Pars.Node} {cs:Array Value} {w:World} {B wb:Nat} {l:List UInt8},Wri.wg n≤N+1→Wri.wg n≤1048576→Ri n→NodeAt w (fun g=>g<B) n cs→Wt B wb l w→B≤w.heap.size→7≤B→EnvW w→l.length+(Wri.wr n (.at q)).length≤70368744177664→Calls Tryz.prog 88 #[.pointer (some ⟨wb,0,none⟩),.agg cs,.int .i64 q] w (WOut B wb l (Wri.wr n (.at q)) w):=by
 intro q n cs w B wb l hN hM hR hn hW hBw h7 he hl
 obtain⟨k,nu,t,kl⟩:=n
 have hn0:=hn
 unfold NodeAt at hn
 obtain⟨A,cap,css,rfl,hc1,hc2,hrow,hk⟩:=hn
 have HROW:=hid hrow
 have HK:=hid hk
 have HN:=hid hn0
 have HE:=hid he
 have hwlt:=hW.lt
 have hll:=Wri.wgs_len kl
 clear hrow hk hn0 he
 have INF:(Tryz.prog.info? 24).map (·.size)=some (nc k nu t (.slice A kl.length cap)).size:=info_nod
 have hl2:l.length+(if q≤Wri.rank (.mk k nu t []) then Wri.wr (.mk k nu t kl) .ex else [40]++Wri.wr (.mk k nu t kl) .ex++[41]).length≤70368744177664:=by rw[←wr_at k nu t kl q];exact hl
 clear hl
 have hl:=hl2
 clear hl2
 go_enter Tryz.func88,Tryz.ntmps88
 go_upto_region 1 with fail
 refine gen_world (F:=fun W=>Box W w.heap.size 24 (nc k nu t (.slice A kl.length cap))∧Below w.heap.size w W) ⟨Box.new w _ _,below1 w _⟩ ?_
 rintro W0 ⟨b0,hU⟩
 have NB:=hid b0
 have WT:=hid (hW.below hU)
 have HU:Hid (Below B w W0):=hid (hU.mono hBw)
 have HS:Hid (Stays wb w W0):=hid (Stays.below hU)
 have hB0:B≤W0.heap.size:=Nat.le_trans hBw hU.size
 have hnw:w.heap.size≠wb:=by omega
 have hbx:=Nat.lt_of_lt_of_le b0.lt (Nat.le_refl _)
 clear b0 hU
 have HNENB:=hid hnw
 go_wp2_with (refine wpList_load_row rfl 24 (.tmp 4) rfl w.heap.size rfl _ (nc k nu t (.slice A kl.length cap)) (0,0) _ NB.out Tryz.underlying24 rfl INF ?_)
 refine (rank_any k nu t kl A kl.length cap _).mono ?_
 rintro e w1 ⟨rfl,hb⟩
 have hbB:=hb.mono hB0
 replace NB:=bl NB hb
 replace WT:=hid (WT.out.below hb)
 replace HU:=hid (HU.out.trans hbB)
 replace HS:=hid (HS.out.trans (Stays.below hb))
 replace hB0:=Nat.le_trans hB0 hb.size
 clear hb hbB
 have hrk:Wri.rank (.mk k nu t kl)=Wri.rank (.mk k nu t []):=rfl
 rw[hrk]
 by_cases hq:q≤Wri.rank (.mk k nu t [])
 ·rw[if_pos hq] at hl
  have hqd:decide (q≤Wri.rank (.mk k nu t []))=true:=decide_eq_true hq
  go_wp2_with (refine wpList_load_row rfl 24 (.tmp 4) rfl w.heap.size rfl _ (nc k nu t (.slice A kl.length cap)) (0,0) _ NB.out Tryz.underlying24 rfl INF ?_)
  refine (EX hN hM hR (HN.out.belowB HU.out) WT.out hB0 h7 (HE.out.below HU.out h7) (by (try simp only[ln] at hl);(try simp only[ln]);omega)).mono ?_
  rintro e w2 ⟨rfl,hw,hb,hs⟩
  go_wp2
  go_end0
  exact⟨rfl,by rw[wr_at,if_pos hq];exact hw,HU.out.trans hb,HS.out.trans hs⟩
 ·rw[if_neg hq] at hl
  have HQN:=hid hq
  have hqd:decide (q≤Wri.rank (.mk k nu t []))=false:=decide_eq_false hq
  go_wp2_with fail
  refine (wbyte B wb (l) 40 _ WT.out (by (try simp only[ln] at hl);(try simp only[ln]);omega) hB0).mono ?_
  rintro e w2 ⟨rfl,hw,hb,hs⟩
  replace WT:=hid hw
  replace NB:=st hs NB HNENB
  replace HU:=hid (HU.out.trans hb)
  replace HS:=hid (HS.out.trans hs)
  replace hB0:=Nat.le_trans hB0 hb.size
  clear hw hb hs
  go_wp2_with (refine wpList_load_row rfl 24 (.tmp 4) rfl w.heap.size rfl _ (nc k nu t (.slice A kl.length cap)) (0,0) _ NB.out Tryz.underlying24 rfl INF ?_)
  refine (EX hN hM hR (HN.out.belowB HU.out) WT.out hB0 h7 (HE.out.below HU.out h7) (by (try simp only[ln] at hl);(try simp only[ln]);omega)).mono ?_
  rintro e w3 ⟨rfl,hw,hb,hs⟩
  replace WT:=hid hw
  replace NB:=st hs NB HNENB
  replace HU:=hid (HU.out.trans hb)
  replace HS:=hid (HS.out.trans hs)
  replace hB0:=Nat.le_trans hB0 hb.size
  clear hw hb hs
  go_wp2_with fail
  refine (wbyte B wb (l++[40]++Wri.wr (.mk k nu t kl) .ex) 41 _ WT.out (by (try simp only[ln] at hl);(try simp only[ln]);omega) hB0).mono ?_
  rintro e w4 ⟨rfl,hw,hb,hs⟩
  replace WT:=hid hw
  replace NB:=st hs NB HNENB
  replace HU:=hid (HU.out.trans hb)
  replace HS:=hid (HS.out.trans hs)
  replace hB0:=Nat.le_trans hB0 hb.size
  clear hw hb hs
  go_wp2
  go_end0
  exact⟨rfl,by rw[wr_at,if_neg (Int.not_le.mpr HQN.out)];simpa [List.append_assoc] using WT.out,HU.out,HS.out⟩
end Go.Proofs.YtflmjbmdmoifhaaGreatDoor
namespace Go.Proofs.YtflmjbmdmoifhaaGreatDoor
open Go.Lib (hid)
open Go.RowKit
theorem joinC_snoc (l:List Pars.Bs) (x:Pars.Bs) (h:l≠[]):Wri.joinC (l++[x])=Wri.joinC l++[44,32]++x:=by
 induction l with
 | nil=>exact absurd rfl h
 | cons a l ih=>
  cases l with
  | nil=>simp[Wri.joinC]
  | cons b l=> 
   have:=ih (by simp)
   simp only[List.cons_append,Wri.joinC] at this ⊢
   rw[this];simp[List.append_assoc]
theorem joinC_app (a b:List Pars.Bs):(Wri.joinC a).length≤(Wri.joinC (a++b)).length:=by
 induction b generalizing a with
 | nil=>simp
 | cons x b ih=>
  have h:=ih (a++[x])
  rw[List.append_assoc] at h
  refine Nat.le_trans ?_ h
  by_cases h0:a=[]
  ·subst h0;simp[Wri.joinC]
  ·rw[joinC_snoc a x h0];simp
def toldC (F:Pars.Node→Pars.Bs) (xs:List Pars.Node) (j:Nat):Pars.Bs:=Wri.joinC ((xs.take j).map F)
theorem toldC_mono (F:Pars.Node→Pars.Bs) (xs:List Pars.Node) (j:Nat):(toldC F xs j).length≤(Wri.joinC (xs.map F)).length:=by
 have h:=joinC_app ((xs.take j).map F) ((xs.drop j).map F)
 rw[←List.map_append,List.take_append_drop] at h
 exact h
theorem toldC_one {F:Pars.Node→Pars.Bs} {xs:List Pars.Node} {x:Pars.Node} (h:xs[0]? =some x):toldC F xs 1=F x:=by
 cases xs with
 | nil=>cases h
 | cons a l=>simp only[List.getElem?_cons_zero,Option.some.injEq] at h;subst h;rfl
theorem toldC_succ {F:Pars.Node→Pars.Bs} {xs:List Pars.Node} {x:Pars.Node} {j:Nat} (h:xs[j]? =some x) (h0:0<j):toldC F xs (j+1)=toldC F xs j++[44,32]++F x:=by
 have hj:j<xs.length:=(List.getElem?_eq_some_iff.mp h).1
 unfold toldC
 rw[List.take_add_one,h]
 simp only[Option.toList_some,List.map_append,List.map_cons,List.map_nil]
 exact joinC_snoc _ _ (by intro e;have:=congrArg List.length e;simp only[List.length_map,List.length_take,List.length_nil] at this;omega)
theorem toldC_all (F:Pars.Node→Pars.Bs) (xs:List Pars.Node):toldC F xs xs.length=Wri.joinC (xs.map F):=by unfold toldC;rw[List.take_length]
set_option maxRecDepth 100000 in
set_option maxHeartbeats 4000000 in
theorem list_c (F:Pars.Node→Pars.Bs) (g:Nat) (eg:∀args w,(callFunc g args).run Tryz.prog w= .ok (.enter g args) w) {B wb pb:Nat} {xs:List Pars.Node} {A:Option Addr} {cap:Nat} {o c l:List UInt8} {w:World}
  (hone:∀x,x∈xs→∀(xc:Array Value) (W:World) (l':List UInt8),NodeAt W (fun g=>g<B) x xc→Wt B wb l' W→B≤W.heap.size→EnvW W→Box W pb 110 #[.pointer (some ⟨wb,0,none⟩)]→l'.length+(F x).length≤70368744177664→Calls Tryz.prog g #[.agg xc,.pointer (some ⟨pb,0,none⟩)] W (WOut B wb l' (F x) W))
  (hK:∀(j:Nat) (x:Pars.Node),xs[j]? =some x→∃xc g o,A=some ⟨g,o,none⟩∧g<B∧xc.size=4∧NodeAt w (fun g=>g<B) x xc∧∀W,Below B w W→W.rangeAt g (o+j * 4) xc.toList) (hxs:xs.length≤1048576) (hW:Wt B wb l w) (hBw:B≤w.heap.size) (h7:7≤B) (he:EnvW w) (hpx:Box w pb 110 #[.pointer (some ⟨wb,0,none⟩)]) (hpb:pb≠wb) (hl:l.length+(Wri.listed o c (xs.map F)).length≤70368744177664):
  Calls Tryz.prog 89 #[.pointer (some ⟨wb,0,none⟩),.slice A xs.length cap,.string (byt o),.string (byt c),(.func (.func g) #[] #[.pointer (some ⟨pb,0,none⟩)])] w (WOut B wb l (Wri.listed o c (xs.map F)) w):=by
 have HONE:=hid hone
 have HKK:=hid hK
 have HE:=hid he
 have HTM:=hid (toldC_mono F xs)
 have WT:=hid hW
 have HU:=hid (Below.refl B w)
 have HS:=hid (Stays.below (b:=wb) (Below.refl w.heap.size w))
 have hB0:=hBw
 have PX:=hid hpx
 have HPB:=hid hpb
 clear hpx hpb
 clear hone hK he hW
 unfold Wri.listed at hl
 have hwlt:=WT.out.lt
 go_enter Tryz.func89,Tryz.ntmps89
 go_wp2_with fail
 refine (wstr B wb (l) o _ WT.out (by (try simp only[ln] at hl);(try simp only[ln]);omega) hB0).mono ?_
 rintro e w1 ⟨⟨v,rfl⟩,hw,hb,hs⟩
 replace WT:=hid hw
 replace PX:=st hs PX HPB
 replace HU:=hid (HU.out.trans hb)
 replace HS:=hid (HS.out.trans hs)
 replace hB0:=Nat.le_trans hB0 hb.size
 clear hw hb hs
 go_wp2
 go_loopg [19] xs.length (fun gg s19 wr=>∃j:Nat,j≤xs.length∧xs.length - j≤gg∧s19= .int .i64 (j:Int)∧B≤wr.heap.size∧Hid (Wt B wb (l++o++toldC F xs j) wr)∧Hid (Box wr pb 110 #[.pointer (some ⟨wb,0,none⟩)])∧Hid (Below B w wr)∧Hid (Stays wb w wr))
 case atStart=>exact⟨0,Nat.zero_le _,by omega,rfl,hB0,by simpa [toldC,Wri.joinC] using WT,PX,HU,HS⟩
 case round=>
  clear WT PX HU HS hB0
  obtain⟨j,hj,hg,rfl,hB0,WT,PX,HU,HS⟩:=hrel
  by_cases hlt:j<xs.length
  ·have hltz:(j:Int)<(xs.length:Int):=by omega
   have hltd:decide ((j:Int)<(xs.length:Int))=true:=decide_eq_true hltz
   have wj:IntKind.i64.wrap ((j:Int)+1)=(j:Int)+1:=by rw[IntKind.wrap_i64];omega
   obtain⟨x,hx⟩:∃x,xs[j]? =some x:=⟨_,List.getElem?_eq_getElem hlt⟩
   obtain⟨xc,g0,o0,rfl,hg0,hx4,hnx,hrx⟩:=HKK.out j x hx
   have HR0:=hid hrx
   have HXN:=hid hnx
   have HXM:=hid (List.mem_of_getElem? hx)
   have hinf:(Tryz.prog.info? 24).map (·.size)=some xc.toList.length:=by rw[Array.length_toList,hx4];exact info_nod
   have HXI:=hid hinf
   have hinf2:(Tryz.prog.info? 24).map (·.size)=some xc.size:=by rw[hx4];exact info_nod
   have HXI2:=hid hinf2
   have H4:Hid ((4:Nat)=xc.size):=hid hx4.symm
   have HONX:=hid (NodeAt.one hnx)
   clear hnx hrx hinf hinf2 hx4
   have hrr:=HR0.out wr HU.out
   have HM1:=HTM.out (j+1)
   have hwb2:=WT.out.lt.2
   have HX:=hid hx
   clear hx
   go_upto_region 4 with (first | (refine wpList_load_mid rfl 24 (.tmp 22) rfl g0 (o0+j * 4) rfl xc.toList _ hrr Tryz.underlying24 rfl HXI.out ?_) | (refine wpList_store_box rfl 24 (.tmp 11) (.tmp 23) rfl wr.heap.size xc rfl (by simp[Act.eval,Act.put]) 24 _ (Box.new wr _ _) HXI2.out H4.out HONX.out ?_;intro w2 hx2 hu2 hz2;have HZ2:=hid hz2;clear hz2))
   have hb2:Below wr.heap.size wr w2:=((Below.refl _ wr).alloc (Nat.le_refl _) _).trans (hu2.own (Nat.le_refl _) (by simp))
   have EB:=hid hx2
   replace PX:=bl PX hb2
   replace WT:=hid (WT.out.below hb2)
   replace HU:=hid (HU.out.trans (hb2.mono hB0))
   replace HS:=hid (HS.out.trans (Stays.below hb2))
   have hB1:B≤w2.heap.size:=Nat.le_trans hB0 hb2.size
   have HNE:Hid (wr.heap.size≠wb):=hid (by omega)
   clear hB0
   have hB0:=hB1
   clear hx2 hu2 hb2 hrr hwb2
   by_cases h0:j=0
   ·subst h0
    replace WT:Hid (Wt B wb (l++o) w2):=hid (by have:=WT.out;simpa [toldC,Wri.joinC] using this)
    have HT1:Hid (toldC F xs (0+1)=F x):=hid (toldC_one HX.out)
    have HM2:(F x).length≤(Wri.joinC (xs.map F)).length:=by rw[←HT1.out];exact HM1
    clear HM1
    have eb:=EB.out
    go_wp2_with (refine wpList_load_row rfl 24 (.tmp 11) rfl wr.heap.size rfl _ xc (0,0) _ eb Tryz.underlying24 rfl HXI2.out ?_)
    refine (HONE.out x HXM.out xc _ (l++o) (HXN.out.belowB HU.out) WT.out hB0 (HE.out.below HU.out h7) PX.out (by (try simp only[ln] at hl HM2);(try simp only[ln]);omega)).mono ?_
    rintro e w3 ⟨rfl,hw,hb,hs⟩
    clear eb EB
    replace WT:=hid hw
    replace PX:=st hs PX HPB
    replace HU:=hid (HU.out.trans hb)
    replace HS:=hid (HS.out.trans hs)
    replace hB0:=Nat.le_trans hB0 hb.size
    clear hw hb hs
    go_wp2
    go_roundg (xs.length - (0+1))
    case measure=>omega
    case rel=>exact⟨0+1,by omega,by omega,rfl,hB0,by rw[HT1.out];simpa [List.append_assoc] using WT,PX,HU,HS⟩
   ·have d1:decide ((0:Int)<(j:Int))=true:=decide_eq_true (by omega)
    have d2:(0:Int)<(j:Int):=by omega
    have d3:0<j:=by omega
    have HT1:Hid (toldC F xs (j+1)=toldC F xs j++[44,32]++F x):=hid (toldC_succ HX.out d3)
    have HM2:(toldC F xs j++[44,32]++F x).length≤(Wri.joinC (xs.map F)).length:=by rw[←HT1.out];exact HM1
    clear HM1
    go_wp2_with fail
    refine (wstr B wb (l++o++toldC F xs j) [44,32] _ WT.out (by (try simp only[ln] at hl HM2);(try simp only[ln]);omega) hB0).mono ?_
    rintro e w3 ⟨⟨v,rfl⟩,hw,hb,hs⟩
    replace EB:=st hs EB HNE
    replace WT:=hid hw
    replace PX:=st hs PX HPB
    replace HU:=hid (HU.out.trans hb)
    replace HS:=hid (HS.out.trans hs)
    replace hB0:=Nat.le_trans hB0 hb.size
    clear hw hb hs
    have eb:=EB.out
    go_wp2_with (refine wpList_load_row rfl 24 (.tmp 11) rfl wr.heap.size rfl _ xc (0,0) _ eb Tryz.underlying24 rfl HXI2.out ?_)
    refine (HONE.out x HXM.out xc _ (l++o++toldC F xs j++[44,32]) (HXN.out.belowB HU.out) WT.out hB0 (HE.out.below HU.out h7) PX.out (by (try simp only[ln] at hl HM2);(try simp only[ln]);omega)).mono ?_
    rintro e w4 ⟨rfl,hw,hb,hs⟩
    clear eb EB
    replace WT:=hid hw
    replace PX:=st hs PX HPB
    replace HU:=hid (HU.out.trans hb)
    replace HS:=hid (HS.out.trans hs)
    replace hB0:=Nat.le_trans hB0 hb.size
    clear hw hb hs
    go_wp2
    go_roundg (xs.length - (j+1))
    case measure=>omega
    case rel=>exact⟨j+1,by omega,by omega,rfl,hB0,by rw[HT1.out];simpa [List.append_assoc] using WT,PX,HU,HS⟩
  ·have hltz:¬(j:Int)<(xs.length:Int):=by omega
   have hltd:decide ((j:Int)<(xs.length:Int))=false:=decide_eq_false hltz
   replace WT:Hid (Wt B wb (l++o++Wri.joinC (xs.map F)) wr):=hid (by have:=WT.out;rw[show j=xs.length by omega,toldC_all] at this;exact this)
   go_wp2_with fail
   refine (wstr B wb (l++o++Wri.joinC (xs.map F)) c _ WT.out (by (try simp only[ln] at hl);(try simp only[ln]);omega) hB0).mono ?_
   rintro e w5 ⟨⟨v,rfl⟩,hw,hb,hs⟩
   replace WT:=hid hw
   replace PX:=st hs PX HPB
   replace HU:=hid (HU.out.trans hb)
   replace HS:=hid (HS.out.trans hs)
   replace hB0:=Nat.le_trans hB0 hb.size
   clear hw hb hs
   go_wp2
   go_end0
   exact⟨rfl,by unfold Wri.listed;simpa [List.append_assoc] using WT.out,HU.out,HS.out⟩
end Go.Proofs.YtflmjbmdmoifhaaGreatDoor
namespace Go.Proofs.YtflmjbmdmoifhaaGreatDoor
open Go.Lib (hid)
open Go.RowKit
theorem four {xc:Array Value} (h:xc.size=4):∃a b c d,xc= #[a,b,c,d]:=by
 obtain⟨l⟩:=xc
 match l,h with
 | [a,b,c,d],_=>exact⟨a,b,c,d,rfl⟩
theorem wrs_kid {l:List Pars.Node} {x:Pars.Node} {i:Nat} (h:l[i]? =some x):Wri.kid (Wri.wrs l) i=Wri.wr x:=by
 unfold Wri.kid
 rw[Wri.wrs_map,List.getD_eq_getElem?_getD,List.getElem?_map,h];rfl
set_option maxRecDepth 100000 in
set_option maxHeartbeats 4000000 in
theorem param_w {B wb pb:Nat} {n:Pars.Node} {cs:Array Value} {w:World} {l:List UInt8} (hn:NodeAt w (fun g=>g<B) n cs) (hW:Wt B wb l w) (hBw:B≤w.heap.size) (h7:7≤B) (he:EnvW w) (hpx:Box w pb 110 #[.pointer (some ⟨wb,0,none⟩)]) (hpb:pb≠wb) (hl:l.length+(Wri.wr n .param).length≤70368744177664):Calls Tryz.prog 90 #[.agg cs,.pointer (some ⟨pb,0,none⟩)] w (WOut B wb l (Wri.wr n .param) w):=by
 obtain⟨k,nu,t,kl⟩:=n
 have hn0:=hn
 unfold NodeAt at hn
 obtain⟨A,cap,css,rfl,hc1,hc2,hrow,hk⟩:=hn
 have HROW:=hid hrow
 have HK:=hid hk
 have HN:=hid hn0
 have HE:=hid he
 have hwlt:=hW.lt
 have hll:=Wri.wgs_len kl
 clear hrow hk hn0 he
 have hl2:l.length+t.length≤70368744177664:=hl
 clear hl
 have hl:=hl2
 clear hl2
 have HPB:=hid hpb
 go_enter Tryz.func90,Tryz.ntmps90
 go_upto_region 1 with fail
 refine gen_world (F:=fun W=>Box W w.heap.size 24 (nc k nu t (.slice A kl.length cap))∧Below w.heap.size w W) ⟨Box.new w _ _,below1 w _⟩ ?_
 rintro W0 ⟨b0,hU⟩
 have NB:=hid b0
 have WT:=hid (hW.below hU)
 have HU:Hid (Below B w W0):=hid (hU.mono hBw)
 have HS:Hid (Stays wb w W0):=hid (Stays.below hU)
 have PX:=hid (hpx.below hU hpx.lt)
 have hB0:B≤W0.heap.size:=Nat.le_trans hBw hU.size
 have hnw:w.heap.size≠wb:=by omega
 have hbx:=Nat.lt_of_lt_of_le b0.lt (Nat.le_refl _)
 clear b0 hU
 have HNENB:=hid hnw
 have cp:=PX.out.cell 0
 simp at cp
 have c2:=NB.out.cell 2
 simp[nc] at c2
 clear hpx hpb
 go_wp2
 go_still_tail 5,(by kernel_rfl)
 change wpList _ _ _ _ _ W0.drew
 have hdr:Below W0.heap.size W0 W0.drew:=Below.drew (Below.refl _ _)
 have hdz:W0.drew.heap.size=W0.heap.size:=rfl
 obtain⟨wd,hwd⟩:∃wd,W0.drew=wd:=⟨_,rfl⟩
 rw[hwd] at hdr hdz ⊢
 replace WT:=hid (WT.out.below hdr)
 replace HU:=hid (HU.out.trans (hdr.mono hB0))
 replace HS:=hid (HS.out.trans (Stays.below hdr))
 have hB1:B≤wd.heap.size:=by omega
 clear hB0
 have hB0:=hB1
 clear hdr hdz hwd
 clear cp c2
 go_wp2_with fail
 refine (wstr B wb l t _ WT.out (by (try simp only[ln] at hl);(try simp only[ln]);omega) hB0).mono ?_
 rintro e w1 ⟨⟨v,rfl⟩,hw,hb,hs⟩
 go_wp2
 go_end0
 exact⟨rfl,hw,HU.out.trans hb,HS.out.trans hs⟩
end Go.Proofs.YtflmjbmdmoifhaaGreatDoor
namespace Go.Proofs.YtflmjbmdmoifhaaGreatDoor
open Go.Lib (hid)
open Go.RowKit
theorem wr_fn (k nu:Int) (t:List UInt8) (l:List Pars.Node) (q:Nat) (x:Pars.Node) (hq:l.length=q+1) (h:l[q]? =some x):Wri.wr (.mk k nu t l) .fn=[102,110]++(if t=[] then [] else 32 :: t)++Wri.listed [40] [41] ((l.take q).map fun x=>Wri.wr x .param)++[32]++Wri.wr x .block:=by
 show Wri.wFn t (Wri.wrs l)=_
 unfold Wri.wFn
 have e:(Wri.wrs l).length=q+1:=by rw[Wri.wrs_map,List.length_map];exact hq
 rw[e,show q+1 - 1=q from rfl,wrs_kid h,Wri.wrs_map, ←List.map_take,List.map_map]
 rfl
theorem kids_take {w W0:World} {B:Nat} {l:List Pars.Node} {css:List (Array Value)} {A:Option Addr} (hk:NodesAt w (fun g=>g<B) l css) (hrow:0<l.length→∃g o,A=some ⟨g,o,none⟩∧g<B∧g<w.heap.size∧w.rangeAt g o (flatA css)) (hU:Below B w W0) (q:Nat):
  ∀(j:Nat) (x:Pars.Node),(l.take q)[j]? =some x→∃xc g o,A=some ⟨g,o,none⟩∧g<B∧xc.size=4∧NodeAt W0 (fun g=>g<B) x xc∧∀W,Below B W0 W→W.rangeAt g (o+j * 4) xc.toList:=by
 intro j x hx
 have hx':l[j]? =some x:=by
  rw[List.getElem?_take] at hx
  split at hx
  ·exact hx
  ·cases hx
 obtain⟨xc,g,o,h1,h2,h3,h4,h5⟩:=kid_at hk hrow hx'
 exact⟨xc,g,o,h1,h2,h3,h4.belowB hU,fun W hW=>h5 W (hU.trans hW)⟩
set_option maxRecDepth 100000 in
set_option maxHeartbeats 4000000 in
theorem function_w {N:Nat} (IH:Wall N):∀{n:Pars.Node} {cs:Array Value} {w:World} {B wb:Nat} {l:List UInt8},Wri.wg n≤N+1→Wri.wg n≤1048576→Ri n→n.kind=9→NodeAt w (fun g=>g<B) n cs→Wt B wb l w→B≤w.heap.size→7≤B→EnvW w→l.length+(Wri.wr n .fn).length≤70368744177664→Calls Tryz.prog 57 #[.pointer (some ⟨wb,0,none⟩),.agg cs] w (WOut B wb l (Wri.wr n .fn) w):=by
 intro n cs w B wb l hN hM hR hk9 hn hW hBw h7 he hl
 obtain⟨k,nu,t,kl⟩:=n
 have hn0:=hn
 unfold NodeAt at hn
 obtain⟨A,cap,css,rfl,hc1,hc2,hrow,hk⟩:=hn
 have HROW:=hid hrow
 have HK:=hid hk
 have HN:=hid hn0
 have HE:=hid he
 have hwlt:=hW.lt
 have hll:=Wri.wgs_len kl
 clear hrow hk hn0 he
 obtain⟨q,hq⟩:∃q,kl.length=q+1:=⟨kl.length - 1,by have:=(ri_len hR).2.2.2.2.1 hk9;omega⟩
 obtain⟨x,hx⟩:∃x,kl[q]? =some x:=⟨_,List.getElem?_eq_getElem (by omega)⟩
 have hl2:l.length+([102,110]++(if t=[] then [] else 32 :: t)++Wri.listed [40] [41] ((kl.take q).map fun x=>Wri.wr x .param)++[32]++Wri.wr x .block).length≤70368744177664:=by have e:=wr_fn k nu t kl q x hq hx;simp only[List.append_assoc] at e hl ⊢;rw[←e];exact hl
 clear hl
 have hl:=hl2
 clear hl2
 have hxw:=Wri.wg_mem (List.mem_of_getElem? hx)
 obtain⟨xc,g0,o0,rfl,hg0,hx4,hnx,hrx⟩:=kid_at HK.out HROW.out hx
 have HR0:=hid hrx
 have HXN:=hid hnx
 have HXR:=hid (ri_kid hR x (List.mem_of_getElem? hx))
 have HXW:Hid (Wri.wg x≤N∧Wri.wg x≤1048576):=hid (by simp only[Wri.wg] at hN hM;exact⟨by omega,by omega⟩)
 have hinf:(Tryz.prog.info? 24).map (·.size)=some xc.toList.length:=by rw[Array.length_toList,hx4];exact info_nod
 have HXI:=hid hinf
 have hinf2:(Tryz.prog.info? 24).map (·.size)=some xc.size:=by rw[hx4];exact info_nod
 have HXI2:=hid hinf2
 have H4:Hid ((4:Nat)=xc.size):=hid hx4.symm
 have HONE:=hid (NodeAt.one hnx)
 clear hxw hnx hrx hinf hinf2 hx4
 have HX:=hid hx
 have HQ:=hid hq
 obtain⟨LS,hLS⟩:∃s,Wri.listed [40] [41] ((kl.take q).map fun x=>Wri.wr x .param)=s:=⟨_,rfl⟩
 rw[hLS] at hl
 have HLS:=hid hLS
 clear hLS hx
 have hqm:q<1048576:=by simp only[Wri.wg] at hM;omega
 have hck:q+1≤cap:=by omega
 have hz:IntKind.i64.wrap ((kl.length:Int) - 1)=(q:Int):=by rw[IntKind.wrap_i64];omega
 have hq1:(q:Int)≤(cap:Int):=by omega
 have hq2:(q:Int)<(kl.length:Int):=by omega
 have hq3:q<kl.length:=by omega
 have hq4:q≤cap:=by omega
 have HTL:Hid ((kl.take q).length=q):=hid (by rw[List.length_take];omega)
 clear hq
 go_enter Tryz.func57,Tryz.ntmps57
 go_upto_region 1 with fail
 refine gen_world (F:=fun W=>Box W w.heap.size 110 #[.pointer (some ⟨wb,0,none⟩)]∧Box W (w.heap.size+1) 24 (nc k nu t (.slice (some ⟨g0,o0,none⟩) kl.length cap))∧Below w.heap.size w W) ⟨(Box.new w _ _).alloc _,by have:=Box.new (w.alloc (.cells #[.pointer (some ⟨wb,0,none⟩)] 110 (0,0))) 24 (nc k nu t (.slice (some ⟨g0,o0,none⟩) kl.length cap));simpa using this,(below1 w _).alloc (by simp) _⟩ ?_
 rintro W0 ⟨p0,b0,hU⟩
 have PX:=hid p0
 have NB:=hid b0
 have WT:=hid (hW.below hU)
 have HU:Hid (Below B w W0):=hid (hU.mono hBw)
 have HS:Hid (Stays wb w W0):=hid (Stays.below hU)
 have hB0:B≤W0.heap.size:=Nat.le_trans hBw hU.size
 have HPB:Hid (w.heap.size≠wb):=hid (by omega)
 have HNENB:Hid (w.heap.size+1≠wb):=hid (by omega)
 clear p0 b0 hU
 have cp:=PX.out.cell 0
 simp at cp
 go_wp2_with fail
 refine (wstr B wb (l) [102,110] _ WT.out (by (try simp only[ln] at hl);(try simp only[ln]);omega) hB0).mono ?_
 rintro e w1 ⟨⟨v,rfl⟩,hw,hb,hs⟩
 clear cp
 replace WT:=hid hw
 replace PX:=st hs PX HPB
 replace NB:=st hs NB HNENB
 replace HU:=hid (HU.out.trans hb)
 replace HS:=hid (HS.out.trans hs)
 replace hB0:=Nat.le_trans hB0 hb.size
 clear hw hb hs
 by_cases ht:t=[]
 ·subst ht
  have HT0:Hid (True):=hid trivial
  rw[if_pos rfl] at hl
  have c2:w1.cell? ⟨w.heap.size+1,2,none⟩=some (.string ⟨#[]⟩):=NB.out.cell 2
  have cp:=PX.out.cell 0
  simp at cp
  have c3:=NB.out.cell 3
  simp[nc] at c3
  go_upto_region 5 with fail
  go_wp2
  go_still_tail 6,(by kernel_rfl)
  change wpList _ _ _ _ _ w1.drew
  have hdr:Below w1.heap.size w1 w1.drew:=Below.drew (Below.refl _ _)
  have hdz:w1.drew.heap.size=w1.heap.size:=rfl
  obtain⟨wd,hwd⟩:∃wd,w1.drew=wd:=⟨_,rfl⟩
  rw[hwd] at hdr hdz ⊢
  replace WT:=hid (WT.out.below hdr)
  replace NB:=bl NB hdr
  replace PX:=bl PX hdr
  replace HU:=hid (HU.out.trans (hdr.mono hB0))
  replace HS:=hid (HS.out.trans (Stays.below hdr))
  have hB1:B≤wd.heap.size:=by omega
  clear hB0
  have hB0:=hB1
  clear hdr hdz hwd
  clear cp c3
  go_wp2_with fail
  have hlist:=list_c (fun x=>Wri.wr x .param) 90 (fun _ _=>rfl) (B:=B) (wb:=wb) (pb:=w.heap.size) (xs:=kl.take q) (A:=some ⟨g0,o0,none⟩) (cap:=cap) (o:=[40]) (c:=[41]) (l:=l++[102,110]) (w:=wd) (fun x hxm xc W l' hnx hWx hBx heX hpx hlx=>param_w hnx hWx hBx h7 heX hpx HPB.out hlx) (kids_take HK.out HROW.out HU.out q) (by rw[HTL.out];omega) WT.out hB0 h7 (HE.out.below HU.out h7) PX.out HPB.out (by rw[HLS.out];exact by (try simp only[ln] at hl);(try simp only[ln]);omega)
  rw[HTL.out,HLS.out] at hlist
  refine hlist.mono ?_
  clear hlist
  rintro e w5 ⟨rfl,hw,hb,hs⟩
  replace WT:=hid hw
  replace PX:=st hs PX HPB
  replace NB:=st hs NB HNENB
  replace HU:=hid (HU.out.trans hb)
  replace HS:=hid (HS.out.trans hs)
  replace hB0:=Nat.le_trans hB0 hb.size
  clear hw hb hs
  have cp:=PX.out.cell 0
  simp at cp
  go_wp2_with fail
  refine (wbyte B wb (l++[102,110]++LS) 32 _ WT.out (by (try simp only[ln] at hl);(try simp only[ln]);omega) hB0).mono ?_
  rintro e w6 ⟨rfl,hw,hb,hs⟩
  clear cp
  replace WT:=hid hw
  replace PX:=st hs PX HPB
  replace NB:=st hs NB HNENB
  replace HU:=hid (HU.out.trans hb)
  replace HS:=hid (HS.out.trans hs)
  replace hB0:=Nat.le_trans hB0 hb.size
  clear hw hb hs
  have cp:=PX.out.cell 0
  simp at cp
  have c3:=NB.out.cell 3
  simp[nc] at c3
  obtain⟨v0,v1,v2,v3,hxe⟩:=four H4.out.symm
  subst hxe
  have hrr:=HR0.out w6 HU.out
  have k0:w6.cell? ⟨g0,o0+q * 4,none⟩=some v0:=by simpa using hrr 0 v0 rfl
  have k1:w6.cell? ⟨g0,o0+q * 4+1,none⟩=some v1:=by simpa using hrr 1 v1 rfl
  have k2:w6.cell? ⟨g0,o0+q * 4+2,none⟩=some v2:=by simpa using hrr 2 v2 rfl
  have k3:w6.cell? ⟨g0,o0+q * 4+3,none⟩=some v3:=by simpa using hrr 3 v3 rfl
  clear hrr
  go_wp2
  go_wp2
  go_still_tail 6,(by kernel_rfl)
  change wpList _ _ _ _ _ w6.drew
  have hdr:Below w6.heap.size w6 w6.drew:=Below.drew (Below.refl _ _)
  have hdz:w6.drew.heap.size=w6.heap.size:=rfl
  obtain⟨wd,hwd⟩:∃wd,w6.drew=wd:=⟨_,rfl⟩
  rw[hwd] at hdr hdz ⊢
  replace WT:=hid (WT.out.below hdr)
  replace NB:=bl NB hdr
  replace PX:=bl PX hdr
  replace HU:=hid (HU.out.trans (hdr.mono hB0))
  replace HS:=hid (HS.out.trans (Stays.below hdr))
  have hB1:B≤wd.heap.size:=by omega
  clear hB0
  have hB0:=hB1
  clear hdr hdz hwd
  clear cp c3 k0 k1 k2 k3
  go_wp2_with fail
  refine (IH.block HXW.out.1 HXW.out.2 HXR.out (HXN.out.belowB HU.out) WT.out hB0 h7 (HE.out.below HU.out h7) (by (try simp only[ln] at hl);(try simp only[ln]);omega)).mono ?_
  rintro e w7 ⟨rfl,hw,hb,hs⟩
  go_wp2
  go_end0
  exact⟨rfl,by rw[wr_fn k nu _ kl q x HQ.out HX.out,HLS.out];simpa [List.append_assoc,HT0.out] using hw,HU.out.trans hb,HS.out.trans hs⟩
 ·rw[if_neg ht] at hl
  have HT0:Hid (t≠[]):=hid ht
  have hT:byt t≠⟨#[]⟩:=by intro e;have:=congrArg ByteArray.size e;rw[byt_size] at this;exact ht (List.length_eq_zero_iff.mp this)
  obtain⟨q1,q2,q3⟩:=same_no hT
  have q4:=of_decide_eq_false q2
  have q5:((byt t).toList==[])=false:=by
   have e:(⟨#[]⟩:ByteArray).toList=[]:=by simp[ByteArray.toList_eq]
   rw[e] at q1
   exact q1
  have q6:(byt t).toList.isEmpty=false:=by
   rw[byt_list]
   cases t with
   | nil=>exact absurd rfl ht
   | cons a l=>rfl
  have hts:(byt t).size≤70368744177664:=by rw[byt_size];simp only[List.length_append,List.length_cons] at hl;omega
  have hcc:¬9223372036854775807<1+(byt t).size:=by omega
  have hg1:(⟨#[32]⟩:ByteArray).size=1:=rfl
  have HPC:Hid ((⟨#[32]⟩++byt t:ByteArray)=byt (32 :: t)):=hid (byt_append [32] t)
  clear ht hT
  have cp:=PX.out.cell 0
  simp at cp
  have c2:=NB.out.cell 2
  simp[nc] at c2
  go_upto_region 3 with fail
  go_wp2
  go_still_tail 6,(by kernel_rfl)
  change wpList _ _ _ _ _ w1.drew
  have hdr:Below w1.heap.size w1 w1.drew:=Below.drew (Below.refl _ _)
  have hdz:w1.drew.heap.size=w1.heap.size:=rfl
  obtain⟨wd,hwd⟩:∃wd,w1.drew=wd:=⟨_,rfl⟩
  rw[hwd] at hdr hdz ⊢
  replace WT:=hid (WT.out.below hdr)
  replace NB:=bl NB hdr
  replace PX:=bl PX hdr
  replace HU:=hid (HU.out.trans (hdr.mono hB0))
  replace HS:=hid (HS.out.trans (Stays.below hdr))
  have hB1:B≤wd.heap.size:=by omega
  clear hB0
  have hB0:=hB1
  clear hdr hdz hwd
  clear cp c2 q1 q2 q3 q4 q5 q6
  go_wp2_with fail
  rw[HPC.out]
  refine (wstr B wb (l++[102,110]) (32 :: t) _ WT.out (by (try simp only[ln] at hl);(try simp only[ln]);omega) hB0).mono ?_
  rintro e w2 ⟨⟨v,rfl⟩,hw,hb,hs⟩
  replace WT:=hid hw
  replace PX:=st hs PX HPB
  replace NB:=st hs NB HNENB
  replace HU:=hid (HU.out.trans hb)
  replace HS:=hid (HS.out.trans hs)
  replace hB0:=Nat.le_trans hB0 hb.size
  clear hw hb hs
  have cp:=PX.out.cell 0
  simp at cp
  have c3:=NB.out.cell 3
  simp[nc] at c3
  go_upto_region 5 with fail
  go_wp2
  go_still_tail 6,(by kernel_rfl)
  change wpList _ _ _ _ _ w2.drew
  have hdr:Below w2.heap.size w2 w2.drew:=Below.drew (Below.refl _ _)
  have hdz:w2.drew.heap.size=w2.heap.size:=rfl
  obtain⟨wd,hwd⟩:∃wd,w2.drew=wd:=⟨_,rfl⟩
  rw[hwd] at hdr hdz ⊢
  replace WT:=hid (WT.out.below hdr)
  replace NB:=bl NB hdr
  replace PX:=bl PX hdr
  replace HU:=hid (HU.out.trans (hdr.mono hB0))
  replace HS:=hid (HS.out.trans (Stays.below hdr))
  have hB1:B≤wd.heap.size:=by omega
  clear hB0
  have hB0:=hB1
  clear hdr hdz hwd
  clear cp c3
  go_wp2_with fail
  have hlist:=list_c (fun x=>Wri.wr x .param) 90 (fun _ _=>rfl) (B:=B) (wb:=wb) (pb:=w.heap.size) (xs:=kl.take q) (A:=some ⟨g0,o0,none⟩) (cap:=cap) (o:=[40]) (c:=[41]) (l:=l++[102,110]++(32 :: t)) (w:=wd) (fun x hxm xc W l' hnx hWx hBx heX hpx hlx=>param_w hnx hWx hBx h7 heX hpx HPB.out hlx) (kids_take HK.out HROW.out HU.out q) (by rw[HTL.out];omega) WT.out hB0 h7 (HE.out.below HU.out h7) PX.out HPB.out (by rw[HLS.out];exact by (try simp only[ln] at hl);(try simp only[ln]);omega)
  rw[HTL.out,HLS.out] at hlist
  refine hlist.mono ?_
  clear hlist
  rintro e w5 ⟨rfl,hw,hb,hs⟩
  replace WT:=hid hw
  replace PX:=st hs PX HPB
  replace NB:=st hs NB HNENB
  replace HU:=hid (HU.out.trans hb)
  replace HS:=hid (HS.out.trans hs)
  replace hB0:=Nat.le_trans hB0 hb.size
  clear hw hb hs
  have cp:=PX.out.cell 0
  simp at cp
  go_wp2_with fail
  refine (wbyte B wb (l++[102,110]++(32 :: t)++LS) 32 _ WT.out (by (try simp only[ln] at hl);(try simp only[ln]);omega) hB0).mono ?_
  rintro e w6 ⟨rfl,hw,hb,hs⟩
  clear cp
  replace WT:=hid hw
  replace PX:=st hs PX HPB
  replace NB:=st hs NB HNENB
  replace HU:=hid (HU.out.trans hb)
  replace HS:=hid (HS.out.trans hs)
  replace hB0:=Nat.le_trans hB0 hb.size
  clear hw hb hs
  have cp:=PX.out.cell 0
  simp at cp
  have c3:=NB.out.cell 3
  simp[nc] at c3
  obtain⟨v0,v1,v2,v3,hxe⟩:=four H4.out.symm
  subst hxe
  have hrr:=HR0.out w6 HU.out
  have k0:w6.cell? ⟨g0,o0+q * 4,none⟩=some v0:=by simpa using hrr 0 v0 rfl
  have k1:w6.cell? ⟨g0,o0+q * 4+1,none⟩=some v1:=by simpa using hrr 1 v1 rfl
  have k2:w6.cell? ⟨g0,o0+q * 4+2,none⟩=some v2:=by simpa using hrr 2 v2 rfl
  have k3:w6.cell? ⟨g0,o0+q * 4+3,none⟩=some v3:=by simpa using hrr 3 v3 rfl
  clear hrr
  go_wp2
  go_wp2
  go_still_tail 6,(by kernel_rfl)
  change wpList _ _ _ _ _ w6.drew
  have hdr:Below w6.heap.size w6 w6.drew:=Below.drew (Below.refl _ _)
  have hdz:w6.drew.heap.size=w6.heap.size:=rfl
  obtain⟨wd,hwd⟩:∃wd,w6.drew=wd:=⟨_,rfl⟩
  rw[hwd] at hdr hdz ⊢
  replace WT:=hid (WT.out.below hdr)
  replace NB:=bl NB hdr
  replace PX:=bl PX hdr
  replace HU:=hid (HU.out.trans (hdr.mono hB0))
  replace HS:=hid (HS.out.trans (Stays.below hdr))
  have hB1:B≤wd.heap.size:=by omega
  clear hB0
  have hB0:=hB1
  clear hdr hdz hwd
  clear cp c3 k0 k1 k2 k3
  go_wp2_with fail
  refine (IH.block HXW.out.1 HXW.out.2 HXR.out (HXN.out.belowB HU.out) WT.out hB0 h7 (HE.out.below HU.out h7) (by (try simp only[ln] at hl);(try simp only[ln]);omega)).mono ?_
  rintro e w7 ⟨rfl,hw,hb,hs⟩
  go_wp2
  go_end0
  exact⟨rfl,by rw[wr_fn k nu _ kl q x HQ.out HX.out,HLS.out];simpa [List.append_assoc,HT0.out] using hw,HU.out.trans hb,HS.out.trans hs⟩
end Go.Proofs.YtflmjbmdmoifhaaGreatDoor
namespace Go.Proofs.YtflmjbmdmoifhaaGreatDoor
open Go.Lib (hid)
open Go.RowKit
theorem kid4 {w:World} {B:Nat} {l:List Pars.Node} {css:List (Array Value)} {g0 o0 i:Nat} {x:Pars.Node} (hk:NodesAt w (fun g=>g<B) l css) (hrow:0<l.length→∃g o,(some ⟨g0,o0,none⟩:Option Addr)=some ⟨g,o,none⟩∧g<B∧g<w.heap.size∧w.rangeAt g o (flatA css)) (hx:l[i]? =some x):
  ∃b c d,NodeAt w (fun g=>g<B) x #[.int .i64 x.kind,b,c,d]∧∀W,Below B w W→W.cell? ⟨g0,o0+i * 4,none⟩=some (.int .i64 x.kind)∧W.cell? ⟨g0,o0+i * 4+1,none⟩=some b∧W.cell? ⟨g0,o0+i * 4+2,none⟩=some c∧W.cell? ⟨g0,o0+i * 4+3,none⟩=some d:=by
 obtain⟨xc,g,o,h1,_,h3,h4,h5⟩:=kid_at hk hrow hx
 injection h1 with h1
 injection h1 with e1 e2
 subst e1 e2
 obtain⟨a,b,c,d,rfl⟩:=four h3
 have ha:a= .int .i64 x.kind:=by
  cases x with
  | mk k nu t kl=>
   unfold NodeAt at h4
   obtain⟨_,_,_,e,_⟩:=h4
   simp[nc] at e
   exact e.1
 subst ha
 exact⟨b,c,d,h4,fun W hW=>⟨by simpa using h5 W hW 0 _ rfl,by simpa using h5 W hW 1 _ rfl,by simpa using h5 W hW 2 _ rfl,by simpa using h5 W hW 3 _ rfl⟩⟩
end Go.Proofs.YtflmjbmdmoifhaaGreatDoor
namespace Go.Proofs.YtflmjbmdmoifhaaGreatDoor
open Go.Lib (hid)
open Go.RowKit
theorem below_grow (w:World) (k:Nat) (os:Array Obj):Below w.heap.size w (Go.Sort.grow (w.drewN k) os):=(below_drewN (Below.refl _ w) k).trans ⟨rfl,rfl,rfl,by simp[Go.Sort.grow],fun i hi=>by have:i<(w.drewN k).heap.size:=hi;simp[Go.Sort.grow];exact Array.getElem?_append_left hi⟩
theorem wr_fst5 (nu:Int) (t:List UInt8) (l:List Pars.Node):Wri.wr (.mk 5 nu t l) .fst=t:=rfl
set_option maxRecDepth 100000 in
set_option maxHeartbeats 4000000 in
theorem first_w {N:Nat} (IH:Wall N) (FN:∀{n:Pars.Node} {cs:Array Value} {w:World} {B wb:Nat} {l:List UInt8},Wri.wg n≤N+1→Wri.wg n≤1048576→Ri n→n.kind=9→NodeAt w (fun g=>g<B) n cs→Wt B wb l w→B≤w.heap.size→7≤B→EnvW w→l.length+(Wri.wr n .fn).length≤70368744177664→Calls Tryz.prog 57 #[.pointer (some ⟨wb,0,none⟩),.agg cs] w (WOut B wb l (Wri.wr n .fn) w)):∀{n:Pars.Node} {cs:Array Value} {w:World} {B wb:Nat} {l:List UInt8},Wri.wg n≤N+1→Wri.wg n≤1048576→Ri n→NodeAt w (fun g=>g<B) n cs→Wt B wb l w→B≤w.heap.size→7≤B→EnvW w→l.length+(Wri.wr n .fst).length≤70368744177664→Calls Tryz.prog 115 #[.pointer (some ⟨wb,0,none⟩),.agg cs] w (WOut B wb l (Wri.wr n .fst) w):=by
 intro n cs w B wb l hN hM hR hn hW hBw h7 he hl
 obtain⟨k,nu,t,kl⟩:=n
 have hn0:=hn
 unfold NodeAt at hn
 obtain⟨A,cap,css,rfl,hc1,hc2,hrow,hk⟩:=hn
 have HROW:=hid hrow
 have HK:=hid hk
 have HN:=hid hn0
 have HE:=hid he
 have hwlt:=hW.lt
 have hll:=Wri.wgs_len kl
 clear hrow hk hn0 he
 have HXW:Hid (∀x,x∈kl→Wri.wg x≤N∧Wri.wg x≤1048576):=hid (fun x hxm=>by have:=Wri.wg_mem hxm;simp only[Wri.wg] at hN hM;exact⟨by omega,by omega⟩)
 have hklm:kl.length≤1048576:=by simp only[Wri.wg] at hM;omega
 by_cases y1:k=1
 ·subst y1
  have hl2:l.length+(Lib.itoa nu).length≤70368744177664:=hl
  clear hl
  have hl:=hl2
  clear hl2
  have hnu:0≤nu∧nu≤9007199254740992:=by have h:=(ri_parts hR).2.1;unfold Wri.fields at h;simp at h;omega
  have HQA:Hid (∀W,EnvW W→Calls Tryz.prog 124 #[.int .i64 nu] W fun e w'=>e= .returned (.string (byt (Lib.itoa nu)))∧Below W.heap.size W w'):=hid (fun W hE=>(Tryz.strconv_Itoa nu (by omega) (by omega) W hE.pow).mono (by rintro e w' ⟨rfl,k,os,rfl⟩;exact⟨rfl,below_grow W k os⟩))
  clear hnu
  go_enter Tryz.func115,Tryz.ntmps115
  go_upto_region 1 with fail
  refine gen_world (F:=fun W=>Box W w.heap.size 110 #[.pointer (some ⟨wb,0,none⟩)]∧Box W (w.heap.size+1) 24 (nc 1 nu t (.slice A kl.length cap))∧Below w.heap.size w W) ⟨(Box.new w _ _).alloc _,by have:=Box.new (w.alloc (.cells #[.pointer (some ⟨wb,0,none⟩)] 110 (0,0))) 24 (nc 1 nu t (.slice A kl.length cap));simpa using this,(below1 w _).alloc (by simp) _⟩ ?_
  rintro W0 ⟨p0,b0,hU⟩
  have PX:=hid p0
  have NB:=hid b0
  have WT:=hid (hW.below hU)
  have HU:Hid (Below B w W0):=hid (hU.mono hBw)
  have HS:Hid (Stays wb w W0):=hid (Stays.below hU)
  have hB0:B≤W0.heap.size:=Nat.le_trans hBw hU.size
  have HPB:Hid (w.heap.size≠wb):=hid (by omega)
  have HNENB:Hid (w.heap.size+1≠wb):=hid (by omega)
  clear p0 b0 hU
  have c0:=NB.out.cell 0
  simp[nc] at c0
  go_upto_region 3 with fail
  clear c0
  refine wp_region_held_drew (S:=fun w'=>Box w' w.heap.size 110 #[.pointer (some ⟨wb,0,none⟩)]∧Box w' (w.heap.size+1) 24 (nc 1 nu t (.slice A kl.length cap))) (by kernel_rfl) ⟨PX.out.drew,NB.out.drew⟩ (fun hHeld=> ?_)
  obtain⟨wd,hwd⟩:∃wd,W0.drew=wd:=⟨_,rfl⟩
  have hdr:Below W0.heap.size W0 wd:=hwd ▸ (Below.refl _ W0).drew
  (try rw[hwd] at hHeld)
  (try rw[hwd])
  clear hwd hHeld
  replace WT:=hid (WT.out.below hdr)
  replace PX:=bl PX hdr
  replace NB:=bl NB hdr
  replace HU:=hid (HU.out.trans (hdr.mono hB0))
  replace HS:=hid (HS.out.trans (Stays.below hdr))
  replace hB0:=Nat.le_trans hB0 hdr.size
  clear hdr
  refine tH (i:=0) (v:= .pointer (some ⟨wb,0,none⟩)) rfl ?_ ⟨PX.out,NB.out⟩ ?_
  ·intro w hSw
   have cq:=hSw.1.cell 0
   simp at cq
   go_simp
  (try simp only[Act.put,sq])
  refine tH (i:=1) (v:= ?_) rfl ?_ ⟨PX.out,NB.out⟩ ?_
  rotate_left
  ·intro w hSw
   go_simp
   try (with_reducible rfl)
  (try simp only[Act.put,sq])
  refine tH (i:=2) (v:= ?_) rfl ?_ ⟨PX.out,NB.out⟩ ?_
  rotate_left
  ·intro w hSw
   go_simp
   try (with_reducible rfl)
  (try simp only[Act.put,sq])
  refine tH (i:=3) (v:= ?_) rfl ?_ ⟨PX.out,NB.out⟩ ?_
  rotate_left
  ·intro w hSw
   go_simp
   try (with_reducible rfl)
  (try simp only[Act.put,sq])
  refine tH (i:=4) (v:= .int .i64 nu) rfl ?_ ⟨PX.out,NB.out⟩ ?_
  ·intro w hSw
   have cq:=hSw.2.cell 1
   simp[nc] at cq
   go_simp
  (try simp only[Act.put,sq])
  refine rdH 5 rfl fun K hK=> ?_
  go_simp
  refine (HQA.out _ (HE.out.below HU.out h7)).mono ?_
  rintro e w1 ⟨rfl,hq⟩
  replace WT:=hid (WT.out.below hq)
  replace PX:=bl PX hq
  replace NB:=bl NB hq
  replace HU:=hid (HU.out.trans (hq.mono hB0))
  replace HS:=hid (HS.out.trans (Stays.below hq))
  replace hB0:=Nat.le_trans hB0 hq.size
  clear hq
  refine hK.out _ _ ⟨PX.out,NB.out⟩ (fun hHeld=> ?_)
  clear hK hHeld K
  (try simp only[Act.put,sq])
  refine rdH 6 rfl fun K hK=> ?_
  go_simp
  refine (wstr B wb l (Lib.itoa nu) _ WT.out (by (try simp only[ln] at hl);(try simp only[ln]);omega) hB0).mono ?_
  rintro e w2 ⟨⟨v,rfl⟩,hw,hb,hs⟩
  replace PX:=st hs PX HPB
  replace NB:=st hs NB HNENB
  refine hK.out _ _ ⟨PX.out,NB.out⟩ (fun hHeld=> ?_)
  clear hK hHeld K
  (try simp only[Act.put,sq])
  refine wpAnyH_done (by kernel_rfl) ?_ _
  go_wp2
  go_end0
  exact⟨rfl,hw,HU.out.trans hb,HS.out.trans hs⟩
 by_cases y2:k=2
 ·subst y2
  exact absurd (ri_few hR) (by decide)
 by_cases y3:k=3
 ·subst y3
  exact absurd (ri_few hR) (by decide)
 by_cases y4:k=4
 ·subst y4
  exact absurd (ri_few hR) (by decide)
 by_cases y5:k=5
 ·subst y5
  rw[wr_fst5] at hl
  go_enter Tryz.func115,Tryz.ntmps115
  go_upto_region 1 with fail
  refine gen_world (F:=fun W=>Box W w.heap.size 110 #[.pointer (some ⟨wb,0,none⟩)]∧Box W (w.heap.size+1) 24 (nc 5 nu t (.slice A kl.length cap))∧Below w.heap.size w W) ⟨(Box.new w _ _).alloc _,by have:=Box.new (w.alloc (.cells #[.pointer (some ⟨wb,0,none⟩)] 110 (0,0))) 24 (nc 5 nu t (.slice A kl.length cap));simpa using this,(below1 w _).alloc (by simp) _⟩ ?_
  rintro W0 ⟨p0,b0,hU⟩
  have PX:=hid p0
  have NB:=hid b0
  have WT:=hid (hW.below hU)
  have HU:Hid (Below B w W0):=hid (hU.mono hBw)
  have HS:Hid (Stays wb w W0):=hid (Stays.below hU)
  have hB0:B≤W0.heap.size:=Nat.le_trans hBw hU.size
  have HPB:Hid (w.heap.size≠wb):=hid (by omega)
  have HNENB:Hid (w.heap.size+1≠wb):=hid (by omega)
  clear p0 b0 hU
  have c0:=NB.out.cell 0
  simp[nc] at c0
  have cp:=PX.out.cell 0
  simp at cp
  have c2:=NB.out.cell 2
  simp[nc] at c2
  go_upto_region 11 with fail
  go_wp2
  go_still_tail 5,(by kernel_rfl)
  change wpList _ _ _ _ _ W0.drew
  have hdr:Below W0.heap.size W0 W0.drew:=Below.drew (Below.refl _ _)
  have hdz:W0.drew.heap.size=W0.heap.size:=rfl
  obtain⟨wd,hwd⟩:∃wd,W0.drew=wd:=⟨_,rfl⟩
  rw[hwd] at hdr hdz ⊢
  replace WT:=hid (WT.out.below hdr)
  replace NB:=bl NB hdr
  replace PX:=bl PX hdr
  replace HU:=hid (HU.out.trans (hdr.mono hB0))
  replace HS:=hid (HS.out.trans (Stays.below hdr))
  have hB1:B≤wd.heap.size:=by omega
  clear hB0
  have hB0:=hB1
  clear hdr hdz hwd
  clear c0 cp c2
  go_wp2_with fail
  refine (wstr B wb l t _ WT.out (by (try simp only[ln] at hl);(try simp only[ln]);omega) hB0).mono ?_
  rintro e w2 ⟨⟨v,rfl⟩,hw,hb,hs⟩
  go_wp2
  go_end0
  exact⟨rfl,hw,HU.out.trans hb,HS.out.trans hs⟩
 by_cases y6:k=6
 ·subst y6
  exact absurd (ri_few hR) (by decide)
 by_cases y7:k=7
 ·subst y7
  exact absurd (ri_few hR) (by decide)
 by_cases y9:k=9
 ·subst y9
  go_enter Tryz.func115,Tryz.ntmps115
  go_upto_region 1 with fail
  refine gen_world (F:=fun W=>Box W w.heap.size 110 #[.pointer (some ⟨wb,0,none⟩)]∧Box W (w.heap.size+1) 24 (nc 9 nu t (.slice A kl.length cap))∧Below w.heap.size w W) ⟨(Box.new w _ _).alloc _,by have:=Box.new (w.alloc (.cells #[.pointer (some ⟨wb,0,none⟩)] 110 (0,0))) 24 (nc 9 nu t (.slice A kl.length cap));simpa using this,(below1 w _).alloc (by simp) _⟩ ?_
  rintro W0 ⟨p0,b0,hU⟩
  have PX:=hid p0
  have NB:=hid b0
  have WT:=hid (hW.below hU)
  have HU:Hid (Below B w W0):=hid (hU.mono hBw)
  have HS:Hid (Stays wb w W0):=hid (Stays.below hU)
  have hB0:B≤W0.heap.size:=Nat.le_trans hBw hU.size
  have HPB:Hid (w.heap.size≠wb):=hid (by omega)
  have HNENB:Hid (w.heap.size+1≠wb):=hid (by omega)
  clear p0 b0 hU
  have c0:=NB.out.cell 0
  simp[nc] at c0
  have cp:=PX.out.cell 0
  simp at cp
  have c1:=NB.out.cell 1
  have c2:=NB.out.cell 2
  have c3:=NB.out.cell 3
  simp[nc] at c1 c2 c3
  go_wp2_with fail
  refine (FN hN hM hR rfl (HN.out.belowB HU.out) WT.out hB0 h7 (HE.out.below HU.out h7) hl).mono ?_
  rintro e w2 ⟨rfl,hw,hb,hs⟩
  go_wp2
  go_end0
  exact⟨rfl,hw,HU.out.trans hb,HS.out.trans hs⟩
 have n1:(k==1)=false:=bn y1
 have n2:(k==2)=false:=bn y2
 have n3:(k==3)=false:=bn y3
 have n4:(k==4)=false:=bn y4
 have n5:(k==5)=false:=bn y5
 have n6:(k==6)=false:=bn y6
 have n7:(k==7)=false:=bn y7
 have n9:(k==9)=false:=bn y9
 have hl0:Wri.wr (.mk k nu t kl) .fst=[]:=by show Wri.wFst k nu t (Wri.wrs kl)=[];unfold Wri.wFst;rw[if_neg y1,if_neg y2,if_neg y3,if_neg y4,if_neg y5,if_neg y6,if_neg y7,if_neg y9]
 go_enter Tryz.func115,Tryz.ntmps115
 go_upto_region 1 with fail
 refine gen_world (F:=fun W=>Box W w.heap.size 110 #[.pointer (some ⟨wb,0,none⟩)]∧Box W (w.heap.size+1) 24 (nc k nu t (.slice A kl.length cap))∧Below w.heap.size w W) ⟨(Box.new w _ _).alloc _,by have:=Box.new (w.alloc (.cells #[.pointer (some ⟨wb,0,none⟩)] 110 (0,0))) 24 (nc k nu t (.slice A kl.length cap));simpa using this,(below1 w _).alloc (by simp) _⟩ ?_
 rintro W0 ⟨p0,b0,hU⟩
 have PX:=hid p0
 have NB:=hid b0
 have WT:=hid (hW.below hU)
 have HU:Hid (Below B w W0):=hid (hU.mono hBw)
 have HS:Hid (Stays wb w W0):=hid (Stays.below hU)
 have hB0:B≤W0.heap.size:=Nat.le_trans hBw hU.size
 have HPB:Hid (w.heap.size≠wb):=hid (by omega)
 have HNENB:Hid (w.heap.size+1≠wb):=hid (by omega)
 clear p0 b0 hU
 have c0:=NB.out.cell 0
 simp[nc] at c0
 go_wp2
 go_end0
 exact⟨rfl,by rw[hl0];simpa using WT.out,HU.out,HS.out⟩
end Go.Proofs.YtflmjbmdmoifhaaGreatDoor

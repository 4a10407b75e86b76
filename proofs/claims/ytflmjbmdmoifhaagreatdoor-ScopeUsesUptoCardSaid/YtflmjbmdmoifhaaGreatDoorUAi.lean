/-
  Texts that the law leans on: PmL, PmM, Mid. Conditions: as each says.
-/
import Derived.Test.YtflmjbmdmoifhaaGreatDoorUAh
import Derived.Test.YtflmjbmdmoifhaaGreatDoorUAc
import Derived.Test.YtflmjbmdmoifhaaGreatDoorUAa
set_option linter.unusedSimpArgs false
set_option linter.unusedVariables false
namespace Go.Proofs.YtflmjbmdmoifhaaGreatDoor
open Go.Lib (hid)
open Go.RowKit
theorem peek_cells (ts:List KT) (k:Nat):∃(tcs:Array Value) (KD:Nat) (TX:ByteArray),(∀a b:Pars.R,Pars.peek [123] (left ts k) a b=if KD=4∧TX=⟨#[123]⟩ then a else b)∧tcs[0]? =some (.int .i64 (KD:Int))∧tcs[3]? =some (.string TX)∧(5:Nat)=tcs.size∧tcs.all (·.oneCell')=true∧here ts k=tcs:=by
 refine⟨here ts k,?_⟩
 cases ht:ts[k]? with
 | none=>
  refine⟨0,⟨#[]⟩,fun a b=> ?_,by unfold here;rw[ht];rfl,by unfold here;rw[ht];rfl,(ktok_size ts k).symm,ktok_one ts k,rfl⟩
  rw[left_nil (List.getElem?_eq_none_iff.1 ht)]
  simp[Pars.peek]
 | some t=>
  refine⟨t.1.kind,byt t.1.text,fun a b=> ?_,by unfold here;rw[ht];rfl,by unfold here;rw[ht];rfl,(ktok_size ts k).symm,ktok_one ts k,rfl⟩
  rw[left_cons ht]
  simp only[Pars.peek]
  have e:(t.1.text=[123])↔(byt t.1.text=⟨#[123]⟩):=⟨fun h=>by rw[h];rfl,fun h=>byt_inj (h.trans (by rfl:(⟨#[123]⟩:ByteArray)=byt [123]))⟩
  by_cases h:t.1.kind=4∧t.1.text=[123]
  ·rw[if_pos h,if_pos ⟨h.1,e.1 h.2⟩]
  ·rw[if_neg h,if_neg (fun q=>h ⟨q.1,e.2 q.2⟩)]
set_option maxRecDepth 100000 in
set_option maxHeartbeats 4000000 in
theorem stmt_step {n:Nat} (h:All n):∀{w:World} {b:Nat} {ts:List KT} {A:Option Addr} {c k:Nat} {fn lp:Bool},PSt w b ts A c k fn lp→20 * (ts.length - k)+14<n+1→Calls Tryz.prog 53 #[.pointer (some ⟨b,0,none⟩)] w (Got w b ts A c k fn lp (Pars.run (n+1) .statement fn lp (left ts k))):=by
 intro w b ts A c k fn lp hP hm
 obtain⟨i0,hi0,hi1,hi2,hi3⟩:=info_parts parts_nod
 have HAB:=hid hP.old
 have HR:Hid (Pars.run (n+1) .statement fn lp (left ts k)=_):=hid (by rw[Pars.run])
 have hbl:=hP.box.lt
 have hle:=hP.kle
 go_enter Tryz.func53,Tryz.ntmps53
 go_upto_region 1 with fail
 refine gen_world (F:=fun W=>Box W w.heap.size 24 #[.int .i64 0,.int .i64 0,.string ⟨#[]⟩,.slice none 0 0]∧Below w.heap.size w W) ⟨Box.new w _ _,below1 w _⟩ ?_
 rintro W0 ⟨r0,hU⟩
 have RB:=hid r0
 have HP:=hid (hP.below hU)
 have HU:Hid (Upd w W0 b):=hid (Upd.below hU b)
 have HZ:Hid (w.heap.size<W0.heap.size):=hid r0.lt
 have hz0:=r0.lt
 have HZW:Hid (W0.heap.size≤W0.heap.size):=hid (Nat.le_refl _)
 clear r0 hU hP
 go_wp2_with fail
 refine (is_any Pars.wLet _ b ts A c (k) fn lp HP.out).mono ?_
 rintro e i1 (⟨hi,hk,rfl,hx,hu⟩ | ⟨hi,rfl,hx,hu⟩)
 ·replace HR:=hid (HR.out.trans (Pars.alt_some hi))
  replace RB:=bg RB hu
  replace HP:=hid (HP.out.upd hx hu (by omega))
  replace HU:=hid (HU.out.trans hu)
  replace HZW:=hid (Nat.le_trans HZW.out hu.size)
  clear hi hx hu
  have hleA:=HP.out.kle
  go_wp2_with fail
  refine (name_any _ b ts A c (k+1) fn lp HP.out).mono ?_
  rintro e w2 (⟨tn,htn,hk1,hk,rfl,hx,hu⟩ | ⟨hi,rfl,hu⟩)
  rotate_left
  ·exact⟨rfl,.inr ⟨HR.out.trans (named_no hi),rfl,HU.out.trans hu⟩⟩
  replace HR:=hid (HR.out.trans (named_at htn hk1))
  obtain⟨nm,hnm⟩:∃q,tn.1.text=q:=⟨_,rfl⟩
  rw[hnm] at HR ⊢
  replace RB:=bg RB hu
  replace HP:=hid (HP.out.upd hx hu (by omega))
  replace HU:=hid (HU.out.trans hu)
  replace HZW:=hid (Nat.le_trans HZW.out hu.size)
  clear htn hk1 hx hu hnm
  have hleB:=HP.out.kle
  go_upto_region 3 with (refine wpList_store_box rfl 24 (.tmp 3) (.tmp 10) rfl w2.heap.size #[.int .i64 20,.int .i64 0,.string (byt nm),.slice none 0 0] rfl rfl 24 _ (Box.new w2 _ _) info_nod rfl (nz_one _ _ _ _ _ _) ?_;intro w3 hx hv hz;have HZO:=hid hz;clear hz)
  have hb:Below w2.heap.size w2 w3:=((Below.refl _ w2).alloc (Nat.le_refl _) _).trans (hv.own (Nat.le_refl _) (by simp))
  have OB:=hid hx
  have hzO:=Nat.lt_of_lt_of_le HZ.out HZW.out
  have hoB:W0.heap.size≤w2.heap.size:=HZW.out
  replace RB:=bl RB hb
  replace HP:=hid (HP.out.below hb)
  replace HU:=hid (HU.out.step hb)
  replace HZW:=hid (Nat.le_trans HZW.out hb.size)
  clear hx hv hb
  obtain⟨oa,hoa⟩:∃oa,w2.heap.size=oa:=⟨_,rfl⟩
  rw[hoa] at OB hzO hoB ⊢
  clear hoa
  go_wp2_with fail
  refine (must_any [61] _ b ts A c (k+1+1) fn lp HP.out).mono ?_
  rintro e w4 (⟨hi,hk,rfl,hx,hu⟩ | ⟨hi,rfl,hu⟩)
  rotate_left
  ·exact⟨rfl,.inr ⟨HR.out.trans (Pars.must_no hi),rfl,HU.out.trans hu⟩⟩
  replace HR:=hid (HR.out.trans (Pars.must_some hi))
  replace RB:=bg RB hu
  replace OB:=bg OB hu
  replace HP:=hid (HP.out.upd hx hu (by omega))
  replace HU:=hid (HU.out.trans hu)
  replace HZW:=hid (Nat.le_trans HZW.out hu.size)
  clear hi hx hu
  have hleC:=HP.out.kle
  have hOlt:=OB.out.lt
  go_wp2_with fail
  refine (h.expr HP.out (by omega)).mono ?_
  rintro e wx (⟨x1,k1,cs1,hr,hk1,hk2,rfl,hn,hx,hu⟩ | ⟨hr,rfl,hu⟩)
  rotate_left
  ·exact⟨rfl,.inr ⟨HR.out.trans (Pars.and_no hr),rfl,HU.out.trans hu⟩⟩
  have hlt1:=got_lt hr rfl
  replace HR:=hid (HR.out.trans (Pars.and_some hr))
  have HNF0:Hid (NodeAt wx (fun g=>W0.heap.size≤g∧g≠oa) x1 cs1):=hid (hn.weak (fun g hg=>by have:=HZW.out;omega))
  have HN1:Hid (NodeAt _ (fun g=>W0.heap.size≤g) x1 cs1):=hid (hn.weak (fun g hg=>by have:=HZW.out;omega))
  have hcs1:(Tryz.prog.info? 24).map (·.size)=some cs1.size:=by rw[NodeAt.size hn];exact info_nod
  have h41:(4:Nat)=cs1.size:=(NodeAt.size hn).symm
  have hone1:=NodeAt.one hn
  have HCS1:=hid hcs1
  have H41:=hid h41
  have HONE1:=hid hone1
  replace RB:=bg RB hu
  replace OB:=bg OB hu
  replace HP:=hid (HP.out.upd hx hu (by omega))
  replace HU:=hid (HU.out.trans hu)
  replace HZW:=hid (Nat.le_trans HZW.out hu.size)
  clear hr hn hx hu hcs1 h41 hone1
  have hleX:=HP.out.kle
  obtain⟨v1,hlit,hvo⟩:=NodeAt.lit HN1.out
  rw[hlit] at HNF0 HN1 HCS1 H41 HONE1 ⊢
  have HVO1:=hid hvo
  clear hlit hvo
  have hoX:=OB.out.lt
  have hne:oa≠wx.heap.size:=by omega
  have hne2:wx.heap.size≠oa:=fun e=>hne e.symm
  have f3:(wx.alloc (.cells #[.int .i64 x1.kind,.int .i64 x1.num,.string (byt x1.text),v1] 24)).frozen? ⟨oa,3,none⟩=false:=(OB.out.alloc _).frozen 3
  have c3:=(OB.out.alloc (.cells #[.int .i64 x1.kind,.int .i64 x1.num,.string (byt x1.text),v1] 24)).cell 3
  simp at c3
  go_upto_region 5 with fail
  clear f3 c3
  have bxB:=Box.new wx 24 #[.int .i64 x1.kind,.int .i64 x1.num,.string (byt x1.text),v1]
  have hb1:Below wx.heap.size wx (wx.alloc (.cells #[.int .i64 x1.kind,.int .i64 x1.num,.string (byt x1.text),v1] 24)):=below1 wx _
  have hu1:Upd (wx.alloc (.cells #[.int .i64 x1.kind,.int .i64 x1.num,.string (byt x1.text),v1] 24)) ((wx.alloc (.cells #[.int .i64 x1.kind,.int .i64 x1.num,.string (byt x1.text),v1] 24)).setCell ⟨oa,3,none⟩ (.slice (some ⟨wx.heap.size,0,none⟩) 1 1)) oa:=(Upd.refl _ _).set (.inl rfl) _
  have OB8:=(OB.out.alloc (.cells #[.int .i64 x1.kind,.int .i64 x1.num,.string (byt x1.text),v1] 24)).set 3 (.slice (some ⟨wx.heap.size,0,none⟩) 1 1)
  simp at OB8
  obtain⟨wy,hwy⟩:∃wy,((wx.alloc (.cells #[.int .i64 x1.kind,.int .i64 x1.num,.string (byt x1.text),v1] 24)).setCell ⟨oa,3,none⟩ (.slice (some ⟨wx.heap.size,0,none⟩) 1 1))=wy:=⟨_,rfl⟩
  rw[hwy] at hu1 OB8
  rw[World.setCell_alloc_past _ _ _ _ hoX] at hwy
  rw[hwy]
  clear hwy
  have hb:Below w.heap.size wx wy:=(hb1.mono (by omega)).trans (hu1.own (by omega) (by have:=hb1.size;have:=HU.out.size;omega))
  have BXB:=Box.grown bxB hu1 (by intro h;injection h with h;omega)
  have HNX:Hid (NodeAt wy (fun g=>W0.heap.size≤g∧g≠oa) x1 #[.int .i64 x1.kind,.int .i64 x1.num,.string (byt x1.text),v1]):=hid (((HNF0.out.below hb1)).upd hu1 (fun g hg=>hg.2))
  replace RB:=hid (Box.grown (RB.out.below hb1 RB.out.lt) hu1 (by intro h;injection h with h;omega))
  replace HP:=hid (HP.out.belowB hb (by omega) (fun hn g o e=>HAB.out hn g o e))
  replace HU:=hid (HU.out.belowB hb (Nat.le_refl _))
  have hgB:W0.heap.size≤wx.heap.size:=HZW.out
  replace HZW:=hid (Nat.le_trans HZW.out hb.size)
  have OB:=hid OB8
  have ob:=OB.out
  have HNN:Hid (NodeAt wy (fun g=>W0.heap.size≤g∧g≠oa) (.mk 20 0 nm [x1]) #[.int .i64 20,.int .i64 0,.string (byt nm),.slice (some ⟨wx.heap.size,0,none⟩) 1 1]):=hid (NodeAt.build (css:=[#[.int .i64 x1.kind,.int .i64 x1.num,.string (byt x1.text),v1]]) 20 0 nm BXB ⟨hgB,by omega⟩ ⟨HNX.out,trivial⟩)
  clear hb1 hu1 OB8 hb bxB BXB
  go_wp2_with (refine wpList_load_row rfl 24 (.tmp 3) rfl oa rfl _ #[.int .i64 20,.int .i64 0,.string (byt nm),.slice (some ⟨wx.heap.size,0,none⟩) 1 1] (0,0) _ ob Tryz.underlying24 rfl info_nod ?_)
  refine (ended_any _ b ts A c (k1) fn lp #[.int .i64 20,.int .i64 0,.string (byt nm),.slice (some ⟨wx.heap.size,0,none⟩) 1 1] HP.out rfl (nz_one _ _ _ _ _ _)).mono ?_
  rintro e we (⟨hi,hk,rfl,hx,hu⟩ | ⟨hi,rfl,hu⟩)
  rotate_left
  ·exact⟨rfl,.inr ⟨HR.out.trans (Pars.must_no hi),rfl,HU.out.trans hu⟩⟩
  replace HR:=hid (HR.out.trans (Pars.must_some hi))
  replace RB:=bg RB hu
  replace HNN:=hid (HNN.out.upd hu (fun g hg=>by first | omega | (simp only at hg;omega)))
  replace HP:=hid (HP.out.upd hx hu (by omega))
  replace HU:=hid (HU.out.trans hu)
  replace HZW:=hid (Nat.le_trans HZW.out hu.size)
  clear hi hx hu
  have hleE:=HP.out.kle
  go_wp2_with (refine wpList_store_box rfl 24 (.tmp 2) (.tmp 19) rfl w.heap.size #[.int .i64 20,.int .i64 0,.string (byt nm),.slice (some ⟨wx.heap.size,0,none⟩) 1 1] rfl rfl 24 _ RB.out info_nod rfl (nz_one _ _ _ _ _ _) ?_;intro wz hxz huz hzz;have HZZ:=hid hzz;clear hzz)
  refine bodyPost_ret (results_box rfl _ _ w.heap.size 24 _ _ rfl hxz Tryz.underlying24 rfl info_nod) rfl ?_
  exact .inl ⟨(.mk 20 0 nm [x1]),k1+1, #[.int .i64 20,.int .i64 0,.string (byt nm),.slice (some ⟨wx.heap.size,0,none⟩) 1 1],HR.out,by omega,HP.out.kle,rfl,(HNN.out.upd huz (fun g hg=>by first | omega | (simp only at hg;omega))).weak (fun g hg=>by first | omega | (simp only at hg;omega)),Box.grown HP.out.box huz (by intro h;injection h with h;omega),Upd.fresh HU.out huz (Nat.le_refl _)⟩
 replace HR:=hid (HR.out.trans (Pars.alt_no hi))
 replace RB:=bg RB hu
 replace HP:=hid (HP.out.upd hx hu (by omega))
 replace HU:=hid (HU.out.trans hu)
 replace HZW:=hid (Nat.le_trans HZW.out hu.size)
 clear hi hx hu
 go_wp2_with fail
 refine (is_any Pars.wFn _ b ts A c (k) fn lp HP.out).mono ?_
 rintro e i2 (⟨hi,hk,rfl,hx,hu⟩ | ⟨hi,rfl,hx,hu⟩)
 ·replace HR:=hid (HR.out.trans (Pars.alt_some hi))
  replace RB:=bg RB hu
  replace HP:=hid (HP.out.upd hx hu (by omega))
  replace HU:=hid (HU.out.trans hu)
  replace HZW:=hid (Nat.le_trans HZW.out hu.size)
  clear hi hx hu
  have hleA:=HP.out.kle
  go_wp2_with fail
  refine (name_any _ b ts A c (k+1) fn lp HP.out).mono ?_
  rintro e w2 (⟨tn,htn,hk1,hk,rfl,hx,hu⟩ | ⟨hi,rfl,hu⟩)
  rotate_left
  ·exact⟨rfl,.inr ⟨HR.out.trans (named_no hi),rfl,HU.out.trans hu⟩⟩
  replace HR:=hid (HR.out.trans (named_at htn hk1))
  obtain⟨nm,hnm⟩:∃q,tn.1.text=q:=⟨_,rfl⟩
  rw[hnm] at HR ⊢
  replace RB:=bg RB hu
  replace HP:=hid (HP.out.upd hx hu (by omega))
  replace HU:=hid (HU.out.trans hu)
  replace HZW:=hid (Nat.le_trans HZW.out hu.size)
  clear htn hk1 hx hu hnm
  have hleB:=HP.out.kle
  go_wp2_with fail
  refine (h.func nm HP.out (by omega)).mono ?_
  rintro e wx (⟨x1,k1,cs1,hr,hk1,hk2,rfl,hn,hx,hu⟩ | ⟨hr,rfl,hu⟩)
  rotate_left
  ·exact⟨rfl,.inr ⟨HR.out.trans (Pars.and_no hr),rfl,HU.out.trans hu⟩⟩
  have hlt1:=got_lt hr rfl
  replace HR:=hid (HR.out.trans (Pars.and_some hr))
  have HN1:Hid (NodeAt _ (fun g=>W0.heap.size≤g) x1 cs1):=hid (hn.weak (fun g hg=>by have:=HZW.out;omega))
  have hcs1:(Tryz.prog.info? 24).map (·.size)=some cs1.size:=by rw[NodeAt.size hn];exact info_nod
  have h41:(4:Nat)=cs1.size:=(NodeAt.size hn).symm
  have hone1:=NodeAt.one hn
  have HCS1:=hid hcs1
  have H41:=hid h41
  have HONE1:=hid hone1
  replace RB:=bg RB hu
  replace HP:=hid (HP.out.upd hx hu (by omega))
  replace HU:=hid (HU.out.trans hu)
  replace HZW:=hid (Nat.le_trans HZW.out hu.size)
  clear hr hn hx hu hcs1 h41 hone1
  have hleX:=HP.out.kle
  obtain⟨v1,hlit,hvo⟩:=NodeAt.lit HN1.out
  rw[hlit] at HN1 HCS1 H41 HONE1 ⊢
  have HVO1:=hid hvo
  clear hlit hvo
  have HNF:Hid (w.heap.size<wx.heap.size):=hid (by have:=HZ.out;have:=HZW.out;omega)
  have RBB:=RB.out.alloc (.cells #[.int .i64 x1.kind,.int .i64 x1.num,.string (byt x1.text),v1] 24)
  have hne0:=Nat.ne_of_lt RB.out.lt
  go_wp2_with (refine wpList_store_box rfl 24 (.tmp 2) (.tmp 28) rfl w.heap.size #[.int .i64 21,.int .i64 0,.string ⟨#[]⟩,.slice (some ⟨wx.heap.size,0,none⟩) 1 1] rfl rfl 24 _ RBB info_nod rfl (nz_one _ _ _ _ _ _) ?_;intro wz hxz huz hzz;have HZZ:=hid hzz;clear hzz)
  have bxB:=Box.new wx 24 #[.int .i64 x1.kind,.int .i64 x1.num,.string (byt x1.text),v1]
  have hb:Below wx.heap.size wx (wx.alloc (.cells #[.int .i64 x1.kind,.int .i64 x1.num,.string (byt x1.text),v1] 24)):=below1 wx _
  obtain⟨wb,hwb⟩:∃wb,(wx.alloc (.cells #[.int .i64 x1.kind,.int .i64 x1.num,.string (byt x1.text),v1] 24))=wb:=⟨_,rfl⟩
  rw[hwb] at bxB hb huz
  clear hwb RBB
  have hgB:W0.heap.size≤wx.heap.size:=HZW.out
  replace RB:=bl RB hb
  replace HN1:=hid (HN1.out.below hb)
  replace HP:=hid (HP.out.below hb)
  replace HU:=hid (HU.out.step hb)
  replace HZW:=hid (Nat.le_trans HZW.out hb.size)
  have HNN:Hid (NodeAt wb (fun g=>W0.heap.size≤g) (.mk 21 0 [] [x1]) #[.int .i64 21,.int .i64 0,.string ⟨#[]⟩,.slice (some ⟨wx.heap.size,0,none⟩) 1 1]):=hid (NodeAt.build (css:=[#[.int .i64 x1.kind,.int .i64 x1.num,.string (byt x1.text),v1]]) 21 0 [] bxB hgB ⟨HN1.out,trivial⟩)
  clear bxB hb
  refine bodyPost_ret (results_box rfl _ _ w.heap.size 24 _ _ rfl hxz Tryz.underlying24 rfl info_nod) rfl ?_
  exact .inl ⟨(.mk 21 0 [] [x1]),k1, #[.int .i64 21,.int .i64 0,.string ⟨#[]⟩,.slice (some ⟨wx.heap.size,0,none⟩) 1 1],HR.out,by omega,HP.out.kle,rfl,(HNN.out.upd huz (fun g hg=>by first | omega | (simp only at hg;omega))).weak (fun g hg=>by first | omega | (simp only at hg;omega)),Box.grown HP.out.box huz (by intro h;injection h with h;omega),Upd.fresh HU.out huz (Nat.le_refl _)⟩
 replace HR:=hid (HR.out.trans (Pars.alt_no hi))
 replace RB:=bg RB hu
 replace HP:=hid (HP.out.upd hx hu (by omega))
 replace HU:=hid (HU.out.trans hu)
 replace HZW:=hid (Nat.le_trans HZW.out hu.size)
 clear hi hx hu
 go_wp2_with fail
 refine (is_any Pars.wIf _ b ts A c (k) fn lp HP.out).mono ?_
 rintro e i3 (⟨hi,hk,rfl,hx,hu⟩ | ⟨hi,rfl,hx,hu⟩)
 ·replace HR:=hid (HR.out.trans (Pars.alt_some hi))
  replace RB:=bg RB hu
  replace HP:=hid (HP.out.upd hx hu (by omega))
  replace HU:=hid (HU.out.trans hu)
  replace HZW:=hid (Nat.le_trans HZW.out hu.size)
  clear hi hx hu
  have hleA:=HP.out.kle
  go_wp2_with fail
  refine (h.ifs HP.out (by omega)).mono ?_
  rintro e wd (⟨x1,k1,cs1,hr,hk1,hk2,rfl,hn,hx,hu⟩ | ⟨hr,rfl,hu⟩)
  rotate_left
  ·exact⟨rfl,.inr ⟨HR.out.trans hr,rfl,HU.out.trans hu⟩⟩
  replace HR:=hid (HR.out.trans hr)
  have HN1:Hid (NodeAt _ (fun g=>W0.heap.size≤g) x1 cs1):=hid (hn.weak (fun g hg=>by have:=HZW.out;omega))
  have hcs1:(Tryz.prog.info? 24).map (·.size)=some cs1.size:=by rw[NodeAt.size hn];exact info_nod
  have h41:(4:Nat)=cs1.size:=(NodeAt.size hn).symm
  have hone1:=NodeAt.one hn
  have HCS1:=hid hcs1
  have H41:=hid h41
  have HONE1:=hid hone1
  replace RB:=bg RB hu
  replace HP:=hid (HP.out.upd hx hu (by omega))
  replace HU:=hid (HU.out.trans hu)
  replace HZW:=hid (Nat.le_trans HZW.out hu.size)
  clear hr hn hx hu hcs1 h41 hone1
  go_wp2_with (refine wpList_store_box rfl 24 (.tmp 2) (.tmp 33) rfl w.heap.size cs1 rfl rfl 24 _ RB.out HCS1.out H41.out HONE1.out ?_;intro wz hxz huz hzz;have HZZ:=hid hzz;clear hzz)
  refine bodyPost_ret (results_box rfl _ _ w.heap.size 24 _ _ rfl hxz Tryz.underlying24 rfl HCS1.out) rfl ?_
  exact .inl ⟨x1,k1,cs1,HR.out,by omega,HP.out.kle,rfl,(HN1.out.upd huz (fun g hg=>by first | omega | (simp only at hg;omega))).weak (fun g hg=>by first | omega | (simp only at hg;omega)),Box.grown HP.out.box huz (by intro h;injection h with h;omega),Upd.fresh HU.out huz (Nat.le_refl _)⟩
 replace HR:=hid (HR.out.trans (Pars.alt_no hi))
 replace RB:=bg RB hu
 replace HP:=hid (HP.out.upd hx hu (by omega))
 replace HU:=hid (HU.out.trans hu)
 replace HZW:=hid (Nat.le_trans HZW.out hu.size)
 clear hi hx hu
 go_wp2_with fail
 refine (is_any Pars.wWhile _ b ts A c (k) fn lp HP.out).mono ?_
 rintro e i4 (⟨hi,hk,rfl,hx,hu⟩ | ⟨hi,rfl,hx,hu⟩)
 ·replace HR:=hid (HR.out.trans (Pars.alt_some hi))
  replace RB:=bg RB hu
  replace HP:=hid (HP.out.upd hx hu (by omega))
  replace HU:=hid (HU.out.trans hu)
  replace HZW:=hid (Nat.le_trans HZW.out hu.size)
  clear hi hx hu
  have hleA:=HP.out.kle
  go_wp2_with fail
  refine (h.inner HP.out (by omega)).mono ?_
  rintro e w2 (⟨x1,k1,cs1,hr,hk1,hk2,rfl,hn,hx,hu⟩ | ⟨hr,rfl,hu⟩)
  rotate_left
  ·exact⟨rfl,.inr ⟨HR.out.trans (Pars.and_no hr),rfl,HU.out.trans hu⟩⟩
  have hlt1:=got_lt hr rfl
  replace HR:=hid (HR.out.trans (Pars.and_some hr))
  have HN1:Hid (NodeAt _ (fun g=>W0.heap.size≤g) x1 cs1):=hid (hn.weak (fun g hg=>by have:=HZW.out;omega))
  have hcs1:(Tryz.prog.info? 24).map (·.size)=some cs1.size:=by rw[NodeAt.size hn];exact info_nod
  have h41:(4:Nat)=cs1.size:=(NodeAt.size hn).symm
  have hone1:=NodeAt.one hn
  have HCS1:=hid hcs1
  have H41:=hid h41
  have HONE1:=hid hone1
  replace RB:=bg RB hu
  replace HP:=hid (HP.out.upd hx hu (by omega))
  replace HU:=hid (HU.out.trans hu)
  replace HZW:=hid (Nat.le_trans HZW.out hu.size)
  clear hr hn hx hu hcs1 h41 hone1
  have hleB:=HP.out.kle
  obtain⟨v1,hlit,hvo⟩:=NodeAt.lit HN1.out
  rw[hlit] at HN1 HCS1 H41 HONE1 ⊢
  have HVO1:=hid hvo
  clear hlit hvo
  go_wp2_with fail
  refine (h.body false HP.out (by omega)).mono ?_
  rintro e wx (⟨x2,k2,cs2,hr,hk1,hk2,rfl,hn,hx,hu⟩ | ⟨hr,rfl,hu⟩)
  rotate_left
  ·exact⟨rfl,.inr ⟨HR.out.trans (Pars.and_no hr),rfl,HU.out.trans hu⟩⟩
  have hlt2:=got_lt hr rfl
  replace HR:=hid (HR.out.trans (Pars.and_some hr))
  have HN2:Hid (NodeAt _ (fun g=>W0.heap.size≤g) x2 cs2):=hid (hn.weak (fun g hg=>by have:=HZW.out;omega))
  have hcs2:(Tryz.prog.info? 24).map (·.size)=some cs2.size:=by rw[NodeAt.size hn];exact info_nod
  have h42:(4:Nat)=cs2.size:=(NodeAt.size hn).symm
  have hone2:=NodeAt.one hn
  have HCS2:=hid hcs2
  have H42:=hid h42
  have HONE2:=hid hone2
  replace RB:=bg RB hu
  replace HN1:=hid (HN1.out.upd hu (fun g hg=>by first | omega | (simp only at hg;omega)))
  replace HP:=hid (HP.out.upd hx hu (by omega))
  replace HU:=hid (HU.out.trans hu)
  replace HZW:=hid (Nat.le_trans HZW.out hu.size)
  clear hr hn hx hu hcs2 h42 hone2
  have hleX:=HP.out.kle
  obtain⟨v2,hlit,hvo⟩:=NodeAt.lit HN2.out
  rw[hlit] at HN2 HCS2 H42 HONE2 ⊢
  have HVO2:=hid hvo
  clear hlit hvo
  have RBB:=RB.out.alloc (.cells #[.int .i64 x1.kind,.int .i64 x1.num,.string (byt x1.text),v1,.int .i64 x2.kind,.int .i64 x2.num,.string (byt x2.text),v2] 24)
  have hne0:=Nat.ne_of_lt RB.out.lt
  go_wp2_with (refine wpList_store_box rfl 24 (.tmp 2) (.tmp 42) rfl w.heap.size #[.int .i64 23,.int .i64 0,.string ⟨#[]⟩,.slice (some ⟨wx.heap.size,0,none⟩) 2 2] rfl rfl 24 _ RBB info_nod rfl (nz_one _ _ _ _ _ _) ?_;intro wz hxz huz hzz;have HZZ:=hid hzz;clear hzz)
  have bxB:=Box.new wx 24 #[.int .i64 x1.kind,.int .i64 x1.num,.string (byt x1.text),v1,.int .i64 x2.kind,.int .i64 x2.num,.string (byt x2.text),v2]
  have hb:Below wx.heap.size wx (wx.alloc (.cells #[.int .i64 x1.kind,.int .i64 x1.num,.string (byt x1.text),v1,.int .i64 x2.kind,.int .i64 x2.num,.string (byt x2.text),v2] 24)):=below1 wx _
  obtain⟨wb,hwb⟩:∃wb,(wx.alloc (.cells #[.int .i64 x1.kind,.int .i64 x1.num,.string (byt x1.text),v1,.int .i64 x2.kind,.int .i64 x2.num,.string (byt x2.text),v2] 24))=wb:=⟨_,rfl⟩
  rw[hwb] at bxB hb huz
  clear hwb RBB
  have hgB:W0.heap.size≤wx.heap.size:=HZW.out
  replace RB:=bl RB hb
  replace HN1:=hid (HN1.out.below hb)
  replace HN2:=hid (HN2.out.below hb)
  replace HP:=hid (HP.out.below hb)
  replace HU:=hid (HU.out.step hb)
  replace HZW:=hid (Nat.le_trans HZW.out hb.size)
  have HNN:Hid (NodeAt wb (fun g=>W0.heap.size≤g) (.mk 23 0 [] [x1,x2]) #[.int .i64 23,.int .i64 0,.string ⟨#[]⟩,.slice (some ⟨wx.heap.size,0,none⟩) 2 2]):=hid (NodeAt.build (css:=[#[.int .i64 x1.kind,.int .i64 x1.num,.string (byt x1.text),v1], #[.int .i64 x2.kind,.int .i64 x2.num,.string (byt x2.text),v2]]) 23 0 [] bxB hgB ⟨HN1.out,HN2.out,trivial⟩)
  clear bxB hb
  refine bodyPost_ret (results_box rfl _ _ w.heap.size 24 _ _ rfl hxz Tryz.underlying24 rfl info_nod) rfl ?_
  exact .inl ⟨(.mk 23 0 [] [x1,x2]),k2, #[.int .i64 23,.int .i64 0,.string ⟨#[]⟩,.slice (some ⟨wx.heap.size,0,none⟩) 2 2],HR.out,by omega,HP.out.kle,rfl,(HNN.out.upd huz (fun g hg=>by first | omega | (simp only at hg;omega))).weak (fun g hg=>by first | omega | (simp only at hg;omega)),Box.grown HP.out.box huz (by intro h;injection h with h;omega),Upd.fresh HU.out huz (Nat.le_refl _)⟩
 replace HR:=hid (HR.out.trans (Pars.alt_no hi))
 replace RB:=bg RB hu
 replace HP:=hid (HP.out.upd hx hu (by omega))
 replace HU:=hid (HU.out.trans hu)
 replace HZW:=hid (Nat.le_trans HZW.out hu.size)
 clear hi hx hu
 go_wp2_with fail
 refine (is_any Pars.wFor _ b ts A c (k) fn lp HP.out).mono ?_
 rintro e i5 (⟨hi,hk,rfl,hx,hu⟩ | ⟨hi,rfl,hx,hu⟩)
 ·replace HR:=hid (HR.out.trans (Pars.alt_some hi))
  replace RB:=bg RB hu
  replace HP:=hid (HP.out.upd hx hu (by omega))
  replace HU:=hid (HU.out.trans hu)
  replace HZW:=hid (Nat.le_trans HZW.out hu.size)
  clear hi hx hu
  have hleA:=HP.out.kle
  go_wp2_with fail
  refine (h.loops HP.out (by omega)).mono ?_
  rintro e wd (⟨x1,k1,cs1,hr,hk1,hk2,rfl,hn,hx,hu⟩ | ⟨hr,rfl,hu⟩)
  rotate_left
  ·exact⟨rfl,.inr ⟨HR.out.trans hr,rfl,HU.out.trans hu⟩⟩
  replace HR:=hid (HR.out.trans hr)
  have HN1:Hid (NodeAt _ (fun g=>W0.heap.size≤g) x1 cs1):=hid (hn.weak (fun g hg=>by have:=HZW.out;omega))
  have hcs1:(Tryz.prog.info? 24).map (·.size)=some cs1.size:=by rw[NodeAt.size hn];exact info_nod
  have h41:(4:Nat)=cs1.size:=(NodeAt.size hn).symm
  have hone1:=NodeAt.one hn
  have HCS1:=hid hcs1
  have H41:=hid h41
  have HONE1:=hid hone1
  replace RB:=bg RB hu
  replace HP:=hid (HP.out.upd hx hu (by omega))
  replace HU:=hid (HU.out.trans hu)
  replace HZW:=hid (Nat.le_trans HZW.out hu.size)
  clear hr hn hx hu hcs1 h41 hone1
  go_wp2_with (refine wpList_store_box rfl 24 (.tmp 2) (.tmp 47) rfl w.heap.size cs1 rfl rfl 24 _ RB.out HCS1.out H41.out HONE1.out ?_;intro wz hxz huz hzz;have HZZ:=hid hzz;clear hzz)
  refine bodyPost_ret (results_box rfl _ _ w.heap.size 24 _ _ rfl hxz Tryz.underlying24 rfl HCS1.out) rfl ?_
  exact .inl ⟨x1,k1,cs1,HR.out,by omega,HP.out.kle,rfl,(HN1.out.upd huz (fun g hg=>by first | omega | (simp only at hg;omega))).weak (fun g hg=>by first | omega | (simp only at hg;omega)),Box.grown HP.out.box huz (by intro h;injection h with h;omega),Upd.fresh HU.out huz (Nat.le_refl _)⟩
 replace HR:=hid (HR.out.trans (Pars.alt_no hi))
 replace RB:=bg RB hu
 replace HP:=hid (HP.out.upd hx hu (by omega))
 replace HU:=hid (HU.out.trans hu)
 replace HZW:=hid (Nat.le_trans HZW.out hu.size)
 clear hi hx hu
 go_wp2_with fail
 refine (is_any Pars.wReturn _ b ts A c (k) fn lp HP.out).mono ?_
 rintro e i6 (⟨hi,hk,rfl,hx,hu⟩ | ⟨hi,rfl,hx,hu⟩)
 ·replace HR:=hid (HR.out.trans (Pars.alt_some hi))
  replace RB:=bg RB hu
  replace HP:=hid (HP.out.upd hx hu (by omega))
  replace HU:=hid (HU.out.trans hu)
  replace HZW:=hid (Nat.le_trans HZW.out hu.size)
  clear hi hx hu
  have hleA:=HP.out.kle
  have cw:=HP.out.box.cell 2
  simp[pc] at cw
  cases fn with
  | false=>
   go_wp2_with fail
   refine (within_any _ _).mono ?_
   rintro e wi ⟨he,rfl⟩
   simp only[Bool.false_eq_true,if_false] at he
   subst he
   exact⟨rfl,.inr ⟨HR.out.trans (if_pos trivial),rfl,HU.out⟩⟩
  | true=>
   go_wp2_with fail
   refine (within_any _ _).mono ?_
   rintro e wi ⟨he,rfl⟩
   simp only[if_true] at he
   subst he
   replace HR:=hid (HR.out.trans (if_neg (by simp)))
   clear cw
   go_wp2_with fail
   refine (is_any [59] _ b ts A c (k+1) true lp HP.out).mono ?_
   rintro e w3 (⟨hi,hk,rfl,hx,hu⟩ | ⟨hi,rfl,hx,hu⟩)
   ·replace HR:=hid (HR.out.trans (Pars.alt_some hi))
    replace RB:=bg RB hu
    replace HP:=hid (HP.out.upd hx hu (by omega))
    replace HU:=hid (HU.out.trans hu)
    replace HZW:=hid (Nat.le_trans HZW.out hu.size)
    clear hi hx hu
    have hleY:=HP.out.kle
    have HNN:Hid (NodeAt w3 (fun g=>W0.heap.size≤g) (.mk 25 0 [] []) #[.int .i64 25,.int .i64 0,.string ⟨#[]⟩,.slice none 0 0]):=hid (NodeAt.leaf w3 _ 25 0 [])
    go_wp2_with (refine wpList_store_box rfl 24 (.tmp 2) (.tmp 58) rfl w.heap.size #[.int .i64 25,.int .i64 0,.string ⟨#[]⟩,.slice none 0 0] rfl rfl 24 _ RB.out info_nod rfl (nz_one _ _ _ _ _ _) ?_;intro wz hxz huz hzz;have HZZ:=hid hzz;clear hzz)
    refine bodyPost_ret (results_box rfl _ _ w.heap.size 24 _ _ rfl hxz Tryz.underlying24 rfl info_nod) rfl ?_
    exact .inl ⟨(.mk 25 0 [] []),k+1+1, #[.int .i64 25,.int .i64 0,.string ⟨#[]⟩,.slice none 0 0],HR.out,by omega,HP.out.kle,rfl,(HNN.out.upd huz (fun g hg=>by first | omega | (simp only at hg;omega))).weak (fun g hg=>by first | omega | (simp only at hg;omega)),Box.grown HP.out.box huz (by intro h;injection h with h;omega),Upd.fresh HU.out huz (Nat.le_refl _)⟩
   replace HR:=hid (HR.out.trans (Pars.alt_no hi))
   replace RB:=bg RB hu
   replace HP:=hid (HP.out.upd hx hu (by omega))
   replace HU:=hid (HU.out.trans hu)
   replace HZW:=hid (Nat.le_trans HZW.out hu.size)
   clear hi hx hu
   go_wp2_with fail
   refine (h.expr HP.out (by omega)).mono ?_
   rintro e wx (⟨x1,k1,cs1,hr,hk1,hk2,rfl,hn,hx,hu⟩ | ⟨hr,rfl,hu⟩)
   rotate_left
   ·exact⟨rfl,.inr ⟨HR.out.trans (Pars.and_no hr),rfl,HU.out.trans hu⟩⟩
   have hlt1:=got_lt hr rfl
   replace HR:=hid (HR.out.trans (Pars.and_some hr))
   have HN1:Hid (NodeAt _ (fun g=>W0.heap.size≤g) x1 cs1):=hid (hn.weak (fun g hg=>by have:=HZW.out;omega))
   have hcs1:(Tryz.prog.info? 24).map (·.size)=some cs1.size:=by rw[NodeAt.size hn];exact info_nod
   have h41:(4:Nat)=cs1.size:=(NodeAt.size hn).symm
   have hone1:=NodeAt.one hn
   have HCS1:=hid hcs1
   have H41:=hid h41
   have HONE1:=hid hone1
   replace RB:=bg RB hu
   replace HP:=hid (HP.out.upd hx hu (by omega))
   replace HU:=hid (HU.out.trans hu)
   replace HZW:=hid (Nat.le_trans HZW.out hu.size)
   clear hr hn hx hu hcs1 h41 hone1
   have hleX:=HP.out.kle
   obtain⟨v1,hlit,hvo⟩:=NodeAt.lit HN1.out
   rw[hlit] at HN1 HCS1 H41 HONE1 ⊢
   have HVO1:=hid hvo
   clear hlit hvo
   go_wp2_with fail
   have bxB:=Box.new wx 24 #[.int .i64 x1.kind,.int .i64 x1.num,.string (byt x1.text),v1]
   have hb:Below wx.heap.size wx (wx.alloc (.cells #[.int .i64 x1.kind,.int .i64 x1.num,.string (byt x1.text),v1] 24)):=below1 wx _
   obtain⟨wb,hwb⟩:∃wb,(wx.alloc (.cells #[.int .i64 x1.kind,.int .i64 x1.num,.string (byt x1.text),v1] 24))=wb:=⟨_,rfl⟩
   rw[hwb] at bxB hb
   rw[hwb]
   clear hwb
   have hgB:W0.heap.size≤wx.heap.size:=HZW.out
   replace RB:=bl RB hb
   replace HN1:=hid (HN1.out.below hb)
   replace HP:=hid (HP.out.below hb)
   replace HU:=hid (HU.out.step hb)
   replace HZW:=hid (Nat.le_trans HZW.out hb.size)
   have HNN:Hid (NodeAt wb (fun g=>W0.heap.size≤g) (.mk 25 0 [] [x1]) #[.int .i64 25,.int .i64 0,.string ⟨#[]⟩,.slice (some ⟨wx.heap.size,0,none⟩) 1 1]):=hid (NodeAt.build (css:=[#[.int .i64 x1.kind,.int .i64 x1.num,.string (byt x1.text),v1]]) 25 0 [] bxB hgB ⟨HN1.out,trivial⟩)
   clear bxB hb
   refine (ended_any _ b ts A c (k1) true lp #[.int .i64 25,.int .i64 0,.string ⟨#[]⟩,.slice (some ⟨wx.heap.size,0,none⟩) 1 1] HP.out rfl (nz_one _ _ _ _ _ _)).mono ?_
   rintro e we (⟨hi,hk,rfl,hx,hu⟩ | ⟨hi,rfl,hu⟩)
   rotate_left
   ·exact⟨rfl,.inr ⟨HR.out.trans (Pars.must_no hi),rfl,HU.out.trans hu⟩⟩
   replace HR:=hid (HR.out.trans (Pars.must_some hi))
   replace RB:=bg RB hu
   replace HNN:=hid (HNN.out.upd hu (fun g hg=>by first | omega | (simp only at hg;omega)))
   replace HP:=hid (HP.out.upd hx hu (by omega))
   replace HU:=hid (HU.out.trans hu)
   replace HZW:=hid (Nat.le_trans HZW.out hu.size)
   clear hi hx hu
   have hleE:=HP.out.kle
   go_wp2_with (refine wpList_store_box rfl 24 (.tmp 2) (.tmp 64) rfl w.heap.size #[.int .i64 25,.int .i64 0,.string ⟨#[]⟩,.slice (some ⟨wx.heap.size,0,none⟩) 1 1] rfl rfl 24 _ RB.out info_nod rfl (nz_one _ _ _ _ _ _) ?_;intro wz hxz huz hzz;have HZZ:=hid hzz;clear hzz)
   refine bodyPost_ret (results_box rfl _ _ w.heap.size 24 _ _ rfl hxz Tryz.underlying24 rfl info_nod) rfl ?_
   exact .inl ⟨(.mk 25 0 [] [x1]),k1+1, #[.int .i64 25,.int .i64 0,.string ⟨#[]⟩,.slice (some ⟨wx.heap.size,0,none⟩) 1 1],HR.out,by omega,HP.out.kle,rfl,(HNN.out.upd huz (fun g hg=>by first | omega | (simp only at hg;omega))).weak (fun g hg=>by first | omega | (simp only at hg;omega)),Box.grown HP.out.box huz (by intro h;injection h with h;omega),Upd.fresh HU.out huz (Nat.le_refl _)⟩
 replace HR:=hid (HR.out.trans (Pars.alt_no hi))
 replace RB:=bg RB hu
 replace HP:=hid (HP.out.upd hx hu (by omega))
 replace HU:=hid (HU.out.trans hu)
 replace HZW:=hid (Nat.le_trans HZW.out hu.size)
 clear hi hx hu
 go_wp2_with fail
 refine (is_any Pars.wBreak _ b ts A c (k) fn lp HP.out).mono ?_
 rintro e i7 (⟨hi,hk,rfl,hx,hu⟩ | ⟨hi,rfl,hx,hu⟩)
 ·replace HR:=hid (HR.out.trans (Pars.alt_some hi))
  replace RB:=bg RB hu
  replace HP:=hid (HP.out.upd hx hu (by omega))
  replace HU:=hid (HU.out.trans hu)
  replace HZW:=hid (Nat.le_trans HZW.out hu.size)
  clear hi hx hu
  have hleA:=HP.out.kle
  have cw:=HP.out.box.cell 3
  simp[pc] at cw
  cases lp with
  | false=>
   go_wp2_with fail
   refine (within_any _ _).mono ?_
   rintro e wi ⟨he,rfl⟩
   simp only[Bool.false_eq_true,if_false] at he
   subst he
   exact⟨rfl,.inr ⟨HR.out.trans (if_pos trivial),rfl,HU.out⟩⟩
  | true=>
   go_wp2_with fail
   refine (within_any _ _).mono ?_
   rintro e wi ⟨he,rfl⟩
   simp only[if_true] at he
   subst he
   replace HR:=hid (HR.out.trans (if_neg (by simp)))
   clear cw
   go_wp2_with fail
   have HNN:Hid (NodeAt wi (fun g=>W0.heap.size≤g) (.mk 26 0 [] []) #[.int .i64 26,.int .i64 0,.string ⟨#[]⟩,.slice none 0 0]):=hid (NodeAt.leaf wi _ 26 0 [])
   refine (ended_any _ b ts A c (k+1) fn true #[.int .i64 26,.int .i64 0,.string ⟨#[]⟩,.slice none 0 0] HP.out rfl (nz_one _ _ _ _ _ _)).mono ?_
   rintro e we (⟨hi,hk,rfl,hx,hu⟩ | ⟨hi,rfl,hu⟩)
   rotate_left
   ·exact⟨rfl,.inr ⟨HR.out.trans (Pars.must_no hi),rfl,HU.out.trans hu⟩⟩
   replace HR:=hid (HR.out.trans (Pars.must_some hi))
   replace RB:=bg RB hu
   replace HNN:=hid (HNN.out.upd hu (fun g hg=>by first | omega | (simp only at hg;omega)))
   replace HP:=hid (HP.out.upd hx hu (by omega))
   replace HU:=hid (HU.out.trans hu)
   replace HZW:=hid (Nat.le_trans HZW.out hu.size)
   clear hi hx hu
   have hleE:=HP.out.kle
   go_wp2_with (refine wpList_store_box rfl 24 (.tmp 2) (.tmp 75) rfl w.heap.size #[.int .i64 26,.int .i64 0,.string ⟨#[]⟩,.slice none 0 0] rfl rfl 24 _ RB.out info_nod rfl (nz_one _ _ _ _ _ _) ?_;intro wz hxz huz hzz;have HZZ:=hid hzz;clear hzz)
   refine bodyPost_ret (results_box rfl _ _ w.heap.size 24 _ _ rfl hxz Tryz.underlying24 rfl info_nod) rfl ?_
   exact .inl ⟨(.mk 26 0 [] []),k+1+1, #[.int .i64 26,.int .i64 0,.string ⟨#[]⟩,.slice none 0 0],HR.out,by omega,HP.out.kle,rfl,(HNN.out.upd huz (fun g hg=>by first | omega | (simp only at hg;omega))).weak (fun g hg=>by first | omega | (simp only at hg;omega)),Box.grown HP.out.box huz (by intro h;injection h with h;omega),Upd.fresh HU.out huz (Nat.le_refl _)⟩
 replace HR:=hid (HR.out.trans (Pars.alt_no hi))
 replace RB:=bg RB hu
 replace HP:=hid (HP.out.upd hx hu (by omega))
 replace HU:=hid (HU.out.trans hu)
 replace HZW:=hid (Nat.le_trans HZW.out hu.size)
 clear hi hx hu
 go_wp2_with fail
 refine (is_any Pars.wContinue _ b ts A c (k) fn lp HP.out).mono ?_
 rintro e i8 (⟨hi,hk,rfl,hx,hu⟩ | ⟨hi,rfl,hx,hu⟩)
 ·replace HR:=hid (HR.out.trans (Pars.alt_some hi))
  replace RB:=bg RB hu
  replace HP:=hid (HP.out.upd hx hu (by omega))
  replace HU:=hid (HU.out.trans hu)
  replace HZW:=hid (Nat.le_trans HZW.out hu.size)
  clear hi hx hu
  have hleA:=HP.out.kle
  have cw:=HP.out.box.cell 3
  simp[pc] at cw
  cases lp with
  | false=>
   go_wp2_with fail
   refine (within_any _ _).mono ?_
   rintro e wi ⟨he,rfl⟩
   simp only[Bool.false_eq_true,if_false] at he
   subst he
   exact⟨rfl,.inr ⟨HR.out.trans (if_pos trivial),rfl,HU.out⟩⟩
  | true=>
   go_wp2_with fail
   refine (within_any _ _).mono ?_
   rintro e wi ⟨he,rfl⟩
   simp only[if_true] at he
   subst he
   replace HR:=hid (HR.out.trans (if_neg (by simp)))
   clear cw
   go_wp2_with fail
   have HNN:Hid (NodeAt wi (fun g=>W0.heap.size≤g) (.mk 27 0 [] []) #[.int .i64 27,.int .i64 0,.string ⟨#[]⟩,.slice none 0 0]):=hid (NodeAt.leaf wi _ 27 0 [])
   refine (ended_any _ b ts A c (k+1) fn true #[.int .i64 27,.int .i64 0,.string ⟨#[]⟩,.slice none 0 0] HP.out rfl (nz_one _ _ _ _ _ _)).mono ?_
   rintro e we (⟨hi,hk,rfl,hx,hu⟩ | ⟨hi,rfl,hu⟩)
   rotate_left
   ·exact⟨rfl,.inr ⟨HR.out.trans (Pars.must_no hi),rfl,HU.out.trans hu⟩⟩
   replace HR:=hid (HR.out.trans (Pars.must_some hi))
   replace RB:=bg RB hu
   replace HNN:=hid (HNN.out.upd hu (fun g hg=>by first | omega | (simp only at hg;omega)))
   replace HP:=hid (HP.out.upd hx hu (by omega))
   replace HU:=hid (HU.out.trans hu)
   replace HZW:=hid (Nat.le_trans HZW.out hu.size)
   clear hi hx hu
   have hleE:=HP.out.kle
   go_wp2_with (refine wpList_store_box rfl 24 (.tmp 2) (.tmp 86) rfl w.heap.size #[.int .i64 27,.int .i64 0,.string ⟨#[]⟩,.slice none 0 0] rfl rfl 24 _ RB.out info_nod rfl (nz_one _ _ _ _ _ _) ?_;intro wz hxz huz hzz;have HZZ:=hid hzz;clear hzz)
   refine bodyPost_ret (results_box rfl _ _ w.heap.size 24 _ _ rfl hxz Tryz.underlying24 rfl info_nod) rfl ?_
   exact .inl ⟨(.mk 27 0 [] []),k+1+1, #[.int .i64 27,.int .i64 0,.string ⟨#[]⟩,.slice none 0 0],HR.out,by omega,HP.out.kle,rfl,(HNN.out.upd huz (fun g hg=>by first | omega | (simp only at hg;omega))).weak (fun g hg=>by first | omega | (simp only at hg;omega)),Box.grown HP.out.box huz (by intro h;injection h with h;omega),Upd.fresh HU.out huz (Nat.le_refl _)⟩
 replace HR:=hid (HR.out.trans (Pars.alt_no hi))
 replace RB:=bg RB hu
 replace HP:=hid (HP.out.upd hx hu (by omega))
 replace HU:=hid (HU.out.trans hu)
 replace HZW:=hid (Nat.le_trans HZW.out hu.size)
 clear hi hx hu
 go_wp2_with fail
 refine (is_any Pars.wThrow _ b ts A c (k) fn lp HP.out).mono ?_
 rintro e i9 (⟨hi,hk,rfl,hx,hu⟩ | ⟨hi,rfl,hx,hu⟩)
 ·replace HR:=hid (HR.out.trans (Pars.alt_some hi))
  replace RB:=bg RB hu
  replace HP:=hid (HP.out.upd hx hu (by omega))
  replace HU:=hid (HU.out.trans hu)
  replace HZW:=hid (Nat.le_trans HZW.out hu.size)
  clear hi hx hu
  have hleA:=HP.out.kle
  go_wp2_with fail
  refine (h.expr HP.out (by omega)).mono ?_
  rintro e wx (⟨x1,k1,cs1,hr,hk1,hk2,rfl,hn,hx,hu⟩ | ⟨hr,rfl,hu⟩)
  rotate_left
  ·exact⟨rfl,.inr ⟨HR.out.trans (Pars.and_no hr),rfl,HU.out.trans hu⟩⟩
  have hlt1:=got_lt hr rfl
  replace HR:=hid (HR.out.trans (Pars.and_some hr))
  have HN1:Hid (NodeAt _ (fun g=>W0.heap.size≤g) x1 cs1):=hid (hn.weak (fun g hg=>by have:=HZW.out;omega))
  have hcs1:(Tryz.prog.info? 24).map (·.size)=some cs1.size:=by rw[NodeAt.size hn];exact info_nod
  have h41:(4:Nat)=cs1.size:=(NodeAt.size hn).symm
  have hone1:=NodeAt.one hn
  have HCS1:=hid hcs1
  have H41:=hid h41
  have HONE1:=hid hone1
  replace RB:=bg RB hu
  replace HP:=hid (HP.out.upd hx hu (by omega))
  replace HU:=hid (HU.out.trans hu)
  replace HZW:=hid (Nat.le_trans HZW.out hu.size)
  clear hr hn hx hu hcs1 h41 hone1
  have hleX:=HP.out.kle
  obtain⟨v1,hlit,hvo⟩:=NodeAt.lit HN1.out
  rw[hlit] at HN1 HCS1 H41 HONE1 ⊢
  have HVO1:=hid hvo
  clear hlit hvo
  go_wp2_with fail
  have bxB:=Box.new wx 24 #[.int .i64 x1.kind,.int .i64 x1.num,.string (byt x1.text),v1]
  have hb:Below wx.heap.size wx (wx.alloc (.cells #[.int .i64 x1.kind,.int .i64 x1.num,.string (byt x1.text),v1] 24)):=below1 wx _
  obtain⟨wb,hwb⟩:∃wb,(wx.alloc (.cells #[.int .i64 x1.kind,.int .i64 x1.num,.string (byt x1.text),v1] 24))=wb:=⟨_,rfl⟩
  rw[hwb] at bxB hb
  rw[hwb]
  clear hwb
  have hgB:W0.heap.size≤wx.heap.size:=HZW.out
  replace RB:=bl RB hb
  replace HN1:=hid (HN1.out.below hb)
  replace HP:=hid (HP.out.below hb)
  replace HU:=hid (HU.out.step hb)
  replace HZW:=hid (Nat.le_trans HZW.out hb.size)
  have HNN:Hid (NodeAt wb (fun g=>W0.heap.size≤g) (.mk 28 0 [] [x1]) #[.int .i64 28,.int .i64 0,.string ⟨#[]⟩,.slice (some ⟨wx.heap.size,0,none⟩) 1 1]):=hid (NodeAt.build (css:=[#[.int .i64 x1.kind,.int .i64 x1.num,.string (byt x1.text),v1]]) 28 0 [] bxB hgB ⟨HN1.out,trivial⟩)
  clear bxB hb
  refine (ended_any _ b ts A c (k1) fn lp #[.int .i64 28,.int .i64 0,.string ⟨#[]⟩,.slice (some ⟨wx.heap.size,0,none⟩) 1 1] HP.out rfl (nz_one _ _ _ _ _ _)).mono ?_
  rintro e we (⟨hi,hk,rfl,hx,hu⟩ | ⟨hi,rfl,hu⟩)
  rotate_left
  ·exact⟨rfl,.inr ⟨HR.out.trans (Pars.must_no hi),rfl,HU.out.trans hu⟩⟩
  replace HR:=hid (HR.out.trans (Pars.must_some hi))
  replace RB:=bg RB hu
  replace HNN:=hid (HNN.out.upd hu (fun g hg=>by first | omega | (simp only at hg;omega)))
  replace HP:=hid (HP.out.upd hx hu (by omega))
  replace HU:=hid (HU.out.trans hu)
  replace HZW:=hid (Nat.le_trans HZW.out hu.size)
  clear hi hx hu
  have hleE:=HP.out.kle
  go_wp2_with (refine wpList_store_box rfl 24 (.tmp 2) (.tmp 95) rfl w.heap.size #[.int .i64 28,.int .i64 0,.string ⟨#[]⟩,.slice (some ⟨wx.heap.size,0,none⟩) 1 1] rfl rfl 24 _ RB.out info_nod rfl (nz_one _ _ _ _ _ _) ?_;intro wz hxz huz hzz;have HZZ:=hid hzz;clear hzz)
  refine bodyPost_ret (results_box rfl _ _ w.heap.size 24 _ _ rfl hxz Tryz.underlying24 rfl info_nod) rfl ?_
  exact .inl ⟨(.mk 28 0 [] [x1]),k1+1, #[.int .i64 28,.int .i64 0,.string ⟨#[]⟩,.slice (some ⟨wx.heap.size,0,none⟩) 1 1],HR.out,by omega,HP.out.kle,rfl,(HNN.out.upd huz (fun g hg=>by first | omega | (simp only at hg;omega))).weak (fun g hg=>by first | omega | (simp only at hg;omega)),Box.grown HP.out.box huz (by intro h;injection h with h;omega),Upd.fresh HU.out huz (Nat.le_refl _)⟩
 replace HR:=hid (HR.out.trans (Pars.alt_no hi))
 replace RB:=bg RB hu
 replace HP:=hid (HP.out.upd hx hu (by omega))
 replace HU:=hid (HU.out.trans hu)
 replace HZW:=hid (Nat.le_trans HZW.out hu.size)
 clear hi hx hu
 go_wp2_with fail
 refine (is_any Pars.wTry _ b ts A c (k) fn lp HP.out).mono ?_
 rintro e i10 (⟨hi,hk,rfl,hx,hu⟩ | ⟨hi,rfl,hx,hu⟩)
 ·replace HR:=hid (HR.out.trans (Pars.alt_some hi))
  replace RB:=bg RB hu
  replace HP:=hid (HP.out.upd hx hu (by omega))
  replace HU:=hid (HU.out.trans hu)
  replace HZW:=hid (Nat.le_trans HZW.out hu.size)
  clear hi hx hu
  have hleA:=HP.out.kle
  go_wp2_with fail
  refine (h.tries HP.out (by omega)).mono ?_
  rintro e wd (⟨x1,k1,cs1,hr,hk1,hk2,rfl,hn,hx,hu⟩ | ⟨hr,rfl,hu⟩)
  rotate_left
  ·exact⟨rfl,.inr ⟨HR.out.trans hr,rfl,HU.out.trans hu⟩⟩
  replace HR:=hid (HR.out.trans hr)
  have HN1:Hid (NodeAt _ (fun g=>W0.heap.size≤g) x1 cs1):=hid (hn.weak (fun g hg=>by have:=HZW.out;omega))
  have hcs1:(Tryz.prog.info? 24).map (·.size)=some cs1.size:=by rw[NodeAt.size hn];exact info_nod
  have h41:(4:Nat)=cs1.size:=(NodeAt.size hn).symm
  have hone1:=NodeAt.one hn
  have HCS1:=hid hcs1
  have H41:=hid h41
  have HONE1:=hid hone1
  replace RB:=bg RB hu
  replace HP:=hid (HP.out.upd hx hu (by omega))
  replace HU:=hid (HU.out.trans hu)
  replace HZW:=hid (Nat.le_trans HZW.out hu.size)
  clear hr hn hx hu hcs1 h41 hone1
  go_wp2_with (refine wpList_store_box rfl 24 (.tmp 2) (.tmp 100) rfl w.heap.size cs1 rfl rfl 24 _ RB.out HCS1.out H41.out HONE1.out ?_;intro wz hxz huz hzz;have HZZ:=hid hzz;clear hzz)
  refine bodyPost_ret (results_box rfl _ _ w.heap.size 24 _ _ rfl hxz Tryz.underlying24 rfl HCS1.out) rfl ?_
  exact .inl ⟨x1,k1,cs1,HR.out,by omega,HP.out.kle,rfl,(HN1.out.upd huz (fun g hg=>by first | omega | (simp only at hg;omega))).weak (fun g hg=>by first | omega | (simp only at hg;omega)),Box.grown HP.out.box huz (by intro h;injection h with h;omega),Upd.fresh HU.out huz (Nat.le_refl _)⟩
 replace HR:=hid (HR.out.trans (Pars.alt_no hi))
 replace RB:=bg RB hu
 replace HP:=hid (HP.out.upd hx hu (by omega))
 replace HU:=hid (HU.out.trans hu)
 replace HZW:=hid (Nat.le_trans HZW.out hu.size)
 clear hi hx hu
 go_wp2_with fail
 refine (peek_any _ b ts A c k fn lp HP.out).mono ?_
 rintro e wp ⟨rfl,hb⟩
 obtain⟨tcs,KD,TX,HPK,hq0,hq3,hq5,hqo,hqs⟩:=peek_cells ts k
 rw[hqs]
 clear hqs
 have HPK:=hid HPK
 have HT5:=hid hq5
 have HTO:=hid hqo
 have HTS:Hid ((Tryz.prog.info? 58).map (·.size)=some tcs.size):=hid (by rw[←hq5];exact info_tok)
 clear hq5 hqo
 replace RB:=bl RB hb
 replace HP:=hid (HP.out.below hb)
 replace HU:=hid (HU.out.step hb)
 replace HZW:=hid (Nat.le_trans HZW.out hb.size)
 clear hb
 go_upto_region 30 with (refine wpList_store_box rfl 58 (.tmp 4) (.tmp 102) rfl wp.heap.size tcs rfl rfl 58 _ (Box.new wp _ _) HTS.out HT5.out HTO.out ?_;intro wq hxq huq hzq;have HZQ:=hid hzq;clear hzq)
 have hb:Below wp.heap.size wp wq:=((Below.refl _ wp).alloc (Nat.le_refl _) _).trans (huq.own (Nat.le_refl _) (by simp))
 have p0:=(hxq.cell 0).trans hq0
 have p3:=(hxq.cell 3).trans hq3
 clear hq0 hq3
 replace RB:=bl RB hb
 replace HP:=hid (HP.out.below hb)
 replace HU:=hid (HU.out.step hb)
 replace HZW:=hid (Nat.le_trans HZW.out hb.size)
 clear hb hxq huq
 by_cases y4:KD=4
 ·subst y4
  by_cases yt:TX=⟨#[123]⟩
  ·subst yt
   replace HR:=hid (HR.out.trans (HPK.out _ _ |>.trans (if_pos ⟨rfl,rfl⟩)))
   obtain⟨q1,q2⟩:=same_yes ⟨#[123]⟩
   go_wp2_with fail
   refine (h.block HP.out (by omega)).mono ?_
   rintro e wd (⟨x1,k1,cs1,hr,hk1,hk2,rfl,hn,hx,hu⟩ | ⟨hr,rfl,hu⟩)
   rotate_left
   ·exact⟨rfl,.inr ⟨HR.out.trans hr,rfl,HU.out.trans hu⟩⟩
   replace HR:=hid (HR.out.trans hr)
   have HN1:Hid (NodeAt _ (fun g=>W0.heap.size≤g) x1 cs1):=hid (hn.weak (fun g hg=>by have:=HZW.out;omega))
   have hcs1:(Tryz.prog.info? 24).map (·.size)=some cs1.size:=by rw[NodeAt.size hn];exact info_nod
   have h41:(4:Nat)=cs1.size:=(NodeAt.size hn).symm
   have hone1:=NodeAt.one hn
   have HCS1:=hid hcs1
   have H41:=hid h41
   have HONE1:=hid hone1
   replace RB:=bg RB hu
   replace HP:=hid (HP.out.upd hx hu (by omega))
   replace HU:=hid (HU.out.trans hu)
   replace HZW:=hid (Nat.le_trans HZW.out hu.size)
   clear hr hn hx hu hcs1 h41 hone1
   go_wp2_with (refine wpList_store_box rfl 24 (.tmp 2) (.tmp 112) rfl w.heap.size cs1 rfl rfl 24 _ RB.out HCS1.out H41.out HONE1.out ?_;intro wz hxz huz hzz;have HZZ:=hid hzz;clear hzz)
   refine bodyPost_ret (results_box rfl _ _ w.heap.size 24 _ _ rfl hxz Tryz.underlying24 rfl HCS1.out) rfl ?_
   exact .inl ⟨x1,k1,cs1,HR.out,by omega,HP.out.kle,rfl,(HN1.out.upd huz (fun g hg=>by first | omega | (simp only at hg;omega))).weak (fun g hg=>by first | omega | (simp only at hg;omega)),Box.grown HP.out.box huz (by intro h;injection h with h;omega),Upd.fresh HU.out huz (Nat.le_refl _)⟩
  replace HR:=hid (HR.out.trans (HPK.out _ _ |>.trans (if_neg (fun h=>yt h.2))))
  obtain⟨q1,q2,q3⟩:=same_no yt
  have q4:=of_decide_eq_false q2
  have q5:(TX.toList==[123])=false:=by
   have e:(⟨#[123]⟩:ByteArray).toList=[123]:=by simp[ByteArray.toList_eq]
   rw[e] at q1
   exact q1
  clear yt
  go_wp2_with fail
  refine (h.expr HP.out (by omega)).mono ?_
  rintro e wx (⟨x1,k1,cs1,hr,hk1,hk2,rfl,hn,hx,hu⟩ | ⟨hr,rfl,hu⟩)
  rotate_left
  ·exact⟨rfl,.inr ⟨HR.out.trans (Pars.and_no hr),rfl,HU.out.trans hu⟩⟩
  have hlt1:=got_lt hr rfl
  replace HR:=hid (HR.out.trans (Pars.and_some hr))
  have HN1:Hid (NodeAt _ (fun g=>W0.heap.size≤g) x1 cs1):=hid (hn.weak (fun g hg=>by have:=HZW.out;omega))
  have hcs1:(Tryz.prog.info? 24).map (·.size)=some cs1.size:=by rw[NodeAt.size hn];exact info_nod
  have h41:(4:Nat)=cs1.size:=(NodeAt.size hn).symm
  have hone1:=NodeAt.one hn
  have HCS1:=hid hcs1
  have H41:=hid h41
  have HONE1:=hid hone1
  replace RB:=bg RB hu
  replace HP:=hid (HP.out.upd hx hu (by omega))
  replace HU:=hid (HU.out.trans hu)
  replace HZW:=hid (Nat.le_trans HZW.out hu.size)
  clear hr hn hx hu hcs1 h41 hone1
  have hleX:=HP.out.kle
  obtain⟨v1,hlit,hvo⟩:=NodeAt.lit HN1.out
  rw[hlit] at HN1 HCS1 H41 HONE1 ⊢
  have HVO1:=hid hvo
  clear hlit hvo
  go_wp2_with fail
  have bxB:=Box.new wx 24 #[.int .i64 x1.kind,.int .i64 x1.num,.string (byt x1.text),v1]
  have hb:Below wx.heap.size wx (wx.alloc (.cells #[.int .i64 x1.kind,.int .i64 x1.num,.string (byt x1.text),v1] 24)):=below1 wx _
  obtain⟨wb,hwb⟩:∃wb,(wx.alloc (.cells #[.int .i64 x1.kind,.int .i64 x1.num,.string (byt x1.text),v1] 24))=wb:=⟨_,rfl⟩
  rw[hwb] at bxB hb
  rw[hwb]
  clear hwb
  have hgB:W0.heap.size≤wx.heap.size:=HZW.out
  replace RB:=bl RB hb
  replace HN1:=hid (HN1.out.below hb)
  replace HP:=hid (HP.out.below hb)
  replace HU:=hid (HU.out.step hb)
  replace HZW:=hid (Nat.le_trans HZW.out hb.size)
  have HNN:Hid (NodeAt wb (fun g=>W0.heap.size≤g) (.mk 31 0 [] [x1]) #[.int .i64 31,.int .i64 0,.string ⟨#[]⟩,.slice (some ⟨wx.heap.size,0,none⟩) 1 1]):=hid (NodeAt.build (css:=[#[.int .i64 x1.kind,.int .i64 x1.num,.string (byt x1.text),v1]]) 31 0 [] bxB hgB ⟨HN1.out,trivial⟩)
  clear bxB hb
  refine (ended_any _ b ts A c (k1) fn lp #[.int .i64 31,.int .i64 0,.string ⟨#[]⟩,.slice (some ⟨wx.heap.size,0,none⟩) 1 1] HP.out rfl (nz_one _ _ _ _ _ _)).mono ?_
  rintro e we (⟨hi,hk,rfl,hx,hu⟩ | ⟨hi,rfl,hu⟩)
  rotate_left
  ·exact⟨rfl,.inr ⟨HR.out.trans (Pars.must_no hi),rfl,HU.out.trans hu⟩⟩
  replace HR:=hid (HR.out.trans (Pars.must_some hi))
  replace RB:=bg RB hu
  replace HNN:=hid (HNN.out.upd hu (fun g hg=>by first | omega | (simp only at hg;omega)))
  replace HP:=hid (HP.out.upd hx hu (by omega))
  replace HU:=hid (HU.out.trans hu)
  replace HZW:=hid (Nat.le_trans HZW.out hu.size)
  clear hi hx hu
  have hleE:=HP.out.kle
  go_wp2_with (refine wpList_store_box rfl 24 (.tmp 2) (.tmp 118) rfl w.heap.size #[.int .i64 31,.int .i64 0,.string ⟨#[]⟩,.slice (some ⟨wx.heap.size,0,none⟩) 1 1] rfl rfl 24 _ RB.out info_nod rfl (nz_one _ _ _ _ _ _) ?_;intro wz hxz huz hzz;have HZZ:=hid hzz;clear hzz)
  refine bodyPost_ret (results_box rfl _ _ w.heap.size 24 _ _ rfl hxz Tryz.underlying24 rfl info_nod) rfl ?_
  exact .inl ⟨(.mk 31 0 [] [x1]),k1+1, #[.int .i64 31,.int .i64 0,.string ⟨#[]⟩,.slice (some ⟨wx.heap.size,0,none⟩) 1 1],HR.out,by omega,HP.out.kle,rfl,(HNN.out.upd huz (fun g hg=>by first | omega | (simp only at hg;omega))).weak (fun g hg=>by first | omega | (simp only at hg;omega)),Box.grown HP.out.box huz (by intro h;injection h with h;omega),Upd.fresh HU.out huz (Nat.le_refl _)⟩
 replace HR:=hid (HR.out.trans (HPK.out _ _ |>.trans (if_neg (fun h=>y4 h.1))))
 have n4:((KD:Int)==4)=false:=by rw[beq_eq_false_iff_ne];omega
 clear y4
 go_wp2_with fail
 refine (h.expr HP.out (by omega)).mono ?_
 rintro e wx (⟨x1,k1,cs1,hr,hk1,hk2,rfl,hn,hx,hu⟩ | ⟨hr,rfl,hu⟩)
 rotate_left
 ·exact⟨rfl,.inr ⟨HR.out.trans (Pars.and_no hr),rfl,HU.out.trans hu⟩⟩
 have hlt1:=got_lt hr rfl
 replace HR:=hid (HR.out.trans (Pars.and_some hr))
 have HN1:Hid (NodeAt _ (fun g=>W0.heap.size≤g) x1 cs1):=hid (hn.weak (fun g hg=>by have:=HZW.out;omega))
 have hcs1:(Tryz.prog.info? 24).map (·.size)=some cs1.size:=by rw[NodeAt.size hn];exact info_nod
 have h41:(4:Nat)=cs1.size:=(NodeAt.size hn).symm
 have hone1:=NodeAt.one hn
 have HCS1:=hid hcs1
 have H41:=hid h41
 have HONE1:=hid hone1
 replace RB:=bg RB hu
 replace HP:=hid (HP.out.upd hx hu (by omega))
 replace HU:=hid (HU.out.trans hu)
 replace HZW:=hid (Nat.le_trans HZW.out hu.size)
 clear hr hn hx hu hcs1 h41 hone1
 have hleX:=HP.out.kle
 obtain⟨v1,hlit,hvo⟩:=NodeAt.lit HN1.out
 rw[hlit] at HN1 HCS1 H41 HONE1 ⊢
 have HVO1:=hid hvo
 clear hlit hvo
 go_wp2_with fail
 have bxB:=Box.new wx 24 #[.int .i64 x1.kind,.int .i64 x1.num,.string (byt x1.text),v1]
 have hb:Below wx.heap.size wx (wx.alloc (.cells #[.int .i64 x1.kind,.int .i64 x1.num,.string (byt x1.text),v1] 24)):=below1 wx _
 obtain⟨wb,hwb⟩:∃wb,(wx.alloc (.cells #[.int .i64 x1.kind,.int .i64 x1.num,.string (byt x1.text),v1] 24))=wb:=⟨_,rfl⟩
 rw[hwb] at bxB hb
 rw[hwb]
 clear hwb
 have hgB:W0.heap.size≤wx.heap.size:=HZW.out
 replace RB:=bl RB hb
 replace HN1:=hid (HN1.out.below hb)
 replace HP:=hid (HP.out.below hb)
 replace HU:=hid (HU.out.step hb)
 replace HZW:=hid (Nat.le_trans HZW.out hb.size)
 have HNN:Hid (NodeAt wb (fun g=>W0.heap.size≤g) (.mk 31 0 [] [x1]) #[.int .i64 31,.int .i64 0,.string ⟨#[]⟩,.slice (some ⟨wx.heap.size,0,none⟩) 1 1]):=hid (NodeAt.build (css:=[#[.int .i64 x1.kind,.int .i64 x1.num,.string (byt x1.text),v1]]) 31 0 [] bxB hgB ⟨HN1.out,trivial⟩)
 clear bxB hb
 refine (ended_any _ b ts A c (k1) fn lp #[.int .i64 31,.int .i64 0,.string ⟨#[]⟩,.slice (some ⟨wx.heap.size,0,none⟩) 1 1] HP.out rfl (nz_one _ _ _ _ _ _)).mono ?_
 rintro e we (⟨hi,hk,rfl,hx,hu⟩ | ⟨hi,rfl,hu⟩)
 rotate_left
 ·exact⟨rfl,.inr ⟨HR.out.trans (Pars.must_no hi),rfl,HU.out.trans hu⟩⟩
 replace HR:=hid (HR.out.trans (Pars.must_some hi))
 replace RB:=bg RB hu
 replace HNN:=hid (HNN.out.upd hu (fun g hg=>by first | omega | (simp only at hg;omega)))
 replace HP:=hid (HP.out.upd hx hu (by omega))
 replace HU:=hid (HU.out.trans hu)
 replace HZW:=hid (Nat.le_trans HZW.out hu.size)
 clear hi hx hu
 have hleE:=HP.out.kle
 go_wp2_with (refine wpList_store_box rfl 24 (.tmp 2) (.tmp 118) rfl w.heap.size #[.int .i64 31,.int .i64 0,.string ⟨#[]⟩,.slice (some ⟨wx.heap.size,0,none⟩) 1 1] rfl rfl 24 _ RB.out info_nod rfl (nz_one _ _ _ _ _ _) ?_;intro wz hxz huz hzz;have HZZ:=hid hzz;clear hzz)
 refine bodyPost_ret (results_box rfl _ _ w.heap.size 24 _ _ rfl hxz Tryz.underlying24 rfl info_nod) rfl ?_
 exact .inl ⟨(.mk 31 0 [] [x1]),k1+1, #[.int .i64 31,.int .i64 0,.string ⟨#[]⟩,.slice (some ⟨wx.heap.size,0,none⟩) 1 1],HR.out,by omega,HP.out.kle,rfl,(HNN.out.upd huz (fun g hg=>by first | omega | (simp only at hg;omega))).weak (fun g hg=>by first | omega | (simp only at hg;omega)),Box.grown HP.out.box huz (by intro h;injection h with h;omega),Upd.fresh HU.out huz (Nat.le_refl _)⟩
end Go.Proofs.YtflmjbmdmoifhaaGreatDoor
namespace Go.Proofs.YtflmjbmdmoifhaaGreatDoor
open Go.Lib (hid)
open Go.RowKit
structure UpdB (B:Nat) (w w':World) (b:Nat):Prop where
 os:w'.os=w.os
 tape:w'.tape=w.tape
 output:w'.output=w.output
 size:w.heap.size≤w'.heap.size
 block:∀i,i<B→i≠b→w'.heap[i]? =w.heap[i]?
section
variable {B b : Nat} {a w w1 w2 : World}
theorem UpdB.refl (B:Nat) (w:World) (b:Nat):UpdB B w w b:=⟨rfl,rfl,rfl,Nat.le_refl _,fun _ _ _=>rfl⟩
theorem UpdB.trans (h:UpdB B a w b) (k:UpdB B w w1 b):UpdB B a w1 b:=⟨k.os.trans h.os,k.tape.trans h.tape,k.output.trans h.output,Nat.le_trans h.size k.size,fun i hi hn=>(k.block i hi hn).trans (h.block i hi hn)⟩
theorem UpdB.of_upd (h:Upd w w1 b) (hB:B≤w.heap.size):UpdB B w w1 b:=⟨h.os,h.tape,h.output,h.size,fun i hi hn=>h.block i (by omega) (by intro e;injection e with e;exact hn e)⟩
theorem UpdB.of_below {B':Nat} (h:Below B' w w1) (hB:B≤B'):UpdB B w w1 b:=⟨h.os,h.tape,h.output,h.size,fun i hi _=>h.block i (by omega)⟩
theorem UpdB.of_far {r:Nat} (h:Upd w w1 r) (hr:B≤r) (hB:B≤w.heap.size):UpdB B w w1 b:=⟨h.os,h.tape,h.output,h.size,fun i hi _=>h.block i (by omega) (by intro e;injection e with e;omega)⟩
theorem Upd.updB (h:Upd a w b) (k:UpdB B w w1 b) (hB:a.heap.size≤B):Upd a w1 b:=
 ⟨k.os.trans h.os,k.tape.trans h.tape,k.output.trans h.output,Nat.le_trans h.size k.size,fun i hi hn=>(k.block i (by omega) (by intro e;exact hn (by rw[e]))).trans (h.block i hi hn)⟩
theorem Box.updB {g:Nat} {t:TypeId} {cs:Array Value} (h:Box w g t cs) (k:UpdB B w w1 b) (hg:g<B) (hn:g≠b):Box w1 g t cs:=(k.block g hg hn).trans h
theorem PSt.updB {ts:List KT} {A:Option Addr} {c k k1:Nat} {fn lp:Bool} (h:PSt w b ts A c k fn lp) (hx:Box w1 b 108 (pc (.slice A ts.length c) k1 fn lp)) (hu:UpdB B w w1 b) (hk:k1≤ts.length) (hA:0<ts.length→∀g o,A=some ⟨g,o,none⟩→g<B):PSt w1 b ts A c k1 fn lp:=by
 refine⟨hx,?_,hk,h.ne,h.len⟩
 obtain⟨A',cap,e,h1,h2,h3⟩:=h.ks
 refine⟨A',cap,e,h1,h2,fun hn=> ?_⟩
 obtain⟨g,o,rfl,hg,hr⟩:=h3 hn
 injection e with e _ _
 have hz:=hu.size
 refine⟨g,o,rfl,by omega,fun i u hi=> ?_⟩
 rw[World.cell?_of_block (hu.block g (hA hn g o e) (h.ne g o e))]
 exact hr i u hi
end
def KOut (B:Nat) (w:World) (b oa:Nat) (ts:List KT) (A:Option Addr) (c k:Nat) (fn lp:Bool) (kd nu:Int) (tx:List UInt8) (r:Option (List Pars.Node×List Lexy.Tk)) (e:Ending) (w':World):Prop:=
 (∃l k' kv',r=some (l,left ts k')∧k≤k'∧k'≤ts.length∧l.length≤k'∧e= .returned (.tuple #[])∧Box w' oa 24 (nc kd nu tx kv')∧KO w' B oa l kv'∧Box w' b 108 (pc (.slice A ts.length c) k' fn lp)∧UpdB B w w' b)∨
 (r=none∧e= .panicked slipped∧UpdB B w w' b)
def One (m:Nat) (nt:Pars.Nt) (g:Nat) (lb:Array Value) (B b oa pb:Nat) (ts:List KT) (A:Option Addr) (c:Nat) (fn lp:Bool) (kd nu:Int) (tx:List UInt8):Prop:=
 ∀(w:World) (k:Nat) (acc:List Pars.Node) (kv:Value),PSt w b ts A c k fn lp→Box w pb 106 #[.pointer (some ⟨b,0,none⟩)]→Box w oa 24 (nc kd nu tx kv)→KO w B oa acc kv→B≤w.heap.size→acc.length≤k→20 * (ts.length - k)+13<m→
  Calls Tryz.prog g lb w (KOut B w b oa ts A c k fn lp kd nu tx ((Pars.run m nt fn lp (left ts k)).map fun y=>(acc++[y.1],y.2)))
theorem sep_no {l:List Lexy.Tk} {f:List Lexy.Tk→Pars.R}:Pars.sep false l f=f l:=rfl
theorem sep_yes {l:List Lexy.Tk} {f:List Lexy.Tk→Pars.R}:Pars.sep true l f=Pars.must [44] l f:=rfl
theorem step_some {m:Nat} {fin:List UInt8} {nt:Pars.Nt} {more fn lp:Bool} {acc:List Pars.Node} {l:List Lexy.Tk}:Pars.run (m+1) (.some fin nt more acc) fn lp l=Pars.alt fin l (fun r=>some (.mk 0 0 [] acc,r)) (Pars.sep more l fun l=>Pars.andThen (Pars.run m nt fn lp l) fun x r=>Pars.run m (.some fin nt true (acc++[x])) fn lp r):=by rw[Pars.run]
set_option maxRecDepth 100000 in
set_option maxHeartbeats 4000000 in
theorem some_any (fin:List UInt8) (nt:Pars.Nt) (hnp:Pars.passes nt=true) (g:Nat) (lb:Array Value) (eg:∀args w,(callFunc g args).run Tryz.prog w= .ok (.enter g args) w) (N:Nat) (B b oa pb:Nat) (ts:List KT) (A:Option Addr) (c:Nat) (fn lp:Bool) (kd nu:Int) (tx:List UInt8)
  (hone:∀m,m<N→One m nt g lb B b oa pb ts A c fn lp kd nu tx) (hbB:b<B) (hpB:pb<B) (hpb:pb≠b) (hoB:B≤oa) (hA:0<ts.length→∀g o,A=some ⟨g,o,none⟩→g<B)
  (w:World) (k:Nat) (kv:Value) (pre:List Pars.Node) (hpre:pre.length≤k) (hP:PSt w b ts A c k fn lp) (hpx:Box w pb 106 #[.pointer (some ⟨b,0,none⟩)]) (hox:Box w oa 24 (nc kd nu tx kv)) (hko:KO w B oa pre kv) (hBw:B≤w.heap.size) (hm:20 * (ts.length - k)+15<N):
  Calls Tryz.prog 104 #[.pointer (some ⟨b,0,none⟩),.string (byt fin),.func (.func g) #[] lb] w (KOut B w b oa ts A c k fn lp kd nu tx ((Pars.run N (.some fin nt false []) fn lp (left ts k)).map fun y=>(pre++y.1.kids,y.2))):=by
 have HONE:=hid hone
 have HA:=hid hA
 have HP:=hid hP
 have PX:=hid hpx
 have OB:=hid hox
 have KOF:=hid hko
 have hkl:=hP.kle
 have hlen:=hP.len
 clear hone hA hP hpx hox hko
 go_enter Tryz.func104,Tryz.ntmps104
 go_wp2
 go_loopg [6] (ts.length) (fun gg s6 wr=>∃(k' m:Nat) (acc:List Pars.Node) (kv:Value),ts.length - k'≤gg∧s6= .int .i64 (acc.length:Int)∧k≤k'∧k'≤ts.length∧acc.length+k≤k'∧(pre++acc).length≤k'∧m≤N∧20 * (ts.length - k')+15<m∧B≤wr.heap.size∧Hid (Box wr pb 106 #[.pointer (some ⟨b,0,none⟩)])∧Hid (Box wr oa 24 (nc kd nu tx kv))∧Hid (KO wr B oa (pre++acc) kv)∧Hid (PSt wr b ts A c k' fn lp)∧Hid (UpdB B w wr b)∧Hid (Pars.run N (.some fin nt false []) fn lp (left ts k)=Pars.run m (.some fin nt (decide (0<acc.length)) acc) fn lp (left ts k')))
 case atStart=>exact⟨k,N,[],kv,by omega,rfl,Nat.le_refl _,hkl,by simp,by simpa using hpre,Nat.le_refl _,hm,hBw,PX,OB,by simpa using KOF,HP,hid (UpdB.refl _ _ _),hid rfl⟩
 case round=>
  clear PX OB KOF HP hkl hm hBw
  obtain⟨k',m,acc,kv,hg,rfl,hkk,hkl,hal,hpl,hmn,hmm,hBw,PX,OB,KOF,HP,HU,HRR⟩:=hrel
  obtain⟨m',rfl⟩:∃m',m=m'+1:=⟨m - 1,by omega⟩
  have HR:Hid (Pars.run N (.some fin nt false []) fn lp (left ts k)=_):=hid (HRR.out.trans step_some)
  have hacc:acc.length≤1000:=by omega
  clear HRR
  go_wp2_with fail
  refine (is_any fin _ b ts A c k' fn lp HP.out).mono ?_
  rintro e w1 (⟨hi,hk,rfl,hx,hu⟩ | ⟨hi,rfl,hx,hu⟩)
  ·replace HR:=hid (HR.out.trans (Pars.alt_some hi))
   have hub:=UpdB.of_upd hu hBw
   replace OB:=bg OB hu
   replace KOF:=hid (KOF.out.upd hu hbB)
   have HX:=hid hx
   replace HU:=hid (HU.out.trans hub)
   clear hi hx hu hub
   go_wp2
   go_end0
   exact .inl ⟨pre++acc,k'+1,kv,by rw[HR.out];rfl,by omega,by omega,by omega,rfl,OB.out,KOF.out,HX.out,HU.out⟩
  replace HR:=hid (HR.out.trans (Pars.alt_no hi))
  have hub:=UpdB.of_upd hu hBw
  replace OB:=bg OB hu
  replace PX:=bg PX hu
  replace KOF:=hid (KOF.out.upd hu hbB)
  replace HP:=hid (HP.out.upd hx hu (by omega))
  replace HU:=hid (HU.out.trans hub)
  replace hBw:B≤w1.heap.size:=Nat.le_trans hBw hu.size
  clear hi hx hu hub
  by_cases y0:acc.length=0
  ·have d0:decide (0<acc.length)=false:=decide_eq_false (by omega)
   have d1:decide ((0:Int)<(acc.length:Int))=false:=decide_eq_false (by omega)
   have d2:¬(0:Int)<(acc.length:Int):=by omega
   have d3:¬0<acc.length:=by omega
   replace HR:Hid (Pars.run N (.some fin nt false []) fn lp (left ts k)=_):=hid (HR.out.trans (by rw[d0,sep_no]))
   go_wp2_with fail
   refine (HONE.out m' (by omega) w1 (k') (pre++acc) kv HP.out PX.out OB.out KOF.out hBw (by omega) (by omega)).mono ?_
   rintro e w2 (⟨l2,k2,kv2,hr,hk2,hkl2,hll2,rfl,hox,hko,hx,hu⟩ | ⟨hr,rfl,hu⟩)
   rotate_left
   ·refine⟨rfl,.inr ⟨?_,rfl,HU.out.trans hu⟩⟩
    rw[HR.out]
    cases hq:Pars.run m' nt fn lp (left ts (k')) with
    | none=>rfl
    | some y=>rw[hq] at hr;cases hr
   obtain⟨y,hy,hyl,hyk⟩:∃y,Pars.run m' nt fn lp (left ts (k'))=some (y,left ts k2)∧pre++acc++[y]=l2∧k'<k2:=by
    cases hq:Pars.run m' nt fn lp (left ts (k')) with
    | none=>rw[hq] at hr;cases hr
    | some y=>
     obtain⟨y1,y2⟩:=y
     rw[hq] at hr
     injection hr with hr
     injection hr with h1 h2
     subst h2
     exact⟨y1,rfl,h1,got_lt hq hnp⟩
   subst hyl
   replace HR:=hid (HR.out.trans (Pars.and_some hy))
   have hln:(acc++[y]).length=acc.length+1:=by simp
   have HLN:=hid hln
   have wk:IntKind.i64.wrap ((acc.length:Int)+1)=(acc.length:Int)+1:=by rw[IntKind.wrap_i64];omega
   clear KOF
   replace OB:=hid hox
   have KOA:Hid (KO _ B oa (pre++(acc++[y])) kv2):=hid (by rw[←List.append_assoc];exact hko)
   replace PX:=hid (PX.out.updB hu hpB hpb)
   replace HP:=hid (HP.out.updB hx hu hkl2 HA.out)
   replace HU:=hid (HU.out.trans hu)
   replace hBw:B≤w2.heap.size:=Nat.le_trans hBw hu.size
   clear hr hox hko hx hu hy hln
   go_wp2
   go_roundg (ts.length - k2)
   case measure=>omega
   case rel=>exact⟨k2,m',acc++[y],kv2,by omega,by rw[HLN.out];first | rfl | (rw[y0];rfl),by omega,hkl2,by rw[HLN.out];omega,by rw[←List.append_assoc];exact hll2,by omega,by omega,hBw,PX,OB,KOA,HP,HU,hid (HR.out.trans (by rw[HLN.out,decide_eq_true (show 0<acc.length+1 by omega)]))⟩
  ·have d0:decide (0<acc.length)=true:=decide_eq_true (by omega)
   have d1:decide ((0:Int)<(acc.length:Int))=true:=decide_eq_true (by omega)
   have d2:(0:Int)<(acc.length:Int):=by omega
   have d3:0<acc.length:=by omega
   replace HR:Hid (Pars.run N (.some fin nt false []) fn lp (left ts k)=_):=hid (HR.out.trans (by rw[d0,sep_yes]))
   go_wp2_with fail
   refine (must_any [44] _ b ts A c k' fn lp HP.out).mono ?_
   rintro e w2 (⟨hi,hk,rfl,hx,hu⟩ | ⟨hi,rfl,hu⟩)
   rotate_left
   ·exact⟨rfl,.inr ⟨by rw[HR.out,Pars.must_no hi];rfl,rfl,HU.out.trans (UpdB.of_upd hu hBw)⟩⟩
   replace HR:=hid (HR.out.trans (Pars.must_some hi))
   have hub:=UpdB.of_upd hu hBw
   replace OB:=bg OB hu
   replace PX:=bg PX hu
   replace KOF:=hid (KOF.out.upd hu hbB)
   replace HP:=hid (HP.out.upd hx hu (by omega))
   replace HU:=hid (HU.out.trans hub)
   replace hBw:B≤w2.heap.size:=Nat.le_trans hBw hu.size
   clear hi hx hu hub
   go_wp2_with fail
   refine (HONE.out m' (by omega) w2 (k'+1) (pre++acc) kv HP.out PX.out OB.out KOF.out hBw (by omega) (by omega)).mono ?_
   rintro e w3 (⟨l2,k2,kv2,hr,hk2,hkl2,hll2,rfl,hox,hko,hx,hu⟩ | ⟨hr,rfl,hu⟩)
   rotate_left
   ·refine⟨rfl,.inr ⟨?_,rfl,HU.out.trans hu⟩⟩
    rw[HR.out]
    cases hq:Pars.run m' nt fn lp (left ts (k'+1)) with
    | none=>rfl
    | some y=>rw[hq] at hr;cases hr
   obtain⟨y,hy,hyl,hyk⟩:∃y,Pars.run m' nt fn lp (left ts (k'+1))=some (y,left ts k2)∧pre++acc++[y]=l2∧k'+1<k2:=by
    cases hq:Pars.run m' nt fn lp (left ts (k'+1)) with
    | none=>rw[hq] at hr;cases hr
    | some y=>
     obtain⟨y1,y2⟩:=y
     rw[hq] at hr
     injection hr with hr
     injection hr with h1 h2
     subst h2
     exact⟨y1,rfl,h1,got_lt hq hnp⟩
   subst hyl
   replace HR:=hid (HR.out.trans (Pars.and_some hy))
   have hln:(acc++[y]).length=acc.length+1:=by simp
   have HLN:=hid hln
   have wk:IntKind.i64.wrap ((acc.length:Int)+1)=(acc.length:Int)+1:=by rw[IntKind.wrap_i64];omega
   clear KOF
   replace OB:=hid hox
   have KOA:Hid (KO _ B oa (pre++(acc++[y])) kv2):=hid (by rw[←List.append_assoc];exact hko)
   replace PX:=hid (PX.out.updB hu hpB hpb)
   replace HP:=hid (HP.out.updB hx hu hkl2 HA.out)
   replace HU:=hid (HU.out.trans hu)
   replace hBw:B≤w3.heap.size:=Nat.le_trans hBw hu.size
   clear hr hox hko hx hu hy hln
   go_wp2
   go_roundg (ts.length - k2)
   case measure=>omega
   case rel=>exact⟨k2,m',acc++[y],kv2,by omega,by rw[HLN.out];first | rfl | (rw[y0];rfl),by omega,hkl2,by rw[HLN.out];omega,by rw[←List.append_assoc];exact hll2,by omega,by omega,hBw,PX,OB,KOA,HP,HU,hid (HR.out.trans (by rw[HLN.out,decide_eq_true (show 0<acc.length+1 by omega)]))⟩
end Go.Proofs.YtflmjbmdmoifhaaGreatDoor
namespace Go.Proofs.YtflmjbmdmoifhaaGreatDoor
open Go.Lib (hid)
open Go.RowKit
theorem box_cells {w:World} {b:Nat} {t:TypeId}:∀(vs:List Value) (o:Nat) (L:List Value) (w:World),Box w b t L.toArray→o+vs.length≤L.length→
  Box (w.setCells b o vs) b t (L.take o++(vs++L.drop (o+vs.length))).toArray
 | [],o,L,w,h,_=>by simpa [World.setCells] using h
 | v :: vs,o,L,w,h,hl=>by
  simp only[List.length_cons] at hl
  have h1:=h.set o v
  rw[List.setIfInBounds_toArray] at h1
  have h2:=box_cells (w:=w) vs (o+1) (L.set o v) _ h1 (by simp;omega)
  have e1:(L.set o v).take (o+1)=L.take o++[v]:=by
   rw[List.take_add_one,List.getElem?_set_self (by omega),List.take_set_of_le (Nat.le_refl _)]
   rfl
  have e2:(L.set o v).drop (o+1+vs.length)=L.drop (o+(vs.length+1)):=by
   rw[List.drop_set_of_lt (by omega),show o+1+vs.length=o+(vs.length+1) by omega]
  rw[e1,e2] at h2
  simpa [World.setCells] using h2
theorem upd_cells {b:Nat}:∀(vs:List Value) (o:Nat) (w:World),Upd w (w.setCells b o vs) b
 | [],_,w=>Upd.refl w b
 | v :: vs,o,w=>by
  have h:=upd_cells (b:=b) vs (o+1) (w.setCell ⟨b,o,none⟩ v)
  exact ((Upd.refl w b).set (p:=⟨b,o,none⟩) (.inl rfl) v).trans h
theorem Box.there {w:World} {b o n:Nat} {t:TypeId} {cur:List Value} (h:Box w b t cur.toArray) (hn:o+n≤cur.length):w.there b o n:=fun j hj=>by
 rw[h.cell,h.frozen,List.getElem?_toArray,List.getElem?_eq_getElem (by omega)]
 exact⟨rfl,rfl⟩
theorem size_cells {b:Nat}:∀(vs:List Value) (o:Nat) (w:World),(w.setCells b o vs).heap.size=w.heap.size
 | [],_,_=>rfl
 | v :: vs,o,w=>(size_cells vs (o+1) (w.setCell ⟨b,o,none⟩ v)).trans (by simp[World.setCell])
end Go.Proofs.YtflmjbmdmoifhaaGreatDoor

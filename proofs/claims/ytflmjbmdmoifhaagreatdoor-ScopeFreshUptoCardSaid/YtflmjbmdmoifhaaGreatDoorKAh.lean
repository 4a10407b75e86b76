/-
  Texts that the law leans on: PmJ, PmK. Conditions: as each says.
-/
import Derived.Test.YtflmjbmdmoifhaaGreatDoorKAg
import Derived.Test.YtflmjbmdmoifhaaGreatDoorKAa
set_option linter.unusedSimpArgs false
set_option linter.unusedVariables false
namespace Go.Proofs.YtflmjbmdmoifhaaGreatDoor
open Go.Lib (hid)
open Go.RowKit
set_option maxRecDepth 100000 in
set_option maxHeartbeats 4000000 in
theorem body_step {n:Nat} (h:All n):∀(f:Bool),∀{w:World} {b:Nat} {ts:List KT} {A:Option Addr} {c k:Nat} {fn lp:Bool},PSt w b ts A c k fn lp→20 * (ts.length - k)+2<n+1→Calls Tryz.prog 81 #[.pointer (some ⟨b,0,none⟩),.bool f] w (Got w b ts A c k fn lp (Pars.run (n+1) (.body f) fn lp (left ts k))):=by
 intro f w b ts A c k fn lp hP hm
 have HR:Hid (Pars.run (n+1) (.body f) fn lp (left ts k)=_):=hid (by rw[Pars.run])
 have hbl:=hP.box.lt
 have hle:=hP.kle
 go_enter Tryz.func81,Tryz.ntmps81
 go_upto_region 1 with fail
 refine gen_world (F:=fun W=>Box W w.heap.size 24 #[.int .i64 0,.int .i64 0,.string ⟨#[]⟩,.slice none 0 0]∧Below w.heap.size w W) ⟨Box.new w _ _,below1 w _⟩ ?_
 rintro W0 ⟨r0,hU⟩
 have RB:=hid r0
 have HP:=hid (hP.below hU)
 have HU:Hid (Upd w W0 b):=hid (Upd.below hU b)
 have HZ:Hid (w.heap.size<W0.heap.size):=hid r0.lt
 have hz0:=r0.lt
 have HZW:Hid (W0.heap.size≤W0.heap.size):=hid (Nat.le_refl _)
 clear r0 hU hP
 have c2:=HP.out.box.cell 2
 have c3:=HP.out.box.cell 3
 simp[pc] at c2 c3
 cases fn with
 | false=>
  cases f with
  | false=>
   go_quiet (fail)
   obtain⟨W1,hW1⟩:∃W1,W0.drewN nq=W1:=⟨_,rfl⟩
   have hb:Below W0.heap.size W0 W1:=hW1 ▸ below_drewN (Below.refl _ W0) nq
   rw[hW1]
   clear hW1 c2 c3
   replace RB:=bl RB hb
   replace HP:=hid (HP.out.below hb)
   replace HU:=hid (HU.out.step hb)
   replace HZW:=hid (Nat.le_trans HZW.out hb.size)
   clear hb
   have c2:=HP.out.box.cell 2
   have c3:=HP.out.box.cell 3
   have f2:=HP.out.box.frozen 2
   have f3:=HP.out.box.frozen 3
   simp[pc] at c2 c3
   go_upto_region 3 with fail
   clear c2 c3 f2 f3
   refine gen_world (F:=fun W=>Box W b 108 (pc (.slice A ts.length c) (k) false true)∧Upd W1 W b) ⟨(HP.out.box.set 2 (.bool false)).set 3 (.bool true),((Upd.refl _ b).set (.inl rfl) _).set (.inl rfl) _⟩ ?_
   rintro w2 ⟨hx,hu⟩
   replace RB:=bg RB hu
   replace HP:=hid (HP.out.upd hx hu (by omega))
   replace HU:=hid (HU.out.trans hu)
   replace HZW:=hid (Nat.le_trans HZW.out hu.size)
   clear hx hu
   go_wp2_with fail
   refine (h.block HP.out (by omega)).mono ?_
   rintro e w3 (⟨x1,k1,cs1,hr,hk1,hk2,rfl,hn,hx,hu⟩ | ⟨hr,rfl,hu⟩)
   rotate_left
   ·exact⟨rfl,.inr ⟨HR.out.trans hr,rfl,HU.out.trans hu⟩⟩
   have hlt1:=got_lt hr rfl
   replace HR:=hid (HR.out.trans hr)
   have HN1:Hid (NodeAt _ (fun g=>W0.heap.size≤g) x1 cs1):=hid (hn.weak (fun g hg=>by have:=HZW.out;omega))
   have hcs1:(Tryz.prog.info? 24).map (·.size)=some cs1.size:=by rw[NodeAt.size hn];exact info_nod
   have h41:(4:Nat)=cs1.size:=(NodeAt.size hn).symm
   have hone1:=NodeAt.one hn
   have HCS1:=hid hcs1
   have H41:=hid h41
   have HONE1:=hid hone1
   replace RB:=bg RB hu
   replace HP:=hid (HP.out.upd hx hu (by omega))
   replace HU:=hid (HU.out.trans hu)
   replace HZW:=hid (Nat.le_trans HZW.out hu.size)
   clear hr hn hx hu hcs1 h41 hone1
   have hle1:=HP.out.kle
   obtain⟨v1,hlit,hvo⟩:=NodeAt.lit HN1.out
   rw[hlit] at HN1 HCS1 H41 HONE1 ⊢
   have HVO1:=hid hvo
   clear hlit hvo
   go_upto_region 4 with (refine wpList_store_box rfl 24 (.tmp 7) (.tmp 29) rfl w3.heap.size #[.int .i64 x1.kind,.int .i64 x1.num,.string (byt x1.text),v1] rfl rfl 24 _ (Box.new w3 _ _) HCS1.out H41.out HONE1.out ?_;intro w4 hx hv hz;have HZ1:=hid hz;clear hz)
   have hb:Below w3.heap.size w3 w4:=((Below.refl _ w3).alloc (Nat.le_refl _) _).trans (hv.own (Nat.le_refl _) (by simp))
   have EB1:=hid hx
   have hzE1:=Nat.lt_of_lt_of_le HZ.out HZW.out
   replace RB:=bl RB hb
   replace HN1:=hid (HN1.out.below hb)
   replace HP:=hid (HP.out.below hb)
   replace HU:=hid (HU.out.step hb)
   replace HZW:=hid (Nat.le_trans HZW.out hb.size)
   clear hx hv hb
   have c2:=HP.out.box.cell 2
   have c3:=HP.out.box.cell 3
   have f2:=HP.out.box.frozen 2
   have f3:=HP.out.box.frozen 3
   simp[pc] at c2 c3
   go_upto_region 5 with fail
   clear c2 c3 f2 f3
   refine gen_world (F:=fun W=>Box W b 108 (pc (.slice A ts.length c) (k1) false lp)∧Upd w4 W b) ⟨(HP.out.box.set 2 (.bool false)).set 3 (.bool lp),((Upd.refl _ b).set (.inl rfl) _).set (.inl rfl) _⟩ ?_
   rintro w5 ⟨hx,hu⟩
   replace RB:=bg RB hu
   replace EB1:=bg EB1 hu
   replace HN1:=hid (HN1.out.upd hu (fun g hg=>by first | omega | (simp only at hg;omega)))
   replace HP:=hid (HP.out.upd hx hu (by omega))
   replace HU:=hid (HU.out.trans hu)
   replace HZW:=hid (Nat.le_trans HZW.out hu.size)
   clear hx hu
   have eb1:=EB1.out
   go_wp2_with (first | (refine wpList_load_row rfl 24 (.tmp 7) rfl w3.heap.size rfl _ #[.int .i64 x1.kind,.int .i64 x1.num,.string (byt x1.text),v1] (0,0) _ eb1 Tryz.underlying24 rfl HCS1.out ?_) | (refine wpList_store_box rfl 24 (.tmp 4) (.tmp 38) rfl w.heap.size #[.int .i64 x1.kind,.int .i64 x1.num,.string (byt x1.text),v1] rfl rfl 24 _ RB.out HCS1.out H41.out HONE1.out ?_;intro wz hxz huz hzz;have HZZ:=hid hzz;clear hzz))
   refine bodyPost_ret (results_box rfl _ _ w.heap.size 24 _ _ rfl hxz Tryz.underlying24 rfl HCS1.out) rfl ?_
   exact .inl ⟨x1,k1, #[.int .i64 x1.kind,.int .i64 x1.num,.string (byt x1.text),v1],HR.out,by omega,HP.out.kle,rfl,(HN1.out.upd huz (fun g hg=>by first | omega | (simp only at hg;omega))).weak (fun g hg=>by first | omega | (simp only at hg;omega)),Box.grown HP.out.box huz (by intro h;injection h with h;omega),Upd.fresh HU.out huz (Nat.le_refl _)⟩
  | true=>
   go_quiet (fail)
   obtain⟨W1,hW1⟩:∃W1,W0.drewN nq=W1:=⟨_,rfl⟩
   have hb:Below W0.heap.size W0 W1:=hW1 ▸ below_drewN (Below.refl _ W0) nq
   rw[hW1]
   clear hW1 c2 c3
   replace RB:=bl RB hb
   replace HP:=hid (HP.out.below hb)
   replace HU:=hid (HU.out.step hb)
   replace HZW:=hid (Nat.le_trans HZW.out hb.size)
   clear hb
   have c2:=HP.out.box.cell 2
   have c3:=HP.out.box.cell 3
   have f2:=HP.out.box.frozen 2
   have f3:=HP.out.box.frozen 3
   simp[pc] at c2 c3
   go_upto_region 3 with fail
   clear c2 c3 f2 f3
   refine gen_world (F:=fun W=>Box W b 108 (pc (.slice A ts.length c) (k) true false)∧Upd W1 W b) ⟨(HP.out.box.set 2 (.bool true)).set 3 (.bool false),((Upd.refl _ b).set (.inl rfl) _).set (.inl rfl) _⟩ ?_
   rintro w2 ⟨hx,hu⟩
   replace RB:=bg RB hu
   replace HP:=hid (HP.out.upd hx hu (by omega))
   replace HU:=hid (HU.out.trans hu)
   replace HZW:=hid (Nat.le_trans HZW.out hu.size)
   clear hx hu
   go_wp2_with fail
   refine (h.block HP.out (by omega)).mono ?_
   rintro e w3 (⟨x1,k1,cs1,hr,hk1,hk2,rfl,hn,hx,hu⟩ | ⟨hr,rfl,hu⟩)
   rotate_left
   ·exact⟨rfl,.inr ⟨HR.out.trans hr,rfl,HU.out.trans hu⟩⟩
   have hlt1:=got_lt hr rfl
   replace HR:=hid (HR.out.trans hr)
   have HN1:Hid (NodeAt _ (fun g=>W0.heap.size≤g) x1 cs1):=hid (hn.weak (fun g hg=>by have:=HZW.out;omega))
   have hcs1:(Tryz.prog.info? 24).map (·.size)=some cs1.size:=by rw[NodeAt.size hn];exact info_nod
   have h41:(4:Nat)=cs1.size:=(NodeAt.size hn).symm
   have hone1:=NodeAt.one hn
   have HCS1:=hid hcs1
   have H41:=hid h41
   have HONE1:=hid hone1
   replace RB:=bg RB hu
   replace HP:=hid (HP.out.upd hx hu (by omega))
   replace HU:=hid (HU.out.trans hu)
   replace HZW:=hid (Nat.le_trans HZW.out hu.size)
   clear hr hn hx hu hcs1 h41 hone1
   have hle1:=HP.out.kle
   obtain⟨v1,hlit,hvo⟩:=NodeAt.lit HN1.out
   rw[hlit] at HN1 HCS1 H41 HONE1 ⊢
   have HVO1:=hid hvo
   clear hlit hvo
   go_upto_region 4 with (refine wpList_store_box rfl 24 (.tmp 7) (.tmp 29) rfl w3.heap.size #[.int .i64 x1.kind,.int .i64 x1.num,.string (byt x1.text),v1] rfl rfl 24 _ (Box.new w3 _ _) HCS1.out H41.out HONE1.out ?_;intro w4 hx hv hz;have HZ1:=hid hz;clear hz)
   have hb:Below w3.heap.size w3 w4:=((Below.refl _ w3).alloc (Nat.le_refl _) _).trans (hv.own (Nat.le_refl _) (by simp))
   have EB1:=hid hx
   have hzE1:=Nat.lt_of_lt_of_le HZ.out HZW.out
   replace RB:=bl RB hb
   replace HN1:=hid (HN1.out.below hb)
   replace HP:=hid (HP.out.below hb)
   replace HU:=hid (HU.out.step hb)
   replace HZW:=hid (Nat.le_trans HZW.out hb.size)
   clear hx hv hb
   have c2:=HP.out.box.cell 2
   have c3:=HP.out.box.cell 3
   have f2:=HP.out.box.frozen 2
   have f3:=HP.out.box.frozen 3
   simp[pc] at c2 c3
   go_upto_region 5 with fail
   clear c2 c3 f2 f3
   refine gen_world (F:=fun W=>Box W b 108 (pc (.slice A ts.length c) (k1) false lp)∧Upd w4 W b) ⟨(HP.out.box.set 2 (.bool false)).set 3 (.bool lp),((Upd.refl _ b).set (.inl rfl) _).set (.inl rfl) _⟩ ?_
   rintro w5 ⟨hx,hu⟩
   replace RB:=bg RB hu
   replace EB1:=bg EB1 hu
   replace HN1:=hid (HN1.out.upd hu (fun g hg=>by first | omega | (simp only at hg;omega)))
   replace HP:=hid (HP.out.upd hx hu (by omega))
   replace HU:=hid (HU.out.trans hu)
   replace HZW:=hid (Nat.le_trans HZW.out hu.size)
   clear hx hu
   have eb1:=EB1.out
   go_wp2_with (first | (refine wpList_load_row rfl 24 (.tmp 7) rfl w3.heap.size rfl _ #[.int .i64 x1.kind,.int .i64 x1.num,.string (byt x1.text),v1] (0,0) _ eb1 Tryz.underlying24 rfl HCS1.out ?_) | (refine wpList_store_box rfl 24 (.tmp 4) (.tmp 38) rfl w.heap.size #[.int .i64 x1.kind,.int .i64 x1.num,.string (byt x1.text),v1] rfl rfl 24 _ RB.out HCS1.out H41.out HONE1.out ?_;intro wz hxz huz hzz;have HZZ:=hid hzz;clear hzz))
   refine bodyPost_ret (results_box rfl _ _ w.heap.size 24 _ _ rfl hxz Tryz.underlying24 rfl HCS1.out) rfl ?_
   exact .inl ⟨x1,k1, #[.int .i64 x1.kind,.int .i64 x1.num,.string (byt x1.text),v1],HR.out,by omega,HP.out.kle,rfl,(HN1.out.upd huz (fun g hg=>by first | omega | (simp only at hg;omega))).weak (fun g hg=>by first | omega | (simp only at hg;omega)),Box.grown HP.out.box huz (by intro h;injection h with h;omega),Upd.fresh HU.out huz (Nat.le_refl _)⟩
 | true=>
  cases f with
  | false=>
   go_quiet (fail)
   obtain⟨W1,hW1⟩:∃W1,W0.drewN nq=W1:=⟨_,rfl⟩
   have hb:Below W0.heap.size W0 W1:=hW1 ▸ below_drewN (Below.refl _ W0) nq
   rw[hW1]
   clear hW1 c2 c3
   replace RB:=bl RB hb
   replace HP:=hid (HP.out.below hb)
   replace HU:=hid (HU.out.step hb)
   replace HZW:=hid (Nat.le_trans HZW.out hb.size)
   clear hb
   have c2:=HP.out.box.cell 2
   have c3:=HP.out.box.cell 3
   have f2:=HP.out.box.frozen 2
   have f3:=HP.out.box.frozen 3
   simp[pc] at c2 c3
   go_upto_region 3 with fail
   clear c2 c3 f2 f3
   refine gen_world (F:=fun W=>Box W b 108 (pc (.slice A ts.length c) (k) true true)∧Upd W1 W b) ⟨(HP.out.box.set 2 (.bool true)).set 3 (.bool true),((Upd.refl _ b).set (.inl rfl) _).set (.inl rfl) _⟩ ?_
   rintro w2 ⟨hx,hu⟩
   replace RB:=bg RB hu
   replace HP:=hid (HP.out.upd hx hu (by omega))
   replace HU:=hid (HU.out.trans hu)
   replace HZW:=hid (Nat.le_trans HZW.out hu.size)
   clear hx hu
   go_wp2_with fail
   refine (h.block HP.out (by omega)).mono ?_
   rintro e w3 (⟨x1,k1,cs1,hr,hk1,hk2,rfl,hn,hx,hu⟩ | ⟨hr,rfl,hu⟩)
   rotate_left
   ·exact⟨rfl,.inr ⟨HR.out.trans hr,rfl,HU.out.trans hu⟩⟩
   have hlt1:=got_lt hr rfl
   replace HR:=hid (HR.out.trans hr)
   have HN1:Hid (NodeAt _ (fun g=>W0.heap.size≤g) x1 cs1):=hid (hn.weak (fun g hg=>by have:=HZW.out;omega))
   have hcs1:(Tryz.prog.info? 24).map (·.size)=some cs1.size:=by rw[NodeAt.size hn];exact info_nod
   have h41:(4:Nat)=cs1.size:=(NodeAt.size hn).symm
   have hone1:=NodeAt.one hn
   have HCS1:=hid hcs1
   have H41:=hid h41
   have HONE1:=hid hone1
   replace RB:=bg RB hu
   replace HP:=hid (HP.out.upd hx hu (by omega))
   replace HU:=hid (HU.out.trans hu)
   replace HZW:=hid (Nat.le_trans HZW.out hu.size)
   clear hr hn hx hu hcs1 h41 hone1
   have hle1:=HP.out.kle
   obtain⟨v1,hlit,hvo⟩:=NodeAt.lit HN1.out
   rw[hlit] at HN1 HCS1 H41 HONE1 ⊢
   have HVO1:=hid hvo
   clear hlit hvo
   go_upto_region 4 with (refine wpList_store_box rfl 24 (.tmp 7) (.tmp 29) rfl w3.heap.size #[.int .i64 x1.kind,.int .i64 x1.num,.string (byt x1.text),v1] rfl rfl 24 _ (Box.new w3 _ _) HCS1.out H41.out HONE1.out ?_;intro w4 hx hv hz;have HZ1:=hid hz;clear hz)
   have hb:Below w3.heap.size w3 w4:=((Below.refl _ w3).alloc (Nat.le_refl _) _).trans (hv.own (Nat.le_refl _) (by simp))
   have EB1:=hid hx
   have hzE1:=Nat.lt_of_lt_of_le HZ.out HZW.out
   replace RB:=bl RB hb
   replace HN1:=hid (HN1.out.below hb)
   replace HP:=hid (HP.out.below hb)
   replace HU:=hid (HU.out.step hb)
   replace HZW:=hid (Nat.le_trans HZW.out hb.size)
   clear hx hv hb
   have c2:=HP.out.box.cell 2
   have c3:=HP.out.box.cell 3
   have f2:=HP.out.box.frozen 2
   have f3:=HP.out.box.frozen 3
   simp[pc] at c2 c3
   go_upto_region 5 with fail
   clear c2 c3 f2 f3
   refine gen_world (F:=fun W=>Box W b 108 (pc (.slice A ts.length c) (k1) true lp)∧Upd w4 W b) ⟨(HP.out.box.set 2 (.bool true)).set 3 (.bool lp),((Upd.refl _ b).set (.inl rfl) _).set (.inl rfl) _⟩ ?_
   rintro w5 ⟨hx,hu⟩
   replace RB:=bg RB hu
   replace EB1:=bg EB1 hu
   replace HN1:=hid (HN1.out.upd hu (fun g hg=>by first | omega | (simp only at hg;omega)))
   replace HP:=hid (HP.out.upd hx hu (by omega))
   replace HU:=hid (HU.out.trans hu)
   replace HZW:=hid (Nat.le_trans HZW.out hu.size)
   clear hx hu
   have eb1:=EB1.out
   go_wp2_with (first | (refine wpList_load_row rfl 24 (.tmp 7) rfl w3.heap.size rfl _ #[.int .i64 x1.kind,.int .i64 x1.num,.string (byt x1.text),v1] (0,0) _ eb1 Tryz.underlying24 rfl HCS1.out ?_) | (refine wpList_store_box rfl 24 (.tmp 4) (.tmp 38) rfl w.heap.size #[.int .i64 x1.kind,.int .i64 x1.num,.string (byt x1.text),v1] rfl rfl 24 _ RB.out HCS1.out H41.out HONE1.out ?_;intro wz hxz huz hzz;have HZZ:=hid hzz;clear hzz))
   refine bodyPost_ret (results_box rfl _ _ w.heap.size 24 _ _ rfl hxz Tryz.underlying24 rfl HCS1.out) rfl ?_
   exact .inl ⟨x1,k1, #[.int .i64 x1.kind,.int .i64 x1.num,.string (byt x1.text),v1],HR.out,by omega,HP.out.kle,rfl,(HN1.out.upd huz (fun g hg=>by first | omega | (simp only at hg;omega))).weak (fun g hg=>by first | omega | (simp only at hg;omega)),Box.grown HP.out.box huz (by intro h;injection h with h;omega),Upd.fresh HU.out huz (Nat.le_refl _)⟩
  | true=>
   go_quiet (fail)
   obtain⟨W1,hW1⟩:∃W1,W0.drewN nq=W1:=⟨_,rfl⟩
   have hb:Below W0.heap.size W0 W1:=hW1 ▸ below_drewN (Below.refl _ W0) nq
   rw[hW1]
   clear hW1 c2 c3
   replace RB:=bl RB hb
   replace HP:=hid (HP.out.below hb)
   replace HU:=hid (HU.out.step hb)
   replace HZW:=hid (Nat.le_trans HZW.out hb.size)
   clear hb
   have c2:=HP.out.box.cell 2
   have c3:=HP.out.box.cell 3
   have f2:=HP.out.box.frozen 2
   have f3:=HP.out.box.frozen 3
   simp[pc] at c2 c3
   go_upto_region 3 with fail
   clear c2 c3 f2 f3
   refine gen_world (F:=fun W=>Box W b 108 (pc (.slice A ts.length c) (k) true false)∧Upd W1 W b) ⟨(HP.out.box.set 2 (.bool true)).set 3 (.bool false),((Upd.refl _ b).set (.inl rfl) _).set (.inl rfl) _⟩ ?_
   rintro w2 ⟨hx,hu⟩
   replace RB:=bg RB hu
   replace HP:=hid (HP.out.upd hx hu (by omega))
   replace HU:=hid (HU.out.trans hu)
   replace HZW:=hid (Nat.le_trans HZW.out hu.size)
   clear hx hu
   go_wp2_with fail
   refine (h.block HP.out (by omega)).mono ?_
   rintro e w3 (⟨x1,k1,cs1,hr,hk1,hk2,rfl,hn,hx,hu⟩ | ⟨hr,rfl,hu⟩)
   rotate_left
   ·exact⟨rfl,.inr ⟨HR.out.trans hr,rfl,HU.out.trans hu⟩⟩
   have hlt1:=got_lt hr rfl
   replace HR:=hid (HR.out.trans hr)
   have HN1:Hid (NodeAt _ (fun g=>W0.heap.size≤g) x1 cs1):=hid (hn.weak (fun g hg=>by have:=HZW.out;omega))
   have hcs1:(Tryz.prog.info? 24).map (·.size)=some cs1.size:=by rw[NodeAt.size hn];exact info_nod
   have h41:(4:Nat)=cs1.size:=(NodeAt.size hn).symm
   have hone1:=NodeAt.one hn
   have HCS1:=hid hcs1
   have H41:=hid h41
   have HONE1:=hid hone1
   replace RB:=bg RB hu
   replace HP:=hid (HP.out.upd hx hu (by omega))
   replace HU:=hid (HU.out.trans hu)
   replace HZW:=hid (Nat.le_trans HZW.out hu.size)
   clear hr hn hx hu hcs1 h41 hone1
   have hle1:=HP.out.kle
   obtain⟨v1,hlit,hvo⟩:=NodeAt.lit HN1.out
   rw[hlit] at HN1 HCS1 H41 HONE1 ⊢
   have HVO1:=hid hvo
   clear hlit hvo
   go_upto_region 4 with (refine wpList_store_box rfl 24 (.tmp 7) (.tmp 29) rfl w3.heap.size #[.int .i64 x1.kind,.int .i64 x1.num,.string (byt x1.text),v1] rfl rfl 24 _ (Box.new w3 _ _) HCS1.out H41.out HONE1.out ?_;intro w4 hx hv hz;have HZ1:=hid hz;clear hz)
   have hb:Below w3.heap.size w3 w4:=((Below.refl _ w3).alloc (Nat.le_refl _) _).trans (hv.own (Nat.le_refl _) (by simp))
   have EB1:=hid hx
   have hzE1:=Nat.lt_of_lt_of_le HZ.out HZW.out
   replace RB:=bl RB hb
   replace HN1:=hid (HN1.out.below hb)
   replace HP:=hid (HP.out.below hb)
   replace HU:=hid (HU.out.step hb)
   replace HZW:=hid (Nat.le_trans HZW.out hb.size)
   clear hx hv hb
   have c2:=HP.out.box.cell 2
   have c3:=HP.out.box.cell 3
   have f2:=HP.out.box.frozen 2
   have f3:=HP.out.box.frozen 3
   simp[pc] at c2 c3
   go_upto_region 5 with fail
   clear c2 c3 f2 f3
   refine gen_world (F:=fun W=>Box W b 108 (pc (.slice A ts.length c) (k1) true lp)∧Upd w4 W b) ⟨(HP.out.box.set 2 (.bool true)).set 3 (.bool lp),((Upd.refl _ b).set (.inl rfl) _).set (.inl rfl) _⟩ ?_
   rintro w5 ⟨hx,hu⟩
   replace RB:=bg RB hu
   replace EB1:=bg EB1 hu
   replace HN1:=hid (HN1.out.upd hu (fun g hg=>by first | omega | (simp only at hg;omega)))
   replace HP:=hid (HP.out.upd hx hu (by omega))
   replace HU:=hid (HU.out.trans hu)
   replace HZW:=hid (Nat.le_trans HZW.out hu.size)
   clear hx hu
   have eb1:=EB1.out
   go_wp2_with (first | (refine wpList_load_row rfl 24 (.tmp 7) rfl w3.heap.size rfl _ #[.int .i64 x1.kind,.int .i64 x1.num,.string (byt x1.text),v1] (0,0) _ eb1 Tryz.underlying24 rfl HCS1.out ?_) | (refine wpList_store_box rfl 24 (.tmp 4) (.tmp 38) rfl w.heap.size #[.int .i64 x1.kind,.int .i64 x1.num,.string (byt x1.text),v1] rfl rfl 24 _ RB.out HCS1.out H41.out HONE1.out ?_;intro wz hxz huz hzz;have HZZ:=hid hzz;clear hzz))
   refine bodyPost_ret (results_box rfl _ _ w.heap.size 24 _ _ rfl hxz Tryz.underlying24 rfl HCS1.out) rfl ?_
   exact .inl ⟨x1,k1, #[.int .i64 x1.kind,.int .i64 x1.num,.string (byt x1.text),v1],HR.out,by omega,HP.out.kle,rfl,(HN1.out.upd huz (fun g hg=>by first | omega | (simp only at hg;omega))).weak (fun g hg=>by first | omega | (simp only at hg;omega)),Box.grown HP.out.box huz (by intro h;injection h with h;omega),Upd.fresh HU.out huz (Nat.le_refl _)⟩
end Go.Proofs.YtflmjbmdmoifhaaGreatDoor
namespace Go.Proofs.YtflmjbmdmoifhaaGreatDoor
open Go.Lib (hid)
open Go.RowKit
set_option maxRecDepth 100000 in
set_option maxHeartbeats 4000000 in
theorem tries_step {n:Nat} (h:All n):∀{w:World} {b:Nat} {ts:List KT} {A:Option Addr} {c k:Nat} {fn lp:Bool},PSt w b ts A c k fn lp→20 * (ts.length - k)+2<n+1→Calls Tryz.prog 84 #[.pointer (some ⟨b,0,none⟩)] w (Got w b ts A c k fn lp (Pars.run (n+1) .tries fn lp (left ts k))):=by
 intro w b ts A c k fn lp hP hm
 obtain⟨i0,hi0,hi1,hi2,hi3⟩:=info_parts parts_nod
 have HAB:=hid hP.old
 have HR:Hid (Pars.run (n+1) .tries fn lp (left ts k)=_):=hid (by rw[Pars.run])
 have hbl:=hP.box.lt
 have hle:=hP.kle
 go_enter Tryz.func84,Tryz.ntmps84
 go_upto_region 1 with fail
 refine gen_world (F:=fun W=>Box W w.heap.size 24 #[.int .i64 0,.int .i64 0,.string ⟨#[]⟩,.slice none 0 0]∧Below w.heap.size w W) ⟨Box.new w _ _,below1 w _⟩ ?_
 rintro W0 ⟨r0,hU⟩
 have RB:=hid r0
 have HP:=hid (hP.below hU)
 have HU:Hid (Upd w W0 b):=hid (Upd.below hU b)
 have HZ:Hid (w.heap.size<W0.heap.size):=hid r0.lt
 have hz0:=r0.lt
 have HZW:Hid (W0.heap.size≤W0.heap.size):=hid (Nat.le_refl _)
 clear r0 hU hP
 go_wp2_with fail
 refine (h.block HP.out (by omega)).mono ?_
 rintro e w1 (⟨x1,k1,cs1,hr,hk1,hk2,rfl,hn,hx,hu⟩ | ⟨hr,rfl,hu⟩)
 rotate_left
 ·exact⟨rfl,.inr ⟨HR.out.trans (Pars.and_no hr),rfl,HU.out.trans hu⟩⟩
 have hlt1:=got_lt hr rfl
 replace HR:=hid (HR.out.trans (Pars.and_some hr))
 have HN1:Hid (NodeAt _ (fun g=>W0.heap.size≤g) x1 cs1):=hid (hn.weak (fun g hg=>by have:=HZW.out;omega))
 have hcs1:(Tryz.prog.info? 24).map (·.size)=some cs1.size:=by rw[NodeAt.size hn];exact info_nod
 have h41:(4:Nat)=cs1.size:=(NodeAt.size hn).symm
 have hone1:=NodeAt.one hn
 have HCS1:=hid hcs1
 have H41:=hid h41
 have HONE1:=hid hone1
 replace RB:=bg RB hu
 replace HP:=hid (HP.out.upd hx hu (by omega))
 replace HU:=hid (HU.out.trans hu)
 replace HZW:=hid (Nat.le_trans HZW.out hu.size)
 clear hr hn hx hu hcs1 h41 hone1
 have hle1:=HP.out.kle
 obtain⟨v1,hlit,hvo⟩:=NodeAt.lit HN1.out
 rw[hlit] at HN1 HCS1 H41 HONE1 ⊢
 have HVO1:=hid hvo
 clear hlit hvo
 have hoz:W0.heap.size≤w1.heap.size:=HZW.out
 have hb1:Below w1.heap.size w1 (w1.alloc (.cells #[.int .i64 x1.kind,.int .i64 x1.num,.string (byt x1.text),v1] 24)):=below1 w1 _
 have HNB:Hid (Box ((w1.alloc (.cells #[.int .i64 x1.kind,.int .i64 x1.num,.string (byt x1.text),v1] 24)).alloc (.cells #[.int .i64 0,.int .i64 0,.string ⟨#[]⟩,.slice none 0 0] 24)) (w1.heap.size+1) 24 #[.int .i64 0,.int .i64 0,.string ⟨#[]⟩,.slice none 0 0]):=hid (by have:=Box.new (w1.alloc (.cells #[.int .i64 x1.kind,.int .i64 x1.num,.string (byt x1.text),v1] 24)) 24 #[.int .i64 0,.int .i64 0,.string ⟨#[]⟩,.slice none 0 0];simpa using this)
 have HKB:Hid (Box ((w1.alloc (.cells #[.int .i64 x1.kind,.int .i64 x1.num,.string (byt x1.text),v1] 24)).alloc (.cells #[.int .i64 0,.int .i64 0,.string ⟨#[]⟩,.slice none 0 0] 24)) w1.heap.size 24 #[.int .i64 x1.kind,.int .i64 x1.num,.string (byt x1.text),v1]):=hid ((Box.new w1 _ _).alloc _)
 have HBB:Hid (Below w1.heap.size w1 ((w1.alloc (.cells #[.int .i64 x1.kind,.int .i64 x1.num,.string (byt x1.text),v1] 24)).alloc (.cells #[.int .i64 0,.int .i64 0,.string ⟨#[]⟩,.slice none 0 0] 24))):=hid (hb1.alloc (by simp) _)
 clear hb1
 go_upto_region 2 with (refine wpList_store_box rfl 24 (.tmp 3) (.tmp 7) rfl (w1.heap.size+1) #[.int .i64 29,.int .i64 0,.string ⟨#[]⟩,.slice (some ⟨w1.heap.size,0,none⟩) 1 1] rfl rfl 24 _ HNB.out info_nod rfl (nz_one _ _ _ _ _ _) ?_;intro w3 hx hv hz;have HZ3:=hid hz;clear hz)
 have hb:Below w1.heap.size w1 w3:=HBB.out.trans (hv.own (by omega) HBB.out.size)
 have hkb:=Box.grown HKB.out hv (by intro h;injection h with h;omega)
 have OB:=hid hx
 have hk1:NodeAt w3 (fun g=>W0.heap.size≤g∧g≠w1.heap.size+1∧(Value.slice (some ⟨w1.heap.size,0,none⟩) 1 1).ownBlock≠some g) x1 #[.int .i64 x1.kind,.int .i64 x1.num,.string (byt x1.text),v1]:=NodeAt.keep (fun g hs hg=>⟨hs,by omega,by simp only[Value.ownBlock];intro e;injection e with e;omega⟩) hb.size (fun g _ hg=>hb.block g hg) HN1.out
 have KOF:Hid (KO w3 W0.heap.size (w1.heap.size+1) [x1] (Value.slice (some ⟨w1.heap.size,0,none⟩) 1 1)):=hid ⟨by simp only[Value.ownBlock];intro e;injection e with e;omega,[#[.int .i64 x1.kind,.int .i64 x1.num,.string (byt x1.text),v1]],box_own (cur:=flatA [#[.int .i64 x1.kind,.int .i64 x1.num,.string (byt x1.text),v1]]) hoz hkb (Nat.le_refl _) (by decide) rfl rfl rfl,⟨hk1,trivial⟩⟩
 have hoz2:W0.heap.size≤w1.heap.size+1:=by omega
 have hoz3:w.heap.size<w1.heap.size+1:=by omega
 replace RB:=bl RB hb
 replace HP:=hid (HP.out.below hb)
 replace HU:=hid (HU.out.step hb)
 replace HZW:=hid (Nat.le_trans HZW.out hb.size)
 clear hx hv hb hkb hk1 HNB HKB HBB HZ3
 obtain⟨oa,hoa⟩:∃oa,w1.heap.size+1=oa:=⟨_,rfl⟩
 obtain⟨kv,hkv⟩:∃kv,Value.slice (some ⟨w1.heap.size,0,none⟩) 1 1=kv:=⟨_,rfl⟩
 rw[hkv,hoa] at OB KOF
 rw[hoa] at hoz2 hoz3 ⊢
 clear hoa hkv
 go_wp2_with fail
 refine (is_any Pars.wCatch _ b ts A c (k1) fn lp HP.out).mono ?_
 rintro e w2 (⟨hi,hk,rfl,hx,hu⟩ | ⟨hi,rfl,hx,hu⟩)
 ·replace HR:=hid (HR.out.trans (Pars.alt_some hi))
  replace RB:=bg RB hu
  replace OB:=bg OB hu
  replace KOF:=hid (KOF.out.upd hu (by omega))
  replace HP:=hid (HP.out.upd hx hu (by omega))
  replace HU:=hid (HU.out.trans hu)
  replace HZW:=hid (Nat.le_trans HZW.out hu.size)
  clear hi hx hu
  have hle2:=HP.out.kle
  go_wp2_with fail
  refine (must_any [40] _ b ts A c (k1+1) fn lp HP.out).mono ?_
  rintro e w3 (⟨hi,hk,rfl,hx,hu⟩ | ⟨hi,rfl,hu⟩)
  rotate_left
  ·exact⟨rfl,.inr ⟨HR.out.trans (Pars.must_no hi),rfl,HU.out.trans hu⟩⟩
  replace HR:=hid (HR.out.trans (Pars.must_some hi))
  replace RB:=bg RB hu
  replace OB:=bg OB hu
  replace KOF:=hid (KOF.out.upd hu (by omega))
  replace HP:=hid (HP.out.upd hx hu (by omega))
  replace HU:=hid (HU.out.trans hu)
  replace HZW:=hid (Nat.le_trans HZW.out hu.size)
  clear hi hx hu
  have hle3:=HP.out.kle
  go_wp2_with fail
  refine (name_any _ b ts A c (k1+1+1) fn lp HP.out).mono ?_
  rintro e w4 (⟨tn,htn,hk1,hk,rfl,hx,hu⟩ | ⟨hi,rfl,hu⟩)
  rotate_left
  ·exact⟨rfl,.inr ⟨HR.out.trans (named_no hi),rfl,HU.out.trans hu⟩⟩
  replace HR:=hid (HR.out.trans (named_at htn hk1))
  obtain⟨nm,hnm⟩:∃q,tn.1.text=q:=⟨_,rfl⟩
  rw[hnm] at HR ⊢
  replace RB:=bg RB hu
  replace OB:=bg OB hu
  replace KOF:=hid (KOF.out.upd hu (by omega))
  replace HP:=hid (HP.out.upd hx hu (by omega))
  replace HU:=hid (HU.out.trans hu)
  replace HZW:=hid (Nat.le_trans HZW.out hu.size)
  clear htn hk1 hx hu hnm
  have hle4:=HP.out.kle
  have f1:w4.frozen? ⟨oa,1,none⟩=false:=OB.out.frozen 1
  have f2:w4.frozen? ⟨oa,2,none⟩=false:=OB.out.frozen 2
  have o1:=OB.out.cell 1
  have o2:=OB.out.cell 2
  simp at o1 o2
  go_upto_region 5 with fail
  clear f1 f2 o1 o2
  have hu8:Upd w4 (w4.setCell ⟨oa,2,none⟩ (.string (byt nm))) oa:=(Upd.refl _ _).set (.inl rfl) _
  have OB8:=OB.out.set 2 (.string (byt nm))
  obtain⟨w4a,hwz⟩:∃wz,(w4.setCell ⟨oa,2,none⟩ (.string (byt nm)))=wz:=⟨_,rfl⟩
  rw[hwz] at hu8 OB8
  rw[hwz]
  clear hwz
  simp at OB8
  replace OB:=hid OB8
  replace KOF:=hid (KOF.out.self hu8)
  replace RB:=bg RB hu8
  have hbo:Below w.heap.size w4 w4a:=hu8.own (by omega) (by have:=HU.out.size;omega)
  replace HP:=hid (HP.out.belowB hbo (by omega) (fun hn g o e=>HAB.out hn g o e))
  replace HU:=hid (HU.out.belowB hbo (Nat.le_refl _))
  replace HZW:=hid (Nat.le_trans HZW.out hu8.size)
  clear hu8 OB8 hbo
  have hu8:Upd w4a (w4a.setCell ⟨oa,1,none⟩ (.int .i64 1)) oa:=(Upd.refl _ _).set (.inl rfl) _
  have OB8:=OB.out.set 1 (.int .i64 1)
  obtain⟨w4b,hwz⟩:∃wz,(w4a.setCell ⟨oa,1,none⟩ (.int .i64 1))=wz:=⟨_,rfl⟩
  rw[hwz] at hu8 OB8
  rw[hwz]
  clear hwz
  simp at OB8
  replace OB:=hid OB8
  replace KOF:=hid (KOF.out.self hu8)
  replace RB:=bg RB hu8
  have hbo:Below w.heap.size w4a w4b:=hu8.own (by omega) (by have:=HU.out.size;omega)
  replace HP:=hid (HP.out.belowB hbo (by omega) (fun hn g o e=>HAB.out hn g o e))
  replace HU:=hid (HU.out.belowB hbo (Nat.le_refl _))
  replace HZW:=hid (Nat.le_trans HZW.out hu8.size)
  clear hu8 OB8 hbo
  go_wp2_with fail
  refine (must_any [41] _ b ts A c (k1+1+1+1) fn lp HP.out).mono ?_
  rintro e w5 (⟨hi,hk,rfl,hx,hu⟩ | ⟨hi,rfl,hu⟩)
  rotate_left
  ·exact⟨rfl,.inr ⟨HR.out.trans (Pars.must_no hi),rfl,HU.out.trans hu⟩⟩
  replace HR:=hid (HR.out.trans (Pars.must_some hi))
  replace RB:=bg RB hu
  replace OB:=bg OB hu
  replace KOF:=hid (KOF.out.upd hu (by omega))
  replace HP:=hid (HP.out.upd hx hu (by omega))
  replace HU:=hid (HU.out.trans hu)
  replace HZW:=hid (Nat.le_trans HZW.out hu.size)
  clear hi hx hu
  have hle5:=HP.out.kle
  go_upto_region 6 with fail
  refine wp_region_until 5 (fun w'=>Box w' (oa) 24 #[.int .i64 29,.int .i64 1,.string (byt nm),kv]) (by kernel_rfl) OB.out.drew (fun hHeld=> ?_)
  obtain⟨wd_2,hwd⟩:∃wd_2,w5.drew=wd_2:=⟨_,rfl⟩
  have hb:Below w5.heap.size w5 wd_2:=hwd ▸ (Below.refl _ w5).drew
  (try rw[hwd] at hHeld)
  (try rw[hwd])
  clear hwd hHeld
  replace RB:=bl RB hb
  replace OB:=bl OB hb
  replace KOF:=hid (KOF.out.below hb)
  replace HP:=hid (HP.out.below hb)
  replace HU:=hid (HU.out.step hb)
  replace HZW:=hid (Nat.le_trans HZW.out hb.size)
  clear hb
  refine tU (i:=0) (v:= ?_) rfl ?_ (.inr OB.out) ?_
  rotate_left
  ·intro w hSw
   go_simp
   try (with_reducible rfl)
  (try simp only[Act.put,sq])
  refine tU (i:=2) (v:= ?_) rfl ?_ (.inr OB.out) ?_
  rotate_left
  ·intro w hSw
   go_simp
   try (with_reducible rfl)
  (try simp only[Act.put,sq])
  refine tV (i:=1) (v:=kv) rfl ?_ OB.out ?_
  ·intro w hSw
   have c3:=hSw.cell 3
   simp at c3
   go_simp
  (try simp only[Act.put,sq])
  refine rdU 3 rfl fun K hK=> ?_
  go_simp
  refine (h.block HP.out (by omega)).mono ?_
  rintro e wc_2 (⟨x2,k2,cs2,hr,hk1,hk2,rfl,hn,hx,hu⟩ | ⟨hr,rfl,hu⟩)
  rotate_left
  ·exact⟨rfl,.inr ⟨HR.out.trans (Pars.and_no hr),rfl,HU.out.trans hu⟩⟩
  have hlt2:=got_lt hr rfl
  replace HR:=hid (HR.out.trans (Pars.and_some hr))
  have hrl:=KOF.out.row
  have HN2:Hid (NodeAt wc_2 (fun g=>W0.heap.size≤g∧g≠oa∧(kv).ownBlock≠some g) x2 cs2):=hid (hn.weak (fun g hg=>⟨by have:=HZW.out;omega,by have:=OB.out.lt;omega,fun e=>by obtain⟨_,ho,_⟩:=hrl;have:=(ho.lt g e).2;omega⟩))
  clear hrl
  replace RB:=bg RB hu
  replace OB:=bg OB hu
  replace KOF:=hid (KOF.out.upd hu (by omega))
  replace HP:=hid (HP.out.upd hx hu (by omega))
  replace HU:=hid (HU.out.trans hu)
  replace HZW:=hid (Nat.le_trans HZW.out hu.size)
  clear hr hn hx hu
  obtain⟨v2,hlit,hvo⟩:=NodeAt.lit HN2.out
  rw[hlit] at HN2 ⊢
  have HVO2:=hid hvo
  clear hlit hvo
  go_wp2_with fail
  refine hK.out _ _ (.inr OB.out) (fun hHeld=> ?_)
  clear hK hHeld K
  (try simp only[Act.put,sq])
  refine rdU 4 rfl fun K hK=> ?_
  go_simp
  have bxB:=Box.new wc_2 24 #[.int .i64 x2.kind,.int .i64 x2.num,.string (byt x2.text),v2]
  have hb:Below wc_2.heap.size wc_2 (wc_2.alloc (.cells #[.int .i64 x2.kind,.int .i64 x2.num,.string (byt x2.text),v2] 24)):=below1 wc_2 _
  obtain⟨wb_2,hwb⟩:∃wb_2,(wc_2.alloc (.cells #[.int .i64 x2.kind,.int .i64 x2.num,.string (byt x2.text),v2] 24))=wb_2:=⟨_,rfl⟩
  rw[hwb] at bxB hb
  rw[hwb]
  clear hwb
  have BXB:=hid bxB
  have HBA:Hid (wc_2.heap.size<wb_2.heap.size):=hid bxB.lt
  replace RB:=bl RB hb
  replace OB:=bl OB hb
  replace KOF:=hid (KOF.out.below hb)
  replace HP:=hid (HP.out.below hb)
  replace HU:=hid (HU.out.step hb)
  replace HZW:=hid (Nat.le_trans HZW.out hb.size)
  replace HN2:=hid (HN2.out.below hb)
  refine hK.out _ _ (.inr OB.out) (fun hHeld=> ?_)
  clear hK hHeld K
  (try simp only[Act.put,sq])
  clear hb bxB
  refine rdU 5 rfl fun K hK=> ?_
  obtain⟨css,hrow,hkn⟩:=KOF.out.row
  have hll:1≤1000:=by simp
  refine step_append_lies _ rfl (.tmp 19) (.tmp 22) 22 rfl W0.heap.size 24 i0 _ 4 56 Tryz.underlying22 hi0 hi1 hi2 hi3 rfl (by decide) (kv) 1 (flatA css) (by simp[Act.eval,Act.put]) hrow ⟨wc_2.heap.size,0,none⟩ 1 1 [.int .i64 x2.kind,.int .i64 x2.num,.string (byt x2.text),v2] (by simp[Act.eval,Act.put]) rfl (by exact World.news_of_block BXB.out) (by have hv:=HVO2.out;intro u hu;simp only[List.mem_cons,List.not_mem_nil,or_false] at hu;rcases hu with rfl | rfl | rfl | rfl;rfl;rfl;rfl;exact hv) (by omega) (by unfold maxLen;omega) (by omega) HZW.out wb_2.heap.size rfl ?_
  intro g7_2 cap7_2 w7_2 hown7 hgr7 hor7 hlt7
  have hbB:Below W0.heap.size wb_2 w7_2:=below_grown hgr7 HZW.out (fun q hq=>(hrow.lt q hq).1)
  have hob:=OB.out.lt
  have KO7:KO w7_2 W0.heap.size (oa) ([x1]++[x2]) (Value.slice (some ⟨g7_2,0,none⟩) 2 cap7_2):=KOF.out.snoc css hrow hkn HN2.out hown7 hgr7 hor7 hob
  replace OB:=hid (Box.grown OB.out hgr7 (fun e=>KOF.out.ne e.symm))
  replace RB:=hid ((hbB.block _ (by omega)).trans RB.out)
  replace HP:=hid (HP.out.belowB hbB (by omega) (fun hn g o e=>by have:=HAB.out hn g o e;omega))
  replace HU:=hid (HU.out.belowB hbB (by omega))
  replace HZW:=hid (Nat.le_trans HZW.out hbB.size)
  have KOG:=hid KO7
  refine hK.out _ _ (.inl rfl) (fun hHeld=> ?_)
  clear hK hHeld K
  (try simp only[Act.put,sq])
  clear hown7 hgr7 hor7 hlt7 hbB hrow hkn KO7 hob
  refine rdU 6 rfl fun K hK=> ?_
  go_simp
  refine hK.out _ _ (.inl rfl) (fun hHeld=> ?_)
  clear hK hHeld K
  (try simp only[Act.put,sq])
  refine rdU 7 rfl fun K hK=> ?_
  have c3:=OB.out.cell 3
  have f3:w7_2.frozen? ⟨oa,3,none⟩=false:=OB.out.frozen 3
  simp at c3
  go_simp
  have hu8:Upd w7_2 (w7_2.setCell ⟨oa,3,none⟩ (Value.slice (some ⟨g7_2,0,none⟩) 2 cap7_2)) (oa):=(Upd.refl _ _).set (.inl rfl) _
  have OB8:=OB.out.set 3 (Value.slice (some ⟨g7_2,0,none⟩) 2 cap7_2)
  obtain⟨wz_2,hwz⟩:∃wz_2,(w7_2.setCell ⟨oa,3,none⟩ (Value.slice (some ⟨g7_2,0,none⟩) 2 cap7_2))=wz_2:=⟨_,rfl⟩
  rw[hwz] at hu8 OB8
  rw[hwz]
  clear hwz
  simp at OB8
  replace OB:=hid OB8
  replace KOF:=hid (KOG.out.self hu8)
  replace RB:=bg RB hu8
  have hbo:Below w.heap.size w7_2 wz_2:=hu8.own (by omega) (by have:=HU.out.size;omega)
  replace HP:=hid (HP.out.belowB hbo (by omega) (fun hn g o e=>HAB.out hn g o e))
  replace HU:=hid (HU.out.belowB hbo (Nat.le_refl _))
  replace HZW:=hid (Nat.le_trans HZW.out hu8.size)
  refine hK.out _ _ (.inl rfl) (fun hHeld=> ?_)
  clear hK hHeld K
  (try simp only[Act.put,sq])
  clear hu8 OB8 hbo KOG BXB HBA c3 f3
  refine wpAnyU_done (by kernel_rfl) ?_ _
  have hle6:=HP.out.kle
  go_wp2_with fail
  refine (is_any Pars.wFinally _ b ts A c (k2) fn lp HP.out).mono ?_
  rintro e w6 (⟨hi,hk,rfl,hx,hu⟩ | ⟨hi,rfl,hx,hu⟩)
  ·replace HR:=hid (HR.out.trans (Pars.alt_some hi))
   replace RB:=bg RB hu
   replace OB:=bg OB hu
   replace KOF:=hid (KOF.out.upd hu (by omega))
   replace HP:=hid (HP.out.upd hx hu (by omega))
   replace HU:=hid (HU.out.trans hu)
   replace HZW:=hid (Nat.le_trans HZW.out hu.size)
   clear hi hx hu
   have o1:=OB.out.cell 1
   have f1:w6.frozen? ⟨oa,1,none⟩=false:=OB.out.frozen 1
   simp at o1
   go_upto_region 9 with fail
   clear o1 f1
   change Code.wp _ _ _ _ (w6.setCell ⟨oa,1,none⟩ (.int .i64 3))
   have hu8:Upd w6 (w6.setCell ⟨oa,1,none⟩ (.int .i64 3)) oa:=(Upd.refl _ _).set (.inl rfl) _
   have OB8:=OB.out.set 1 (.int .i64 3)
   obtain⟨v6q,hwz⟩:∃wz,(w6.setCell ⟨oa,1,none⟩ (.int .i64 3))=wz:=⟨_,rfl⟩
   rw[hwz] at hu8 OB8
   rw[hwz]
   clear hwz
   simp at OB8
   replace OB:=hid OB8
   replace KOF:=hid (KOF.out.self hu8)
   replace RB:=bg RB hu8
   have hbo:Below w.heap.size w6 v6q:=hu8.own (by omega) (by have:=HU.out.size;omega)
   replace HP:=hid (HP.out.belowB hbo (by omega) (fun hn g o e=>HAB.out hn g o e))
   replace HU:=hid (HU.out.belowB hbo (Nat.le_refl _))
   replace HZW:=hid (Nat.le_trans HZW.out hu8.size)
   clear hu8 OB8 hbo
   have hle8:=HP.out.kle
   refine wp_region_until 5 (fun w'=>Box w' (oa) 24 #[.int .i64 29,.int .i64 3,.string (byt nm),Value.slice (some ⟨g7_2,0,none⟩) 2 cap7_2]) (by kernel_rfl) OB.out.drew (fun hHeld=> ?_)
   obtain⟨wd_9,hwd⟩:∃wd_9,v6q.drew=wd_9:=⟨_,rfl⟩
   have hb:Below v6q.heap.size v6q wd_9:=hwd ▸ (Below.refl _ v6q).drew
   (try rw[hwd] at hHeld)
   (try rw[hwd])
   clear hwd hHeld
   replace RB:=bl RB hb
   replace OB:=bl OB hb
   replace KOF:=hid (KOF.out.below hb)
   replace HP:=hid (HP.out.below hb)
   replace HU:=hid (HU.out.step hb)
   replace HZW:=hid (Nat.le_trans HZW.out hb.size)
   clear hb
   refine tU (i:=0) (v:= ?_) rfl ?_ (.inr OB.out) ?_
   rotate_left
   ·intro w hSw
    go_simp
    try (with_reducible rfl)
   (try simp only[Act.put,sq])
   refine tU (i:=2) (v:= ?_) rfl ?_ (.inr OB.out) ?_
   rotate_left
   ·intro w hSw
    go_simp
    try (with_reducible rfl)
   (try simp only[Act.put,sq])
   refine tV (i:=1) (v:=Value.slice (some ⟨g7_2,0,none⟩) 2 cap7_2) rfl ?_ OB.out ?_
   ·intro w hSw
    have c3:=hSw.cell 3
    simp at c3
    go_simp
   (try simp only[Act.put,sq])
   refine rdU 3 rfl fun K hK=> ?_
   go_simp
   refine (h.block HP.out (by omega)).mono ?_
   rintro e wc_9 (⟨x9,k9,cs9,hr,hk1,hk2,rfl,hn,hx,hu⟩ | ⟨hr,rfl,hu⟩)
   rotate_left
   ·exact⟨rfl,.inr ⟨HR.out.trans (Pars.and_no hr),rfl,HU.out.trans hu⟩⟩
   have hlt9:=got_lt hr rfl
   replace HR:=hid (HR.out.trans (Pars.and_some hr))
   have hrl:=KOF.out.row
   have HN9:Hid (NodeAt wc_9 (fun g=>W0.heap.size≤g∧g≠oa∧(Value.slice (some ⟨g7_2,0,none⟩) 2 cap7_2).ownBlock≠some g) x9 cs9):=hid (hn.weak (fun g hg=>⟨by have:=HZW.out;omega,by have:=OB.out.lt;omega,fun e=>by obtain⟨_,ho,_⟩:=hrl;have:=(ho.lt g e).2;omega⟩))
   clear hrl
   replace RB:=bg RB hu
   replace OB:=bg OB hu
   replace KOF:=hid (KOF.out.upd hu (by omega))
   replace HP:=hid (HP.out.upd hx hu (by omega))
   replace HU:=hid (HU.out.trans hu)
   replace HZW:=hid (Nat.le_trans HZW.out hu.size)
   clear hr hn hx hu
   obtain⟨v9,hlit,hvo⟩:=NodeAt.lit HN9.out
   rw[hlit] at HN9 ⊢
   have HVO9:=hid hvo
   clear hlit hvo
   go_wp2_with fail
   refine hK.out _ _ (.inr OB.out) (fun hHeld=> ?_)
   clear hK hHeld K
   (try simp only[Act.put,sq])
   refine rdU 4 rfl fun K hK=> ?_
   go_simp
   have bxB:=Box.new wc_9 24 #[.int .i64 x9.kind,.int .i64 x9.num,.string (byt x9.text),v9]
   have hb:Below wc_9.heap.size wc_9 (wc_9.alloc (.cells #[.int .i64 x9.kind,.int .i64 x9.num,.string (byt x9.text),v9] 24)):=below1 wc_9 _
   obtain⟨wb_9,hwb⟩:∃wb_9,(wc_9.alloc (.cells #[.int .i64 x9.kind,.int .i64 x9.num,.string (byt x9.text),v9] 24))=wb_9:=⟨_,rfl⟩
   rw[hwb] at bxB hb
   rw[hwb]
   clear hwb
   have BXB:=hid bxB
   have HBA:Hid (wc_9.heap.size<wb_9.heap.size):=hid bxB.lt
   replace RB:=bl RB hb
   replace OB:=bl OB hb
   replace KOF:=hid (KOF.out.below hb)
   replace HP:=hid (HP.out.below hb)
   replace HU:=hid (HU.out.step hb)
   replace HZW:=hid (Nat.le_trans HZW.out hb.size)
   replace HN9:=hid (HN9.out.below hb)
   refine hK.out _ _ (.inr OB.out) (fun hHeld=> ?_)
   clear hK hHeld K
   (try simp only[Act.put,sq])
   clear hb bxB
   refine rdU 5 rfl fun K hK=> ?_
   obtain⟨css,hrow,hkn⟩:=KOF.out.row
   have hll:2≤1000:=by simp
   refine step_append_lies _ rfl (.tmp 32) (.tmp 35) 22 rfl W0.heap.size 24 i0 _ 4 56 Tryz.underlying22 hi0 hi1 hi2 hi3 rfl (by decide) (Value.slice (some ⟨g7_2,0,none⟩) 2 cap7_2) 2 (flatA css) (by simp[Act.eval,Act.put]) hrow ⟨wc_9.heap.size,0,none⟩ 1 1 [.int .i64 x9.kind,.int .i64 x9.num,.string (byt x9.text),v9] (by simp[Act.eval,Act.put]) rfl (by exact World.news_of_block BXB.out) (by have hv:=HVO9.out;intro u hu;simp only[List.mem_cons,List.not_mem_nil,or_false] at hu;rcases hu with rfl | rfl | rfl | rfl;rfl;rfl;rfl;exact hv) (by omega) (by unfold maxLen;omega) (by omega) HZW.out wb_9.heap.size rfl ?_
   intro g7_9 cap7_9 w7_9 hown7 hgr7 hor7 hlt7
   have hbB:Below W0.heap.size wb_9 w7_9:=below_grown hgr7 HZW.out (fun q hq=>(hrow.lt q hq).1)
   have hob:=OB.out.lt
   have KO7:KO w7_9 W0.heap.size (oa) ([x1]++[x2]++[x9]) (Value.slice (some ⟨g7_9,0,none⟩) 3 cap7_9):=KOF.out.snoc css hrow hkn HN9.out hown7 hgr7 hor7 hob
   replace OB:=hid (Box.grown OB.out hgr7 (fun e=>KOF.out.ne e.symm))
   replace RB:=hid ((hbB.block _ (by omega)).trans RB.out)
   replace HP:=hid (HP.out.belowB hbB (by omega) (fun hn g o e=>by have:=HAB.out hn g o e;omega))
   replace HU:=hid (HU.out.belowB hbB (by omega))
   replace HZW:=hid (Nat.le_trans HZW.out hbB.size)
   have KOG:=hid KO7
   refine hK.out _ _ (.inl rfl) (fun hHeld=> ?_)
   clear hK hHeld K
   (try simp only[Act.put,sq])
   clear hown7 hgr7 hor7 hlt7 hbB hrow hkn KO7 hob
   refine rdU 6 rfl fun K hK=> ?_
   go_simp
   refine hK.out _ _ (.inl rfl) (fun hHeld=> ?_)
   clear hK hHeld K
   (try simp only[Act.put,sq])
   refine rdU 7 rfl fun K hK=> ?_
   have c3:=OB.out.cell 3
   have f3:w7_9.frozen? ⟨oa,3,none⟩=false:=OB.out.frozen 3
   simp at c3
   go_simp
   have hu8:Upd w7_9 (w7_9.setCell ⟨oa,3,none⟩ (Value.slice (some ⟨g7_9,0,none⟩) 3 cap7_9)) (oa):=(Upd.refl _ _).set (.inl rfl) _
   have OB8:=OB.out.set 3 (Value.slice (some ⟨g7_9,0,none⟩) 3 cap7_9)
   obtain⟨wz_9,hwz⟩:∃wz_9,(w7_9.setCell ⟨oa,3,none⟩ (Value.slice (some ⟨g7_9,0,none⟩) 3 cap7_9))=wz_9:=⟨_,rfl⟩
   rw[hwz] at hu8 OB8
   rw[hwz]
   clear hwz
   simp at OB8
   replace OB:=hid OB8
   replace KOF:=hid (KOG.out.self hu8)
   replace RB:=bg RB hu8
   have hbo:Below w.heap.size w7_9 wz_9:=hu8.own (by omega) (by have:=HU.out.size;omega)
   replace HP:=hid (HP.out.belowB hbo (by omega) (fun hn g o e=>HAB.out hn g o e))
   replace HU:=hid (HU.out.belowB hbo (Nat.le_refl _))
   replace HZW:=hid (Nat.le_trans HZW.out hu8.size)
   refine hK.out _ _ (.inl rfl) (fun hHeld=> ?_)
   clear hK hHeld K
   (try simp only[Act.put,sq])
   clear hu8 OB8 hbo KOG BXB HBA c3 f3
   refine wpAnyU_done (by kernel_rfl) ?_ _
   have hle9:=HP.out.kle
   have o1:=OB.out.cell 1
   simp at o1
   go_upto_region 12 with fail
   clear o1
   have ob:=OB.out
   go_wp2_with (first | (refine wpList_load_row rfl 24 (.tmp 3) rfl (oa) rfl _ (nc 29 3 nm (Value.slice (some ⟨g7_9,0,none⟩) 3 cap7_9)) (0,0) _ ob Tryz.underlying24 rfl info_nod ?_) | (refine wpList_store_box rfl 24 (.tmp 2) (.tmp 43) rfl w.heap.size (nc 29 3 nm (Value.slice (some ⟨g7_9,0,none⟩) 3 cap7_9)) rfl rfl 24 _ RB.out info_nod rfl (nc_own _ _ _ KOF.out) ?_;intro wy hxz huz hzz;have HZZ:=hid hzz;clear hzz))
   refine bodyPost_ret (results_box rfl _ _ w.heap.size 24 _ _ rfl hxz Tryz.underlying24 rfl info_nod) rfl ?_
   exact .inl ⟨.mk 29 3 nm ([x1]++[x2]++[x9]),k9,_,HR.out,by omega,HP.out.kle,rfl,((KOF.out.node 29 3 nm).upd huz (fun g hg=>by have:=hg.1;omega)).weak (fun g hg=>by have:=hg.1;omega),Box.grown HP.out.box huz (by intro h;injection h with h;omega),Upd.fresh HU.out huz (Nat.le_refl _)⟩
  replace HR:=hid (HR.out.trans (Pars.alt_no hi))
  replace RB:=bg RB hu
  replace OB:=bg OB hu
  replace KOF:=hid (KOF.out.upd hu (by omega))
  replace HP:=hid (HP.out.upd hx hu (by omega))
  replace HU:=hid (HU.out.trans hu)
  replace HZW:=hid (Nat.le_trans HZW.out hu.size)
  clear hi hx hu
  have o1:=OB.out.cell 1
  simp at o1
  go_upto_region 12 with fail
  clear o1
  have ob:=OB.out
  go_wp2_with (first | (refine wpList_load_row rfl 24 (.tmp 3) rfl (oa) rfl _ (nc 29 1 nm (Value.slice (some ⟨g7_2,0,none⟩) 2 cap7_2)) (0,0) _ ob Tryz.underlying24 rfl info_nod ?_) | (refine wpList_store_box rfl 24 (.tmp 2) (.tmp 43) rfl w.heap.size (nc 29 1 nm (Value.slice (some ⟨g7_2,0,none⟩) 2 cap7_2)) rfl rfl 24 _ RB.out info_nod rfl (nc_own _ _ _ KOF.out) ?_;intro wy hxz huz hzz;have HZZ:=hid hzz;clear hzz))
  refine bodyPost_ret (results_box rfl _ _ w.heap.size 24 _ _ rfl hxz Tryz.underlying24 rfl info_nod) rfl ?_
  exact .inl ⟨.mk 29 1 nm ([x1]++[x2]),k2,_,HR.out,by omega,HP.out.kle,rfl,((KOF.out.node 29 1 nm).upd huz (fun g hg=>by have:=hg.1;omega)).weak (fun g hg=>by have:=hg.1;omega),Box.grown HP.out.box huz (by intro h;injection h with h;omega),Upd.fresh HU.out huz (Nat.le_refl _)⟩
 replace HR:=hid (HR.out.trans (Pars.alt_no hi))
 replace RB:=bg RB hu
 replace OB:=bg OB hu
 replace KOF:=hid (KOF.out.upd hu (by omega))
 replace HP:=hid (HP.out.upd hx hu (by omega))
 replace HU:=hid (HU.out.trans hu)
 replace HZW:=hid (Nat.le_trans HZW.out hu.size)
 clear hi hx hu
 go_wp2_with fail
 refine (is_any Pars.wFinally _ b ts A c (k1) fn lp HP.out).mono ?_
 rintro e w7 (⟨hi,hk,rfl,hx,hu⟩ | ⟨hi,rfl,hx,hu⟩)
 ·replace HR:=hid (HR.out.trans (Pars.alt_some hi))
  replace RB:=bg RB hu
  replace OB:=bg OB hu
  replace KOF:=hid (KOF.out.upd hu (by omega))
  replace HP:=hid (HP.out.upd hx hu (by omega))
  replace HU:=hid (HU.out.trans hu)
  replace HZW:=hid (Nat.le_trans HZW.out hu.size)
  clear hi hx hu
  have o1:=OB.out.cell 1
  have f1:w7.frozen? ⟨oa,1,none⟩=false:=OB.out.frozen 1
  simp at o1
  go_upto_region 9 with fail
  clear o1 f1
  change Code.wp _ _ _ _ (w7.setCell ⟨oa,1,none⟩ (.int .i64 2))
  have hu8:Upd w7 (w7.setCell ⟨oa,1,none⟩ (.int .i64 2)) oa:=(Upd.refl _ _).set (.inl rfl) _
  have OB8:=OB.out.set 1 (.int .i64 2)
  obtain⟨v7q,hwz⟩:∃wz,(w7.setCell ⟨oa,1,none⟩ (.int .i64 2))=wz:=⟨_,rfl⟩
  rw[hwz] at hu8 OB8
  rw[hwz]
  clear hwz
  simp at OB8
  replace OB:=hid OB8
  replace KOF:=hid (KOF.out.self hu8)
  replace RB:=bg RB hu8
  have hbo:Below w.heap.size w7 v7q:=hu8.own (by omega) (by have:=HU.out.size;omega)
  replace HP:=hid (HP.out.belowB hbo (by omega) (fun hn g o e=>HAB.out hn g o e))
  replace HU:=hid (HU.out.belowB hbo (Nat.le_refl _))
  replace HZW:=hid (Nat.le_trans HZW.out hu8.size)
  clear hu8 OB8 hbo
  have hle8:=HP.out.kle
  refine wp_region_until 5 (fun w'=>Box w' (oa) 24 #[.int .i64 29,.int .i64 2,.string ⟨#[]⟩,kv]) (by kernel_rfl) OB.out.drew (fun hHeld=> ?_)
  obtain⟨wd_9,hwd⟩:∃wd_9,v7q.drew=wd_9:=⟨_,rfl⟩
  have hb:Below v7q.heap.size v7q wd_9:=hwd ▸ (Below.refl _ v7q).drew
  (try rw[hwd] at hHeld)
  (try rw[hwd])
  clear hwd hHeld
  replace RB:=bl RB hb
  replace OB:=bl OB hb
  replace KOF:=hid (KOF.out.below hb)
  replace HP:=hid (HP.out.below hb)
  replace HU:=hid (HU.out.step hb)
  replace HZW:=hid (Nat.le_trans HZW.out hb.size)
  clear hb
  refine tU (i:=0) (v:= ?_) rfl ?_ (.inr OB.out) ?_
  rotate_left
  ·intro w hSw
   go_simp
   try (with_reducible rfl)
  (try simp only[Act.put,sq])
  refine tU (i:=2) (v:= ?_) rfl ?_ (.inr OB.out) ?_
  rotate_left
  ·intro w hSw
   go_simp
   try (with_reducible rfl)
  (try simp only[Act.put,sq])
  refine tV (i:=1) (v:=kv) rfl ?_ OB.out ?_
  ·intro w hSw
   have c3:=hSw.cell 3
   simp at c3
   go_simp
  (try simp only[Act.put,sq])
  refine rdU 3 rfl fun K hK=> ?_
  go_simp
  refine (h.block HP.out (by omega)).mono ?_
  rintro e wc_9 (⟨x9,k9,cs9,hr,hk1,hk2,rfl,hn,hx,hu⟩ | ⟨hr,rfl,hu⟩)
  rotate_left
  ·exact⟨rfl,.inr ⟨HR.out.trans (Pars.and_no hr),rfl,HU.out.trans hu⟩⟩
  have hlt9:=got_lt hr rfl
  replace HR:=hid (HR.out.trans (Pars.and_some hr))
  have hrl:=KOF.out.row
  have HN9:Hid (NodeAt wc_9 (fun g=>W0.heap.size≤g∧g≠oa∧(kv).ownBlock≠some g) x9 cs9):=hid (hn.weak (fun g hg=>⟨by have:=HZW.out;omega,by have:=OB.out.lt;omega,fun e=>by obtain⟨_,ho,_⟩:=hrl;have:=(ho.lt g e).2;omega⟩))
  clear hrl
  replace RB:=bg RB hu
  replace OB:=bg OB hu
  replace KOF:=hid (KOF.out.upd hu (by omega))
  replace HP:=hid (HP.out.upd hx hu (by omega))
  replace HU:=hid (HU.out.trans hu)
  replace HZW:=hid (Nat.le_trans HZW.out hu.size)
  clear hr hn hx hu
  obtain⟨v9,hlit,hvo⟩:=NodeAt.lit HN9.out
  rw[hlit] at HN9 ⊢
  have HVO9:=hid hvo
  clear hlit hvo
  go_wp2_with fail
  refine hK.out _ _ (.inr OB.out) (fun hHeld=> ?_)
  clear hK hHeld K
  (try simp only[Act.put,sq])
  refine rdU 4 rfl fun K hK=> ?_
  go_simp
  have bxB:=Box.new wc_9 24 #[.int .i64 x9.kind,.int .i64 x9.num,.string (byt x9.text),v9]
  have hb:Below wc_9.heap.size wc_9 (wc_9.alloc (.cells #[.int .i64 x9.kind,.int .i64 x9.num,.string (byt x9.text),v9] 24)):=below1 wc_9 _
  obtain⟨wb_9,hwb⟩:∃wb_9,(wc_9.alloc (.cells #[.int .i64 x9.kind,.int .i64 x9.num,.string (byt x9.text),v9] 24))=wb_9:=⟨_,rfl⟩
  rw[hwb] at bxB hb
  rw[hwb]
  clear hwb
  have BXB:=hid bxB
  have HBA:Hid (wc_9.heap.size<wb_9.heap.size):=hid bxB.lt
  replace RB:=bl RB hb
  replace OB:=bl OB hb
  replace KOF:=hid (KOF.out.below hb)
  replace HP:=hid (HP.out.below hb)
  replace HU:=hid (HU.out.step hb)
  replace HZW:=hid (Nat.le_trans HZW.out hb.size)
  replace HN9:=hid (HN9.out.below hb)
  refine hK.out _ _ (.inr OB.out) (fun hHeld=> ?_)
  clear hK hHeld K
  (try simp only[Act.put,sq])
  clear hb bxB
  refine rdU 5 rfl fun K hK=> ?_
  obtain⟨css,hrow,hkn⟩:=KOF.out.row
  have hll:1≤1000:=by simp
  refine step_append_lies _ rfl (.tmp 32) (.tmp 35) 22 rfl W0.heap.size 24 i0 _ 4 56 Tryz.underlying22 hi0 hi1 hi2 hi3 rfl (by decide) (kv) 1 (flatA css) (by simp[Act.eval,Act.put]) hrow ⟨wc_9.heap.size,0,none⟩ 1 1 [.int .i64 x9.kind,.int .i64 x9.num,.string (byt x9.text),v9] (by simp[Act.eval,Act.put]) rfl (by exact World.news_of_block BXB.out) (by have hv:=HVO9.out;intro u hu;simp only[List.mem_cons,List.not_mem_nil,or_false] at hu;rcases hu with rfl | rfl | rfl | rfl;rfl;rfl;rfl;exact hv) (by omega) (by unfold maxLen;omega) (by omega) HZW.out wb_9.heap.size rfl ?_
  intro g7_9 cap7_9 w7_9 hown7 hgr7 hor7 hlt7
  have hbB:Below W0.heap.size wb_9 w7_9:=below_grown hgr7 HZW.out (fun q hq=>(hrow.lt q hq).1)
  have hob:=OB.out.lt
  have KO7:KO w7_9 W0.heap.size (oa) ([x1]++[x9]) (Value.slice (some ⟨g7_9,0,none⟩) 2 cap7_9):=KOF.out.snoc css hrow hkn HN9.out hown7 hgr7 hor7 hob
  replace OB:=hid (Box.grown OB.out hgr7 (fun e=>KOF.out.ne e.symm))
  replace RB:=hid ((hbB.block _ (by omega)).trans RB.out)
  replace HP:=hid (HP.out.belowB hbB (by omega) (fun hn g o e=>by have:=HAB.out hn g o e;omega))
  replace HU:=hid (HU.out.belowB hbB (by omega))
  replace HZW:=hid (Nat.le_trans HZW.out hbB.size)
  have KOG:=hid KO7
  refine hK.out _ _ (.inl rfl) (fun hHeld=> ?_)
  clear hK hHeld K
  (try simp only[Act.put,sq])
  clear hown7 hgr7 hor7 hlt7 hbB hrow hkn KO7 hob
  refine rdU 6 rfl fun K hK=> ?_
  go_simp
  refine hK.out _ _ (.inl rfl) (fun hHeld=> ?_)
  clear hK hHeld K
  (try simp only[Act.put,sq])
  refine rdU 7 rfl fun K hK=> ?_
  have c3:=OB.out.cell 3
  have f3:w7_9.frozen? ⟨oa,3,none⟩=false:=OB.out.frozen 3
  simp at c3
  go_simp
  have hu8:Upd w7_9 (w7_9.setCell ⟨oa,3,none⟩ (Value.slice (some ⟨g7_9,0,none⟩) 2 cap7_9)) (oa):=(Upd.refl _ _).set (.inl rfl) _
  have OB8:=OB.out.set 3 (Value.slice (some ⟨g7_9,0,none⟩) 2 cap7_9)
  obtain⟨wz_9,hwz⟩:∃wz_9,(w7_9.setCell ⟨oa,3,none⟩ (Value.slice (some ⟨g7_9,0,none⟩) 2 cap7_9))=wz_9:=⟨_,rfl⟩
  rw[hwz] at hu8 OB8
  rw[hwz]
  clear hwz
  simp at OB8
  replace OB:=hid OB8
  replace KOF:=hid (KOG.out.self hu8)
  replace RB:=bg RB hu8
  have hbo:Below w.heap.size w7_9 wz_9:=hu8.own (by omega) (by have:=HU.out.size;omega)
  replace HP:=hid (HP.out.belowB hbo (by omega) (fun hn g o e=>HAB.out hn g o e))
  replace HU:=hid (HU.out.belowB hbo (Nat.le_refl _))
  replace HZW:=hid (Nat.le_trans HZW.out hu8.size)
  refine hK.out _ _ (.inl rfl) (fun hHeld=> ?_)
  clear hK hHeld K
  (try simp only[Act.put,sq])
  clear hu8 OB8 hbo KOG BXB HBA c3 f3
  refine wpAnyU_done (by kernel_rfl) ?_ _
  have hle9:=HP.out.kle
  have o1:=OB.out.cell 1
  simp at o1
  go_upto_region 12 with fail
  clear o1
  have ob:=OB.out
  go_wp2_with (first | (refine wpList_load_row rfl 24 (.tmp 3) rfl (oa) rfl _ (nc 29 2 [] (Value.slice (some ⟨g7_9,0,none⟩) 2 cap7_9)) (0,0) _ ob Tryz.underlying24 rfl info_nod ?_) | (refine wpList_store_box rfl 24 (.tmp 2) (.tmp 43) rfl w.heap.size (nc 29 2 [] (Value.slice (some ⟨g7_9,0,none⟩) 2 cap7_9)) rfl rfl 24 _ RB.out info_nod rfl (nc_own _ _ _ KOF.out) ?_;intro wy hxz huz hzz;have HZZ:=hid hzz;clear hzz))
  refine bodyPost_ret (results_box rfl _ _ w.heap.size 24 _ _ rfl hxz Tryz.underlying24 rfl info_nod) rfl ?_
  exact .inl ⟨.mk 29 2 [] ([x1]++[x9]),k9,_,HR.out,by omega,HP.out.kle,rfl,((KOF.out.node 29 2 []).upd huz (fun g hg=>by have:=hg.1;omega)).weak (fun g hg=>by have:=hg.1;omega),Box.grown HP.out.box huz (by intro h;injection h with h;omega),Upd.fresh HU.out huz (Nat.le_refl _)⟩
 replace HR:=hid (HR.out.trans (Pars.alt_no hi))
 replace RB:=bg RB hu
 replace OB:=bg OB hu
 replace KOF:=hid (KOF.out.upd hu (by omega))
 replace HP:=hid (HP.out.upd hx hu (by omega))
 replace HU:=hid (HU.out.trans hu)
 replace HZW:=hid (Nat.le_trans HZW.out hu.size)
 clear hi hx hu
 have o1:=OB.out.cell 1
 simp at o1
 go_wp2_with fail
 exact⟨rfl,.inr ⟨HR.out,rfl,HU.out⟩⟩
end Go.Proofs.YtflmjbmdmoifhaaGreatDoor

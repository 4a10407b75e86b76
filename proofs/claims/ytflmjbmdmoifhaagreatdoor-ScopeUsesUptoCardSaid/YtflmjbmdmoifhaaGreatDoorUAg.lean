/-
  Texts that the law leans on: PmC, PmD, PmE, PmG, PmH. Conditions: as each says.
-/
import Derived.Test.YtflmjbmdmoifhaaGreatDoorUAf
import Derived.Test.YtflmjbmdmoifhaaGreatDoorUAc
import Derived.Test.YtflmjbmdmoifhaaGreatDoorUAa
set_option linter.unusedSimpArgs false
set_option linter.unusedVariables false
namespace Go.Proofs.YtflmjbmdmoifhaaGreatDoor
open Go.Lib (hid)
open Go.RowKit
theorem gen_world {P:Program} {c:Code} {Q:Exit→Act→World→Prop} {a:Act} {w0:World} {F:World→Prop} (hf:F w0) (h:∀W,F W→Code.wp P c Q a W):Code.wp P c Q a w0:=h w0 hf
theorem NodeAt.weak {w:World} {S S1:Nat→Prop} {n:Pars.Node} {cs:Array Value} (h:NodeAt w S n cs) (hs:∀g,S g→S1 g):NodeAt w S1 n cs:=NodeAt.keep (fun g h _=>hs g h) (Nat.le_refl _) (fun _ _ _=>rfl) h
theorem NodeAt.below {w w1:World} {S:Nat→Prop} {n:Pars.Node} {cs:Array Value} (h:NodeAt w S n cs) (hb:Below w.heap.size w w1):NodeAt w1 S n cs:=NodeAt.keep (fun _ h _=>h) hb.size (fun g _ hg=>hb.block g hg) h
theorem NodeAt.upd {w w1:World} {S:Nat→Prop} {n:Pars.Node} {cs:Array Value} {r:Nat} (h:NodeAt w S n cs) (hu:Upd w w1 r) (hr:∀g,S g→g≠r):NodeAt w1 S n cs:=NodeAt.keep (fun _ h _=>h) hu.size (fun g hs hg=>hu.block g hg (by intro e;injection e with e;exact hr g hs e)) h
theorem Upd.fresh {w w1 w2:World} {b r:Nat} (h:Upd w w1 b) (hu:Upd w1 w2 r) (hr:w.heap.size≤r):Upd w w2 b:=by
 have hz:=h.size
 refine⟨hu.os.trans h.os,hu.tape.trans h.tape,hu.output.trans h.output,Nat.le_trans h.size hu.size,fun i hi hn=> ?_⟩
 rw[hu.block i (by omega) (by intro e;injection e with e;omega),h.block i hi hn]
theorem left_len (ts:List KT) (k:Nat):(left ts k).length=ts.length - k:=by unfold left toks;simp
def Got (w:World) (b:Nat) (ts:List KT) (A:Option Addr) (c k:Nat) (fn lp:Bool) (r:Pars.R) (e:Ending) (w':World):Prop:=
 (∃x k' cs,r=some (x,left ts k')∧k≤k'∧k'≤ts.length∧e= .returned (.agg cs)∧NodeAt w' (fun g=>w.heap.size≤g) x cs∧Box w' b 108 (pc (.slice A ts.length c) k' fn lp)∧Upd w w' b)∨
 (r=none∧e= .panicked slipped∧Upd w w' b)
theorem got_lt {n:Nat} {nt:Pars.Nt} {fn lp:Bool} {ts:List KT} {k k':Nat} {x:Pars.Node} (h:Pars.run n nt fn lp (left ts k)=some (x,left ts k')) (hp:Pars.passes nt=true):k<k':=by
 have:=Pars.run_passes h hp
 rw[left_len,left_len] at this
 omega
structure All (n:Nat):Prop where
 block:∀{w:World} {b:Nat} {ts:List KT} {A:Option Addr} {c k:Nat} {fn lp:Bool},PSt w b ts A c k fn lp→20 * (ts.length - k)+1<n→Calls Tryz.prog 86 #[.pointer (some ⟨b,0,none⟩)] w (Got w b ts A c k fn lp (Pars.run n .block fn lp (left ts k)))
 stmt:∀{w:World} {b:Nat} {ts:List KT} {A:Option Addr} {c k:Nat} {fn lp:Bool},PSt w b ts A c k fn lp→20 * (ts.length - k)+14<n→Calls Tryz.prog 53 #[.pointer (some ⟨b,0,none⟩)] w (Got w b ts A c k fn lp (Pars.run n .statement fn lp (left ts k)))
 expr:∀{w:World} {b:Nat} {ts:List KT} {A:Option Addr} {c k:Nat} {fn lp:Bool},PSt w b ts A c k fn lp→20 * (ts.length - k)+12<n→Calls Tryz.prog 76 #[.pointer (some ⟨b,0,none⟩)] w (Got w b ts A c k fn lp (Pars.run n .expression fn lp (left ts k)))
 cond:∀{w:World} {b:Nat} {ts:List KT} {A:Option Addr} {c k:Nat} {fn lp:Bool},PSt w b ts A c k fn lp→20 * (ts.length - k)+11<n→Calls Tryz.prog 103 #[.pointer (some ⟨b,0,none⟩)] w (Got w b ts A c k fn lp (Pars.run n .cond fn lp (left ts k)))
 un:∀{w:World} {b:Nat} {ts:List KT} {A:Option Addr} {c k:Nat} {fn lp:Bool},PSt w b ts A c k fn lp→20 * (ts.length - k)+3<n→Calls Tryz.prog 122 #[.pointer (some ⟨b,0,none⟩)] w (Got w b ts A c k fn lp (Pars.run n .unary fn lp (left ts k)))
 first:∀{w:World} {b:Nat} {ts:List KT} {A:Option Addr} {c k:Nat} {fn lp:Bool},PSt w b ts A c k fn lp→20 * (ts.length - k)+2<n→Calls Tryz.prog 131 #[.pointer (some ⟨b,0,none⟩)] w (Got w b ts A c k fn lp (Pars.run n .first fn lp (left ts k)))
 inner:∀{w:World} {b:Nat} {ts:List KT} {A:Option Addr} {c k:Nat} {fn lp:Bool},PSt w b ts A c k fn lp→20 * (ts.length - k)+1<n→Calls Tryz.prog 80 #[.pointer (some ⟨b,0,none⟩)] w (Got w b ts A c k fn lp (Pars.run n .inner fn lp (left ts k)))
 ifs:∀{w:World} {b:Nat} {ts:List KT} {A:Option Addr} {c k:Nat} {fn lp:Bool},PSt w b ts A c k fn lp→20 * (ts.length - k)+2<n→Calls Tryz.prog 79 #[.pointer (some ⟨b,0,none⟩)] w (Got w b ts A c k fn lp (Pars.run n .ifs fn lp (left ts k)))
 loops:∀{w:World} {b:Nat} {ts:List KT} {A:Option Addr} {c k:Nat} {fn lp:Bool},PSt w b ts A c k fn lp→20 * (ts.length - k)+1<n→Calls Tryz.prog 82 #[.pointer (some ⟨b,0,none⟩)] w (Got w b ts A c k fn lp (Pars.run n .loops fn lp (left ts k)))
 tries:∀{w:World} {b:Nat} {ts:List KT} {A:Option Addr} {c k:Nat} {fn lp:Bool},PSt w b ts A c k fn lp→20 * (ts.length - k)+2<n→Calls Tryz.prog 84 #[.pointer (some ⟨b,0,none⟩)] w (Got w b ts A c k fn lp (Pars.run n .tries fn lp (left ts k)))
 bin:∀(r:Nat),r≤6→∀{w:World} {b:Nat} {ts:List KT} {A:Option Addr} {c k:Nat} {fn lp:Bool},PSt w b ts A c k fn lp→20 * (ts.length - k)+(10 - r)<n→Calls Tryz.prog 113 #[.pointer (some ⟨b,0,none⟩),.int .i64 (r:Int)] w (Got w b ts A c k fn lp (Pars.run n (.binary r) fn lp (left ts k)))
 body:∀(f:Bool),∀{w:World} {b:Nat} {ts:List KT} {A:Option Addr} {c k:Nat} {fn lp:Bool},PSt w b ts A c k fn lp→20 * (ts.length - k)+2<n→Calls Tryz.prog 81 #[.pointer (some ⟨b,0,none⟩),.bool f] w (Got w b ts A c k fn lp (Pars.run n (.body f) fn lp (left ts k)))
 func:∀(nm:List UInt8),∀{w:World} {b:Nat} {ts:List KT} {A:Option Addr} {c k:Nat} {fn lp:Bool},PSt w b ts A c k fn lp→20 * (ts.length - k)+1<n→Calls Tryz.prog 78 #[.pointer (some ⟨b,0,none⟩),.string (byt nm)] w (Got w b ts A c k fn lp (Pars.run n (.function nm) fn lp (left ts k)))
set_option maxRecDepth 100000 in
set_option maxHeartbeats 4000000 in
theorem inner_step {n:Nat} (h:All n):∀{w:World} {b:Nat} {ts:List KT} {A:Option Addr} {c k:Nat} {fn lp:Bool},PSt w b ts A c k fn lp→20 * (ts.length - k)+1<n+1→Calls Tryz.prog 80 #[.pointer (some ⟨b,0,none⟩)] w (Got w b ts A c k fn lp (Pars.run (n+1) .inner fn lp (left ts k))):=by
 intro w b ts A c k fn lp hP hm
 have HR:Hid (Pars.run (n+1) .inner fn lp (left ts k)=_):=hid (by rw[Pars.run])
 have hbl:=hP.box.lt
 have hle:=hP.kle
 go_enter Tryz.func80,Tryz.ntmps80
 go_upto_region 1 with fail
 refine gen_world (F:=fun W=>Box W w.heap.size 24 #[.int .i64 0,.int .i64 0,.string ⟨#[]⟩,.slice none 0 0]∧Below w.heap.size w W) ⟨Box.new w _ _,below1 w _⟩ ?_
 rintro W0 ⟨r0,hU⟩
 have RB:=hid r0
 have HP:=hid (hP.below hU)
 have HU:Hid (Upd w W0 b):=hid (Upd.below hU b)
 have HZ:Hid (w.heap.size<W0.heap.size):=hid r0.lt
 have hz0:=r0.lt
 have HZW:Hid (W0.heap.size≤W0.heap.size):=hid (Nat.le_refl _)
 clear r0 hU hP
 go_wp2_with fail
 refine (must_any [40] _ b ts A c (k) fn lp HP.out).mono ?_
 rintro e w1 (⟨hi,hk,rfl,hx,hu⟩ | ⟨hi,rfl,hu⟩)
 rotate_left
 ·exact⟨rfl,.inr ⟨HR.out.trans (Pars.must_no hi),rfl,HU.out.trans hu⟩⟩
 replace HR:=hid (HR.out.trans (Pars.must_some hi))
 replace RB:=bg RB hu
 replace HP:=hid (HP.out.upd hx hu (by omega))
 replace HU:=hid (HU.out.trans hu)
 replace HZW:=hid (Nat.le_trans HZW.out hu.size)
 clear hi hx hu
 have hle1:=HP.out.kle
 go_wp2_with fail
 refine (h.expr HP.out (by omega)).mono ?_
 rintro e w2 (⟨x1,k1,cs1,hr,hk1,hk2,rfl,hn,hx,hu⟩ | ⟨hr,rfl,hu⟩)
 rotate_left
 ·exact⟨rfl,.inr ⟨HR.out.trans (Pars.and_no hr),rfl,HU.out.trans hu⟩⟩
 have hlt1:=got_lt hr rfl
 replace HR:=hid (HR.out.trans (Pars.and_some hr))
 have HN1:Hid (NodeAt _ (fun g=>W0.heap.size≤g) x1 cs1):=hid (hn.weak (fun g hg=>by have:=HZW.out;omega))
 have hcs1:(Tryz.prog.info? 24).map (·.size)=some cs1.size:=by rw[NodeAt.size hn];exact info_nod
 have h41:(4:Nat)=cs1.size:=(NodeAt.size hn).symm
 have hone1:=NodeAt.one hn
 have HCS1:=hid hcs1
 have H41:=hid h41
 have HONE1:=hid hone1
 replace RB:=bg RB hu
 replace HP:=hid (HP.out.upd hx hu (by omega))
 replace HU:=hid (HU.out.trans hu)
 replace HZW:=hid (Nat.le_trans HZW.out hu.size)
 clear hr hn hx hu hcs1 h41 hone1
 have hle2:=HP.out.kle
 go_upto_region 3 with (refine wpList_store_box rfl 24 (.tmp 3) (.tmp 7) rfl w2.heap.size cs1 rfl rfl 24 _ (Box.new w2 _ _) HCS1.out H41.out HONE1.out ?_;intro w3 hx hv hz;have HZ1:=hid hz;clear hz)
 have hb:Below w2.heap.size w2 w3:=((Below.refl _ w2).alloc (Nat.le_refl _) _).trans (hv.own (Nat.le_refl _) (by simp))
 have EB1:=hid hx
 have hzE1:=Nat.lt_of_lt_of_le HZ.out HZW.out
 replace RB:=bl RB hb
 replace HN1:=hid (HN1.out.below hb)
 replace HP:=hid (HP.out.below hb)
 replace HU:=hid (HU.out.step hb)
 replace HZW:=hid (Nat.le_trans HZW.out hb.size)
 clear hx hv hb
 go_wp2_with fail
 refine (must_any [41] _ b ts A c (k1) fn lp HP.out).mono ?_
 rintro e w4 (⟨hi,hk,rfl,hx,hu⟩ | ⟨hi,rfl,hu⟩)
 rotate_left
 ·exact⟨rfl,.inr ⟨HR.out.trans (Pars.must_no hi),rfl,HU.out.trans hu⟩⟩
 replace HR:=hid (HR.out.trans (Pars.must_some hi))
 replace RB:=bg RB hu
 replace EB1:=bg EB1 hu
 replace HN1:=hid (HN1.out.upd hu (fun g hg=>by first | omega | (simp only at hg;omega)))
 replace HP:=hid (HP.out.upd hx hu (by omega))
 replace HU:=hid (HU.out.trans hu)
 replace HZW:=hid (Nat.le_trans HZW.out hu.size)
 clear hi hx hu
 have eb1:=EB1.out
 go_wp2_with (first | (refine wpList_load_row rfl 24 (.tmp 3) rfl w2.heap.size rfl _ cs1 (0,0) _ eb1 Tryz.underlying24 rfl HCS1.out ?_) | (refine wpList_store_box rfl 24 (.tmp 2) (.tmp 10) rfl w.heap.size cs1 rfl rfl 24 _ RB.out HCS1.out H41.out HONE1.out ?_;intro wz hxz huz hzz;have HZZ:=hid hzz;clear hzz))
 refine bodyPost_ret (results_box rfl _ _ w.heap.size 24 _ _ rfl hxz Tryz.underlying24 rfl HCS1.out) rfl ?_
 exact .inl ⟨x1,k1+1,cs1,HR.out,by omega,HP.out.kle,rfl,(HN1.out.upd huz (fun g hg=>by first | omega | (simp only at hg;omega))).weak (fun g hg=>by first | omega | (simp only at hg;omega)),Box.grown HP.out.box huz (by intro h;injection h with h;omega),Upd.fresh HU.out huz (Nat.le_refl _)⟩
end Go.Proofs.YtflmjbmdmoifhaaGreatDoor
namespace Go.Proofs.YtflmjbmdmoifhaaGreatDoor
open Go.Lib (hid)
open Go.RowKit
theorem NodeAt.lit {w:World} {S:Nat→Prop}:∀{n:Pars.Node} {cs:Array Value},NodeAt w S n cs→∃v,cs= #[.int .i64 n.kind,.int .i64 n.num,.string (byt n.text),v]∧v.oneCell'=true
 | .mk k n t l,cs,h=>by unfold NodeAt at h;obtain⟨A,cap,css,rfl,_⟩:=h;exact⟨_,rfl,rfl⟩
theorem nz_one (a b:Int) (s:ByteArray) (A:Option Addr) (n c:Nat):(#[.int .i64 a,.int .i64 b,.string s,.slice A n c]:Array Value).all (·.oneCell')=true:=by simp[Value.oneCell']
theorem NodeAt.build {w:World} {S:Nat→Prop} {l:List Pars.Node} {css:List (Array Value)} {g:Nat} {cells:Array Value} (k n:Int) (t:List UInt8) (hb:Box w g 24 cells) (hs:S g) (hk:NodesAt w S l css) (hc:cells.toList=flatA css:=by rfl) (hl:l.length≤1000:=by simp):NodeAt w S (.mk k n t l) (nc k n t (.slice (some ⟨g,0,none⟩) l.length l.length)):=by
 unfold NodeAt
 refine⟨_,_,css,rfl,Nat.le_refl _,by omega,fun _=>⟨g,0,rfl,hs,hb.lt,fun i u hu=> ?_⟩,hk⟩
 rw[Nat.zero_add,hb.cell, ←hu, ←hc]
 simp
set_option maxRecDepth 100000 in
set_option maxHeartbeats 4000000 in
theorem cond_step {n:Nat} (h:All n):∀{w:World} {b:Nat} {ts:List KT} {A:Option Addr} {c k:Nat} {fn lp:Bool},PSt w b ts A c k fn lp→20 * (ts.length - k)+11<n+1→Calls Tryz.prog 103 #[.pointer (some ⟨b,0,none⟩)] w (Got w b ts A c k fn lp (Pars.run (n+1) .cond fn lp (left ts k))):=by
 intro w b ts A c k fn lp hP hm
 have HR:Hid (Pars.run (n+1) .cond fn lp (left ts k)=_):=hid (by rw[Pars.run])
 have hbl:=hP.box.lt
 have hle:=hP.kle
 go_enter Tryz.func103,Tryz.ntmps103
 go_upto_region 1 with fail
 refine gen_world (F:=fun W=>Box W w.heap.size 24 #[.int .i64 0,.int .i64 0,.string ⟨#[]⟩,.slice none 0 0]∧Below w.heap.size w W) ⟨Box.new w _ _,below1 w _⟩ ?_
 rintro W0 ⟨r0,hU⟩
 have RB:=hid r0
 have HP:=hid (hP.below hU)
 have HU:Hid (Upd w W0 b):=hid (Upd.below hU b)
 have HZ:Hid (w.heap.size<W0.heap.size):=hid r0.lt
 have hz0:=r0.lt
 have HZW:Hid (W0.heap.size≤W0.heap.size):=hid (Nat.le_refl _)
 clear r0 hU hP
 go_wp2_with fail
 refine (h.bin 0 (by omega) HP.out (by omega)).mono ?_
 rintro e w1 (⟨x1,k1,cs1,hr,hk1,hk2,rfl,hn,hx,hu⟩ | ⟨hr,rfl,hu⟩)
 rotate_left
 ·exact⟨rfl,.inr ⟨HR.out.trans (Pars.and_no hr),rfl,HU.out.trans hu⟩⟩
 have hlt1:=got_lt hr rfl
 replace HR:=hid (HR.out.trans (Pars.and_some hr))
 have HN1:Hid (NodeAt _ (fun g=>W0.heap.size≤g) x1 cs1):=hid (hn.weak (fun g hg=>by have:=HZW.out;omega))
 have hcs1:(Tryz.prog.info? 24).map (·.size)=some cs1.size:=by rw[NodeAt.size hn];exact info_nod
 have h41:(4:Nat)=cs1.size:=(NodeAt.size hn).symm
 have hone1:=NodeAt.one hn
 have HCS1:=hid hcs1
 have H41:=hid h41
 have HONE1:=hid hone1
 replace RB:=bg RB hu
 replace HP:=hid (HP.out.upd hx hu (by omega))
 replace HU:=hid (HU.out.trans hu)
 replace HZW:=hid (Nat.le_trans HZW.out hu.size)
 clear hr hn hx hu hcs1 h41 hone1
 have hle1:=HP.out.kle
 obtain⟨v1,hlit,hvo⟩:=NodeAt.lit HN1.out
 rw[hlit] at HN1 HCS1 H41 HONE1 ⊢
 have HVO1:=hid hvo
 clear hlit hvo
 go_upto_region 2 with (refine wpList_store_box rfl 24 (.tmp 3) (.tmp 6) rfl w1.heap.size #[.int .i64 x1.kind,.int .i64 x1.num,.string (byt x1.text),v1] rfl rfl 24 _ (Box.new w1 _ _) HCS1.out H41.out HONE1.out ?_;intro w2 hx hv hz;have HZ1:=hid hz;clear hz)
 have hb:Below w1.heap.size w1 w2:=((Below.refl _ w1).alloc (Nat.le_refl _) _).trans (hv.own (Nat.le_refl _) (by simp))
 have EB1:=hid hx
 have hzE1:=Nat.lt_of_lt_of_le HZ.out HZW.out
 replace RB:=bl RB hb
 replace HN1:=hid (HN1.out.below hb)
 replace HP:=hid (HP.out.below hb)
 replace HU:=hid (HU.out.step hb)
 replace HZW:=hid (Nat.le_trans HZW.out hb.size)
 clear hx hv hb
 go_wp2_with fail
 refine (is_any [63] _ b ts A c k1 fn lp HP.out).mono ?_
 rintro e w3 (⟨hi,hk,rfl,hx,hu⟩ | ⟨hi,rfl,hx,hu⟩)
 rotate_left
 ·replace HR:=hid (HR.out.trans (Pars.alt_no hi))
  replace RB:=bg RB hu
  replace EB1:=bg EB1 hu
  replace HN1:=hid (HN1.out.upd hu (fun g hg=>by first | omega | (simp only at hg;omega)))
  replace HP:=hid (HP.out.upd hx hu (by omega))
  replace HU:=hid (HU.out.trans hu)
  replace HZW:=hid (Nat.le_trans HZW.out hu.size)
  clear hi hx hu
  have eb1:=EB1.out
  go_wp2_with (first | (refine wpList_load_row rfl 24 (.tmp 3) rfl w1.heap.size rfl _ #[.int .i64 x1.kind,.int .i64 x1.num,.string (byt x1.text),v1] (0,0) _ eb1 Tryz.underlying24 rfl HCS1.out ?_) | (refine wpList_store_box rfl 24 (.tmp 2) (.tmp 10) rfl w.heap.size #[.int .i64 x1.kind,.int .i64 x1.num,.string (byt x1.text),v1] rfl rfl 24 _ RB.out HCS1.out H41.out HONE1.out ?_;intro wz hxz huz hzz;have HZZ:=hid hzz;clear hzz))
  refine bodyPost_ret (results_box rfl _ _ w.heap.size 24 _ _ rfl hxz Tryz.underlying24 rfl HCS1.out) rfl ?_
  exact .inl ⟨x1,k1, #[.int .i64 x1.kind,.int .i64 x1.num,.string (byt x1.text),v1],HR.out,by omega,HP.out.kle,rfl,(HN1.out.upd huz (fun g hg=>by first | omega | (simp only at hg;omega))).weak (fun g hg=>by first | omega | (simp only at hg;omega)),Box.grown HP.out.box huz (by intro h;injection h with h;omega),Upd.fresh HU.out huz (Nat.le_refl _)⟩
 replace HR:=hid (HR.out.trans (Pars.alt_some hi))
 replace RB:=bg RB hu
 replace EB1:=bg EB1 hu
 replace HN1:=hid (HN1.out.upd hu (fun g hg=>by first | omega | (simp only at hg;omega)))
 replace HP:=hid (HP.out.upd hx hu (by omega))
 replace HU:=hid (HU.out.trans hu)
 replace HZW:=hid (Nat.le_trans HZW.out hu.size)
 clear hi hx hu
 go_wp2_with fail
 refine (h.expr HP.out (by omega)).mono ?_
 rintro e w4 (⟨x2,k2,cs2,hr,hk1,hk2,rfl,hn,hx,hu⟩ | ⟨hr,rfl,hu⟩)
 rotate_left
 ·exact⟨rfl,.inr ⟨HR.out.trans (Pars.and_no hr),rfl,HU.out.trans hu⟩⟩
 have hlt2:=got_lt hr rfl
 replace HR:=hid (HR.out.trans (Pars.and_some hr))
 have HN2:Hid (NodeAt _ (fun g=>W0.heap.size≤g) x2 cs2):=hid (hn.weak (fun g hg=>by have:=HZW.out;omega))
 have hcs2:(Tryz.prog.info? 24).map (·.size)=some cs2.size:=by rw[NodeAt.size hn];exact info_nod
 have h42:(4:Nat)=cs2.size:=(NodeAt.size hn).symm
 have hone2:=NodeAt.one hn
 have HCS2:=hid hcs2
 have H42:=hid h42
 have HONE2:=hid hone2
 replace RB:=bg RB hu
 replace EB1:=bg EB1 hu
 replace HN1:=hid (HN1.out.upd hu (fun g hg=>by first | omega | (simp only at hg;omega)))
 replace HP:=hid (HP.out.upd hx hu (by omega))
 replace HU:=hid (HU.out.trans hu)
 replace HZW:=hid (Nat.le_trans HZW.out hu.size)
 clear hr hn hx hu hcs2 h42 hone2
 have hle2:=HP.out.kle
 obtain⟨v2,hlit,hvo⟩:=NodeAt.lit HN2.out
 rw[hlit] at HN2 HCS2 H42 HONE2 ⊢
 have HVO2:=hid hvo
 clear hlit hvo
 go_upto_region 5 with (refine wpList_store_box rfl 24 (.tmp 4) (.tmp 12) rfl w4.heap.size #[.int .i64 x2.kind,.int .i64 x2.num,.string (byt x2.text),v2] rfl rfl 24 _ (Box.new w4 _ _) HCS2.out H42.out HONE2.out ?_;intro w5 hx hv hz;have HZ2:=hid hz;clear hz)
 have hb:Below w4.heap.size w4 w5:=((Below.refl _ w4).alloc (Nat.le_refl _) _).trans (hv.own (Nat.le_refl _) (by simp))
 have EB2:=hid hx
 have hzE2:=Nat.lt_of_lt_of_le HZ.out HZW.out
 replace RB:=bl RB hb
 replace EB1:=bl EB1 hb
 replace HN1:=hid (HN1.out.below hb)
 replace HN2:=hid (HN2.out.below hb)
 replace HP:=hid (HP.out.below hb)
 replace HU:=hid (HU.out.step hb)
 replace HZW:=hid (Nat.le_trans HZW.out hb.size)
 clear hx hv hb
 go_wp2_with fail
 refine (must_any [58] _ b ts A c (k2) fn lp HP.out).mono ?_
 rintro e w6 (⟨hi,hk,rfl,hx,hu⟩ | ⟨hi,rfl,hu⟩)
 rotate_left
 ·exact⟨rfl,.inr ⟨HR.out.trans (Pars.must_no hi),rfl,HU.out.trans hu⟩⟩
 replace HR:=hid (HR.out.trans (Pars.must_some hi))
 replace RB:=bg RB hu
 replace EB1:=bg EB1 hu
 replace EB2:=bg EB2 hu
 replace HN1:=hid (HN1.out.upd hu (fun g hg=>by first | omega | (simp only at hg;omega)))
 replace HN2:=hid (HN2.out.upd hu (fun g hg=>by first | omega | (simp only at hg;omega)))
 replace HP:=hid (HP.out.upd hx hu (by omega))
 replace HU:=hid (HU.out.trans hu)
 replace HZW:=hid (Nat.le_trans HZW.out hu.size)
 clear hi hx hu
 go_upto_region 6 with fail
 refine wp_region_held_drew (S:=fun w'=>Box w' (w1.heap.size) 24 #[.int .i64 x1.kind,.int .i64 x1.num,.string (byt x1.text),v1]∧Box w' (w4.heap.size) 24 #[.int .i64 x2.kind,.int .i64 x2.num,.string (byt x2.text),v2]∧True) (by kernel_rfl) ⟨Box.drew EB1.out,Box.drew EB2.out,trivial⟩ (fun hHeld=> ?_)
 obtain⟨wd,hwd⟩:∃wd,w6.drew=wd:=⟨_,rfl⟩
 have hb:Below w6.heap.size w6 wd:=hwd ▸ (Below.refl _ w6).drew
 rw[hwd] at hHeld
 (try rw[hwd])
 clear hwd
 replace RB:=bl RB hb
 replace EB1:=bl EB1 hb
 replace EB2:=bl EB2 hb
 replace HN1:=hid (HN1.out.below hb)
 replace HN2:=hid (HN2.out.below hb)
 replace HP:=hid (HP.out.below hb)
 replace HU:=hid (HU.out.step hb)
 replace HZW:=hid (Nat.le_trans HZW.out hb.size)
 clear hb
 refine wpAnyH_take (i:=0) (v:=_) rfl (by kernel_rfl) (by kernel_rfl) (by kernel_rfl) (fun _ _ _ h=>h) (yields_load_box (by kernel_rfl) 24 (.tmp 3) rfl (w1.heap.size) 24 (#[.int .i64 x1.kind,.int .i64 x1.num,.string (byt x1.text),v1]) _ rfl (fun _ h=>h.1) Tryz.underlying24 rfl HCS1.out) (by assumption) ?_
 (try simp only[Act.put,sq])
 refine wpAnyH_take (i:=1) (v:=_) rfl (by kernel_rfl) (by kernel_rfl) (by kernel_rfl) (fun _ _ _ h=>h) (yields_load_box (by kernel_rfl) 24 (.tmp 4) rfl (w4.heap.size) 24 (#[.int .i64 x2.kind,.int .i64 x2.num,.string (byt x2.text),v2]) _ rfl (fun _ h=>h.2.1) Tryz.underlying24 rfl HCS2.out) (by assumption) ?_
 (try simp only[Act.put,sq])
 refine tH (i:=2) (v:= ?_) rfl ?_ (by assumption) ?_
 rotate_left
 ·intro w hSw
  (try dsimp only at hSw)
  go_simp
  try (with_reducible rfl)
 (try simp only[Act.put,sq])
 refine rdH 3 rfl fun K hK=> ?_
 go_simp
 refine (h.expr HP.out (by omega)).mono ?_
 rintro e wc (⟨x3,k3,cs3,hr,hk1,hk2,rfl,hn,hx,hu⟩ | ⟨hr,rfl,hu⟩)
 rotate_left
 ·exact⟨rfl,.inr ⟨HR.out.trans (Pars.and_no hr),rfl,HU.out.trans hu⟩⟩
 have hlt3:=got_lt hr rfl
 replace HR:=hid (HR.out.trans (Pars.and_some hr))
 have HN3:Hid (NodeAt _ (fun g=>W0.heap.size≤g) x3 cs3):=hid (hn.weak (fun g hg=>by have:=HZW.out;omega))
 have hcs3:(Tryz.prog.info? 24).map (·.size)=some cs3.size:=by rw[NodeAt.size hn];exact info_nod
 have h43:(4:Nat)=cs3.size:=(NodeAt.size hn).symm
 have hone3:=NodeAt.one hn
 have HCS3:=hid hcs3
 have H43:=hid h43
 have HONE3:=hid hone3
 replace RB:=bg RB hu
 replace EB1:=bg EB1 hu
 replace EB2:=bg EB2 hu
 replace HN1:=hid (HN1.out.upd hu (fun g hg=>by first | omega | (simp only at hg;omega)))
 replace HN2:=hid (HN2.out.upd hu (fun g hg=>by first | omega | (simp only at hg;omega)))
 replace HP:=hid (HP.out.upd hx hu (by omega))
 replace HU:=hid (HU.out.trans hu)
 replace HZW:=hid (Nat.le_trans HZW.out hu.size)
 clear hr hn hx hu hcs3 h43 hone3
 obtain⟨v3,hlit,hvo⟩:=NodeAt.lit HN3.out
 rw[hlit] at HN3 HCS3 H43 HONE3 ⊢
 have HVO3:=hid hvo
 clear hlit hvo
 go_wp2_with fail
 refine hK.out _ _ ⟨EB1.out,EB2.out,trivial⟩ (fun hHeld=> ?_)
 clear hK K
 (try simp only[Act.put,sq])
 refine rdH 4 rfl fun K hK=> ?_
 go_simp
 have bxB:=Box.new wc 24 #[.int .i64 x1.kind,.int .i64 x1.num,.string (byt x1.text),v1,.int .i64 x2.kind,.int .i64 x2.num,.string (byt x2.text),v2,.int .i64 x3.kind,.int .i64 x3.num,.string (byt x3.text),v3]
 have hb:Below wc.heap.size wc (wc.alloc (.cells #[.int .i64 x1.kind,.int .i64 x1.num,.string (byt x1.text),v1,.int .i64 x2.kind,.int .i64 x2.num,.string (byt x2.text),v2,.int .i64 x3.kind,.int .i64 x3.num,.string (byt x3.text),v3] 24)):=below1 wc _
 obtain⟨wb,hwb⟩:∃wb,(wc.alloc (.cells #[.int .i64 x1.kind,.int .i64 x1.num,.string (byt x1.text),v1,.int .i64 x2.kind,.int .i64 x2.num,.string (byt x2.text),v2,.int .i64 x3.kind,.int .i64 x3.num,.string (byt x3.text),v3] 24))=wb:=⟨_,rfl⟩
 rw[hwb] at bxB hb
 rw[hwb]
 clear hwb
 have hgB:W0.heap.size≤wc.heap.size:=HZW.out
 replace RB:=bl RB hb
 replace EB1:=bl EB1 hb
 replace EB2:=bl EB2 hb
 replace HN1:=hid (HN1.out.below hb)
 replace HN2:=hid (HN2.out.below hb)
 replace HN3:=hid (HN3.out.below hb)
 replace HP:=hid (HP.out.below hb)
 replace HU:=hid (HU.out.step hb)
 replace HZW:=hid (Nat.le_trans HZW.out hb.size)
 have BXB:=hid bxB
 refine hK.out _ _ ⟨EB1.out,EB2.out,trivial⟩ (fun hHeld=> ?_)
 clear hK K hb bxB
 (try simp only[Act.put,sq])
 refine tH (i:=5) (v:= ?_) rfl ?_ (by assumption) ?_
 rotate_left
 ·intro w hSw
  (try dsimp only at hSw)
  go_simp
  try (with_reducible rfl)
 (try simp only[Act.put,sq])
 refine rdH 6 rfl fun K hK=> ?_
 refine step_store_box rfl 24 (.tmp 2) (.tmp 20) rfl (w.heap.size) #[.int .i64 18,.int .i64 0,.string ⟨#[]⟩,.slice (some ⟨wc.heap.size,0,none⟩) 3 3] rfl rfl 24 _ RB.out info_nod rfl (nz_one _ _ _ _ _ _) ?_
 intro wz hxz huz hzz
 have HZZ:=hid hzz
 refine hK.out _ _ ⟨Box.grown EB1.out huz (by intro h;injection h with h;omega),Box.grown EB2.out huz (by intro h;injection h with h;omega),trivial⟩ (fun hHeld=> ?_)
 clear hK K
 (try simp only[Act.put,sq])
 refine wpAnyH_done (by kernel_rfl) ?_ _
 go_wp2
 refine bodyPost_ret (results_box rfl _ _ w.heap.size 24 _ _ rfl hxz Tryz.underlying24 rfl info_nod) rfl ?_
 have hnb:NodeAt wb (fun g=>W0.heap.size≤g) (.mk 18 0 [] [x1,x2,x3]) #[.int .i64 18,.int .i64 0,.string ⟨#[]⟩,.slice (some ⟨wc.heap.size,0,none⟩) 3 3]:=NodeAt.build (css:=[#[.int .i64 x1.kind,.int .i64 x1.num,.string (byt x1.text),v1], #[.int .i64 x2.kind,.int .i64 x2.num,.string (byt x2.text),v2], #[.int .i64 x3.kind,.int .i64 x3.num,.string (byt x3.text),v3]]) 18 0 [] BXB.out hgB ⟨HN1.out,HN2.out,HN3.out,trivial⟩
 exact .inl ⟨_,_,_,HR.out,by omega,HP.out.kle,rfl,(hnb.upd huz (fun g hg=>by (try simp only at hg);omega)).weak (fun g hg=>by (try simp only at hg);omega),Box.grown HP.out.box huz (by intro h;injection h with h;omega),Upd.fresh HU.out huz (Nat.le_refl _)⟩
end Go.Proofs.YtflmjbmdmoifhaaGreatDoor
namespace Go.Proofs.YtflmjbmdmoifhaaGreatDoor
open Go.Lib (hid)
open Go.RowKit
structure KO (w:World) (B oa:Nat) (l:List Pars.Node) (v:Value):Prop where
 ne:v.ownBlock≠some oa
 row:∃css,w.ownsRow B 24 4 v l.length (flatA css)∧NodesAt w (fun g=>B≤g∧g≠oa∧v.ownBlock≠some g) l css
section
variable {w w1 : World} {B oa : Nat} {l : List Pars.Node} {v : Value}
theorem KO.nil (w:World) (B oa:Nat):KO w B oa [] (.slice none 0 0):=⟨by simp[Value.ownBlock],[],World.ownsRow_nil _ _ _ _,by unfold NodesAt;trivial⟩
theorem KO.below (h:KO w B oa l v) (hb:Below w.heap.size w w1):KO w1 B oa l v:=by
 obtain⟨css,h1,h2⟩:=h.row
 exact⟨h.ne,css,own_below h1 hb,NodesAt.keep (fun _ h _=>h) hb.size (fun g _ hg=>hb.block g hg) h2⟩
theorem KO.upd {r:Nat} (h:KO w B oa l v) (hu:Upd w w1 r) (hr:r<B):KO w1 B oa l v:=by
 obtain⟨css,h1,h2⟩:=h.row
 refine⟨h.ne,css,own_far h1 hu hr,NodesAt.keep (fun _ h _=>h) hu.size (fun g hs hg=>hu.block g hg (by intro e;injection e with e;omega)) h2⟩
theorem KO.self (h:KO w B oa l v) (hu:Upd w w1 oa):KO w1 B oa l v:=by
 obtain⟨css,h1,h2⟩:=h.row
 refine⟨h.ne,css,own_grown h1 hu (.inr h.ne),NodesAt.keep (fun _ h _=>h) hu.size (fun g hs hg=>hu.block g hg (by intro e;injection e with e;exact hs.2.1 e)) h2⟩
theorem KO.node (h:KO w B oa l v) (k n:Int) (t:List UInt8):NodeAt w (fun g=>B≤g∧g≠oa) (.mk k n t l) (nc k n t v):=by
 obtain⟨css,h1,h2⟩:=h.row
 have hlt:=h1.lt
 obtain⟨A,cap,e,h3,h4,h5⟩:=Rd.own h1
 have hne:=h.ne
 subst e
 unfold NodeAt
 refine⟨A,cap,css,rfl,h3,h4,fun hl=> ?_,NodesAt.keep (fun g h _=>⟨h.1,h.2.1⟩) (Nat.le_refl _) (fun _ _ _=>rfl) h2⟩
 obtain⟨g,o,rfl,hg,hr⟩:=h5 hl
 exact⟨g,o,rfl,⟨(hlt g rfl).1,fun e=>hne (by rw[←e];rfl)⟩,hg,hr⟩
theorem KO.snoc {x:Pars.Node} {cs:Array Value} {g cap:Nat} (h:KO w B oa l v) (css:List (Array Value)) (hrow:w.ownsRow B 24 4 v l.length (flatA css)) (hk:NodesAt w (fun g=>B≤g∧g≠oa∧v.ownBlock≠some g) l css)
    (hn:NodeAt w (fun g=>B≤g∧g≠oa∧v.ownBlock≠some g) x cs) (hown:w1.ownsRow B 24 4 (.slice (some ⟨g,0,none⟩) (l.length+1) cap) (l.length+1) (flatA css++cs.toList)) (hgr:w.grownBy w1 v.ownBlock) (hor:v.ownBlock=some g∨g=w.heap.size) (hoa:oa<w.heap.size):KO w1 B oa (l++[x]) (.slice (some ⟨g,0,none⟩) (l.length+1) cap):=by
  have hne:g≠oa:=by
    rcases hor with e | e
    · intro e2;exact h.ne (by rw[e,e2])
    · omega
  refine⟨by simp only[Value.ownBlock];intro e;injection e with e;exact hne e,css++[cs],?_,?_⟩
  · rw[flatA_append,List.length_append]
    simpa [flatA] using hown
  · refine NodesAt.snoc (NodeAt.keep ?_ hgr.size ?_ hn) (NodesAt.keep ?_ hgr.size ?_ hk)
    all_goals first
      | (intro g' hs hg;exact hgr.block g' hg (fun e=>hs.2.2 e.symm))
      | (intro g' hs hg
         refine⟨hs.1,hs.2.1,?_⟩
         simp only[Value.ownBlock]
         intro e
         injection e with e
         rcases hor with e2 | e2
         · exact hs.2.2 (by rw[e2,e])
         · omega)
end
theorem PSt.belowB {w w1:World} {B b:Nat} {ts:List KT} {A:Option Addr} {c k:Nat} {fn lp:Bool} (h:PSt w b ts A c k fn lp) (hb:Below B w w1) (hbB:b<B) (hA:0<ts.length→∀g o,A=some ⟨g,o,none⟩→g<B):PSt w1 b ts A c k fn lp:=by
 refine⟨(hb.block b hbB).trans h.box,?_,h.kle,h.ne,h.len⟩
 obtain⟨A',cap,e,h1,h2,h3⟩:=h.ks
 refine⟨A',cap,e,h1,h2,fun hn=> ?_⟩
 obtain⟨g,o,rfl,hg,hr⟩:=h3 hn
 injection e with e _ _
 have hgB:=hA hn g o e
 have hz:=hb.size
 refine⟨g,o,rfl,by omega,fun i u hi=> ?_⟩
 rw[hb.cell (p:=⟨g,o+i,none⟩) hgB]
 exact hr i u hi
theorem PSt.old {w:World} {b:Nat} {ts:List KT} {A:Option Addr} {c k:Nat} {fn lp:Bool} (h:PSt w b ts A c k fn lp):0<ts.length→∀g o,A=some ⟨g,o,none⟩→g<w.heap.size:=by
 intro hn g o e
 obtain⟨A',cap,e1,h1,h2,h3⟩:=h.ks
 injection e1 with e1 _ _
 obtain⟨g',o',e2,hg,hr⟩:=h3 hn
 rw[e] at e1
 rw[←e1] at e2
 injection e2 with e2
 injection e2 with e2
 omega
theorem Upd.belowB {w w1 w2:World} {b B:Nat} (h:Upd w w1 b) (hb:Below B w1 w2) (hB:w.heap.size≤B):Upd w w2 b:=
 ⟨hb.os.trans h.os,hb.tape.trans h.tape,hb.output.trans h.output,Nat.le_trans h.size hb.size,fun i hi hn=>(hb.block i (by omega)).trans (h.block i hi hn)⟩
theorem parts_nod:(Tryz.prog.info? 24).map (fun i=>(i.zero,i.size,i.bytes))=some (some (.agg #[.int .i64 0,.int .i64 0,.string ⟨#[]⟩,.slice none 0 0]),4,56):=by kernel_rfl
end Go.Proofs.YtflmjbmdmoifhaaGreatDoor
namespace Go.Proofs.YtflmjbmdmoifhaaGreatDoor
open Go.Lib (hid)
open Go.RowKit
theorem nc_one (k n:Int) (t:List UInt8) {v:Value} (hv:v.oneCell'=true):(nc k n t v).all (·.oneCell')=true:=by
 rw[Array.all_eq_true']
 intro u hu
 simp only[nc,List.mem_toArray,List.mem_cons,List.not_mem_nil,or_false] at hu
 rcases hu with rfl | rfl | rfl | rfl
 ·rfl
 ·rfl
 ·rfl
 ·exact hv
theorem nc_own {w:World} {B oa:Nat} {l:List Pars.Node} {v:Value} (k n:Int) (t:List UInt8) (h:KO w B oa l v):(nc k n t v).all (·.oneCell')=true:=by
 obtain⟨css,h1,_⟩:=h.row
 exact nc_one k n t (own_one h1)
set_option maxRecDepth 100000 in
set_option maxHeartbeats 4000000 in
theorem ifs_step {n:Nat} (h:All n):∀{w:World} {b:Nat} {ts:List KT} {A:Option Addr} {c k:Nat} {fn lp:Bool},PSt w b ts A c k fn lp→20 * (ts.length - k)+2<n+1→Calls Tryz.prog 79 #[.pointer (some ⟨b,0,none⟩)] w (Got w b ts A c k fn lp (Pars.run (n+1) .ifs fn lp (left ts k))):=by
 intro w b ts A c k fn lp hP hm
 obtain⟨i0,hi0,hi1,hi2,hi3⟩:=info_parts parts_nod
 have HAB:=hid hP.old
 have HR:Hid (Pars.run (n+1) .ifs fn lp (left ts k)=_):=hid (by rw[Pars.run])
 have hbl:=hP.box.lt
 have hle:=hP.kle
 go_enter Tryz.func79,Tryz.ntmps79
 go_upto_region 1 with fail
 refine gen_world (F:=fun W=>Box W w.heap.size 24 #[.int .i64 0,.int .i64 0,.string ⟨#[]⟩,.slice none 0 0]∧Below w.heap.size w W) ⟨Box.new w _ _,below1 w _⟩ ?_
 rintro W0 ⟨r0,hU⟩
 have RB:=hid r0
 have HP:=hid (hP.below hU)
 have HU:Hid (Upd w W0 b):=hid (Upd.below hU b)
 have HZ:Hid (w.heap.size<W0.heap.size):=hid r0.lt
 have hz0:=r0.lt
 have HZW:Hid (W0.heap.size≤W0.heap.size):=hid (Nat.le_refl _)
 clear r0 hU hP
 go_wp2_with fail
 refine (h.inner HP.out (by omega)).mono ?_
 rintro e w1 (⟨x1,k1,cs1,hr,hk1,hk2,rfl,hn,hx,hu⟩ | ⟨hr,rfl,hu⟩)
 rotate_left
 ·exact⟨rfl,.inr ⟨HR.out.trans (Pars.and_no hr),rfl,HU.out.trans hu⟩⟩
 have hlt1:=got_lt hr rfl
 replace HR:=hid (HR.out.trans (Pars.and_some hr))
 have HN1:Hid (NodeAt _ (fun g=>W0.heap.size≤g) x1 cs1):=hid (hn.weak (fun g hg=>by have:=HZW.out;omega))
 have hcs1:(Tryz.prog.info? 24).map (·.size)=some cs1.size:=by rw[NodeAt.size hn];exact info_nod
 have h41:(4:Nat)=cs1.size:=(NodeAt.size hn).symm
 have hone1:=NodeAt.one hn
 have HCS1:=hid hcs1
 have H41:=hid h41
 have HONE1:=hid hone1
 replace RB:=bg RB hu
 replace HP:=hid (HP.out.upd hx hu (by omega))
 replace HU:=hid (HU.out.trans hu)
 replace HZW:=hid (Nat.le_trans HZW.out hu.size)
 clear hr hn hx hu hcs1 h41 hone1
 have hle1:=HP.out.kle
 obtain⟨v1,hlit,hvo⟩:=NodeAt.lit HN1.out
 rw[hlit] at HN1 HCS1 H41 HONE1 ⊢
 have HVO1:=hid hvo
 clear hlit hvo
 go_wp2_with fail
 refine (h.block HP.out (by omega)).mono ?_
 rintro e w2 (⟨x2,k2,cs2,hr,hk1,hk2,rfl,hn,hx,hu⟩ | ⟨hr,rfl,hu⟩)
 rotate_left
 ·exact⟨rfl,.inr ⟨HR.out.trans (Pars.and_no hr),rfl,HU.out.trans hu⟩⟩
 have hlt2:=got_lt hr rfl
 replace HR:=hid (HR.out.trans (Pars.and_some hr))
 have HN2:Hid (NodeAt _ (fun g=>W0.heap.size≤g) x2 cs2):=hid (hn.weak (fun g hg=>by have:=HZW.out;omega))
 have hcs2:(Tryz.prog.info? 24).map (·.size)=some cs2.size:=by rw[NodeAt.size hn];exact info_nod
 have h42:(4:Nat)=cs2.size:=(NodeAt.size hn).symm
 have hone2:=NodeAt.one hn
 have HCS2:=hid hcs2
 have H42:=hid h42
 have HONE2:=hid hone2
 replace RB:=bg RB hu
 replace HN1:=hid (HN1.out.upd hu (fun g hg=>by first | omega | (simp only at hg;omega)))
 replace HP:=hid (HP.out.upd hx hu (by omega))
 replace HU:=hid (HU.out.trans hu)
 replace HZW:=hid (Nat.le_trans HZW.out hu.size)
 clear hr hn hx hu hcs2 h42 hone2
 have hle2:=HP.out.kle
 obtain⟨v2,hlit,hvo⟩:=NodeAt.lit HN2.out
 rw[hlit] at HN2 HCS2 H42 HONE2 ⊢
 have HVO2:=hid hvo
 clear hlit hvo
 have hoz:W0.heap.size≤w2.heap.size:=HZW.out
 have hb1:Below w2.heap.size w2 (w2.alloc (.cells #[.int .i64 x1.kind,.int .i64 x1.num,.string (byt x1.text),v1,.int .i64 x2.kind,.int .i64 x2.num,.string (byt x2.text),v2] 24)):=below1 w2 _
 have HNB:Hid (Box ((w2.alloc (.cells #[.int .i64 x1.kind,.int .i64 x1.num,.string (byt x1.text),v1,.int .i64 x2.kind,.int .i64 x2.num,.string (byt x2.text),v2] 24)).alloc (.cells #[.int .i64 0,.int .i64 0,.string ⟨#[]⟩,.slice none 0 0] 24)) (w2.heap.size+1) 24 #[.int .i64 0,.int .i64 0,.string ⟨#[]⟩,.slice none 0 0]):=hid (by have:=Box.new (w2.alloc (.cells #[.int .i64 x1.kind,.int .i64 x1.num,.string (byt x1.text),v1,.int .i64 x2.kind,.int .i64 x2.num,.string (byt x2.text),v2] 24)) 24 #[.int .i64 0,.int .i64 0,.string ⟨#[]⟩,.slice none 0 0];simpa using this)
 have HKB:Hid (Box ((w2.alloc (.cells #[.int .i64 x1.kind,.int .i64 x1.num,.string (byt x1.text),v1,.int .i64 x2.kind,.int .i64 x2.num,.string (byt x2.text),v2] 24)).alloc (.cells #[.int .i64 0,.int .i64 0,.string ⟨#[]⟩,.slice none 0 0] 24)) w2.heap.size 24 #[.int .i64 x1.kind,.int .i64 x1.num,.string (byt x1.text),v1,.int .i64 x2.kind,.int .i64 x2.num,.string (byt x2.text),v2]):=hid ((Box.new w2 _ _).alloc _)
 have HBB:Hid (Below w2.heap.size w2 ((w2.alloc (.cells #[.int .i64 x1.kind,.int .i64 x1.num,.string (byt x1.text),v1,.int .i64 x2.kind,.int .i64 x2.num,.string (byt x2.text),v2] 24)).alloc (.cells #[.int .i64 0,.int .i64 0,.string ⟨#[]⟩,.slice none 0 0] 24))):=hid (hb1.alloc (by simp) _)
 clear hb1
 go_upto_region 2 with (refine wpList_store_box rfl 24 (.tmp 3) (.tmp 9) rfl (w2.heap.size+1) #[.int .i64 22,.int .i64 0,.string ⟨#[]⟩,.slice (some ⟨w2.heap.size,0,none⟩) 2 2] rfl rfl 24 _ HNB.out info_nod rfl (nz_one _ _ _ _ _ _) ?_;intro w3 hx hv hz;have HZ3:=hid hz;clear hz)
 have hb:Below w2.heap.size w2 w3:=HBB.out.trans (hv.own (by omega) HBB.out.size)
 have hkb:=Box.grown HKB.out hv (by intro h;injection h with h;omega)
 have OB:=hid hx
 have hk1:NodeAt w3 (fun g=>W0.heap.size≤g∧g≠w2.heap.size+1∧(Value.slice (some ⟨w2.heap.size,0,none⟩) 2 2).ownBlock≠some g) x1 #[.int .i64 x1.kind,.int .i64 x1.num,.string (byt x1.text),v1]:=NodeAt.keep (fun g hs hg=>⟨hs,by omega,by simp only[Value.ownBlock];intro e;injection e with e;omega⟩) hb.size (fun g _ hg=>hb.block g hg) HN1.out
 have hk2:NodeAt w3 (fun g=>W0.heap.size≤g∧g≠w2.heap.size+1∧(Value.slice (some ⟨w2.heap.size,0,none⟩) 2 2).ownBlock≠some g) x2 #[.int .i64 x2.kind,.int .i64 x2.num,.string (byt x2.text),v2]:=NodeAt.keep (fun g hs hg=>⟨hs,by omega,by simp only[Value.ownBlock];intro e;injection e with e;omega⟩) hb.size (fun g _ hg=>hb.block g hg) HN2.out
 have KOF:Hid (KO w3 W0.heap.size (w2.heap.size+1) [x1,x2] (Value.slice (some ⟨w2.heap.size,0,none⟩) 2 2)):=hid ⟨by simp only[Value.ownBlock];intro e;injection e with e;omega,[#[.int .i64 x1.kind,.int .i64 x1.num,.string (byt x1.text),v1], #[.int .i64 x2.kind,.int .i64 x2.num,.string (byt x2.text),v2]],box_own (cur:=flatA [#[.int .i64 x1.kind,.int .i64 x1.num,.string (byt x1.text),v1], #[.int .i64 x2.kind,.int .i64 x2.num,.string (byt x2.text),v2]]) hoz hkb (Nat.le_refl _) (by decide) rfl rfl rfl,⟨hk1,hk2,trivial⟩⟩
 replace RB:=bl RB hb
 replace HP:=hid (HP.out.below hb)
 replace HU:=hid (HU.out.step hb)
 replace HZW:=hid (Nat.le_trans HZW.out hb.size)
 clear hx hv hb hkb hk1 hk2 HNB HKB HBB
 go_wp2_with fail
 refine (is_any Pars.wElse _ b ts A c k2 fn lp HP.out).mono ?_
 rintro e w4 (⟨hi,hk,rfl,hx,hu⟩ | ⟨hi,rfl,hx,hu⟩)
 rotate_left
 ·replace HR:=hid (HR.out.trans (Pars.alt_no hi))
  replace RB:=bg RB hu
  replace OB:=bg OB hu
  replace KOF:=hid (KOF.out.upd hu (by omega))
  replace HP:=hid (HP.out.upd hx hu (by omega))
  replace HU:=hid (HU.out.trans hu)
  replace HZW:=hid (Nat.le_trans HZW.out hu.size)
  clear hi hx hu
  have ob:=OB.out
  go_wp2_with (first | (refine wpList_load_row rfl 24 (.tmp 3) rfl (w2.heap.size+1) rfl _ (nc 22 0 [] (Value.slice (some ⟨w2.heap.size,0,none⟩) 2 2)) (0,0) _ ob Tryz.underlying24 rfl info_nod ?_) | (refine wpList_store_box rfl 24 (.tmp 2) (.tmp 28) rfl w.heap.size (nc 22 0 [] (Value.slice (some ⟨w2.heap.size,0,none⟩) 2 2)) rfl rfl 24 _ RB.out info_nod rfl (nc_own _ _ _ KOF.out) ?_;intro wy hxz huz hzz;have HZZ:=hid hzz;clear hzz))
  refine bodyPost_ret (results_box rfl _ _ w.heap.size 24 _ _ rfl hxz Tryz.underlying24 rfl info_nod) rfl ?_
  exact .inl ⟨.mk 22 0 [] ([x1,x2]),k2,_,HR.out,by omega,HP.out.kle,rfl,((KOF.out.node 22 0 []).upd huz (fun g hg=>by have:=hg.1;omega)).weak (fun g hg=>by have:=hg.1;omega),Box.grown HP.out.box huz (by intro h;injection h with h;omega),Upd.fresh HU.out huz (Nat.le_refl _)⟩
 replace HR:=hid (HR.out.trans (Pars.alt_some hi))
 replace RB:=bg RB hu
 replace OB:=bg OB hu
 replace KOF:=hid (KOF.out.upd hu (by omega))
 replace HP:=hid (HP.out.upd hx hu (by omega))
 replace HU:=hid (HU.out.trans hu)
 replace HZW:=hid (Nat.le_trans HZW.out hu.size)
 clear hi hx hu
 go_wp2_with fail
 refine (is_any Pars.wIf _ b ts A c (k2+1) fn lp HP.out).mono ?_
 rintro e w5 (⟨hi,hk',rfl,hx,hu⟩ | ⟨hi,rfl,hx,hu⟩)
 ·replace HR:=hid (HR.out.trans (Pars.alt_some hi))
  replace RB:=bg RB hu
  replace OB:=bg OB hu
  replace KOF:=hid (KOF.out.upd hu (by omega))
  replace HP:=hid (HP.out.upd hx hu (by omega))
  replace HU:=hid (HU.out.trans hu)
  replace HZW:=hid (Nat.le_trans HZW.out hu.size)
  clear hi hx hu
  go_upto_region 4 with fail
  refine wp_region_until 5 (fun w'=>Box w' (w2.heap.size+1) 24 #[.int .i64 22,.int .i64 0,.string ⟨#[]⟩,Value.slice (some ⟨w2.heap.size,0,none⟩) 2 2]) (by kernel_rfl) OB.out.drew (fun hHeld=> ?_)
  obtain⟨wd_3,hwd⟩:∃wd_3,w5.drew=wd_3:=⟨_,rfl⟩
  have hb:Below w5.heap.size w5 wd_3:=hwd ▸ (Below.refl _ w5).drew
  (try rw[hwd] at hHeld)
  (try rw[hwd])
  clear hwd hHeld
  replace RB:=bl RB hb
  replace OB:=bl OB hb
  replace KOF:=hid (KOF.out.below hb)
  replace HP:=hid (HP.out.below hb)
  replace HU:=hid (HU.out.step hb)
  replace HZW:=hid (Nat.le_trans HZW.out hb.size)
  clear hb
  refine tU (i:=0) (v:= ?_) rfl ?_ (.inr OB.out) ?_
  rotate_left
  ·intro w hSw
   go_simp
   try (with_reducible rfl)
  (try simp only[Act.put,sq])
  refine tU (i:=2) (v:= ?_) rfl ?_ (.inr OB.out) ?_
  rotate_left
  ·intro w hSw
   go_simp
   try (with_reducible rfl)
  (try simp only[Act.put,sq])
  refine tV (i:=1) (v:=Value.slice (some ⟨w2.heap.size,0,none⟩) 2 2) rfl ?_ OB.out ?_
  ·intro w hSw
   have c3:=hSw.cell 3
   simp at c3
   go_simp
  (try simp only[Act.put,sq])
  refine rdU 3 rfl fun K hK=> ?_
  go_simp
  refine (h.ifs HP.out (by omega)).mono ?_
  rintro e wc_3 (⟨x3,k3,cs3,hr,hk1,hk2,rfl,hn,hx,hu⟩ | ⟨hr,rfl,hu⟩)
  rotate_left
  ·exact⟨rfl,.inr ⟨HR.out.trans (Pars.and_no hr),rfl,HU.out.trans hu⟩⟩
  have hlt3:=got_lt hr rfl
  replace HR:=hid (HR.out.trans (Pars.and_some hr))
  have hrl:=KOF.out.row
  have HN3:Hid (NodeAt wc_3 (fun g=>W0.heap.size≤g∧g≠w2.heap.size+1∧(Value.slice (some ⟨w2.heap.size,0,none⟩) 2 2).ownBlock≠some g) x3 cs3):=hid (hn.weak (fun g hg=>⟨by have:=HZW.out;omega,by have:=OB.out.lt;omega,fun e=>by obtain⟨_,ho,_⟩:=hrl;have:=(ho.lt g e).2;omega⟩))
  clear hrl
  replace RB:=bg RB hu
  replace OB:=bg OB hu
  replace KOF:=hid (KOF.out.upd hu (by omega))
  replace HP:=hid (HP.out.upd hx hu (by omega))
  replace HU:=hid (HU.out.trans hu)
  replace HZW:=hid (Nat.le_trans HZW.out hu.size)
  clear hr hn hx hu
  obtain⟨v3,hlit,hvo⟩:=NodeAt.lit HN3.out
  rw[hlit] at HN3 ⊢
  have HVO3:=hid hvo
  clear hlit hvo
  go_wp2_with fail
  refine hK.out _ _ (.inr OB.out) (fun hHeld=> ?_)
  clear hK hHeld K
  (try simp only[Act.put,sq])
  refine rdU 4 rfl fun K hK=> ?_
  go_simp
  have bxB:=Box.new wc_3 24 #[.int .i64 x3.kind,.int .i64 x3.num,.string (byt x3.text),v3]
  have hb:Below wc_3.heap.size wc_3 (wc_3.alloc (.cells #[.int .i64 x3.kind,.int .i64 x3.num,.string (byt x3.text),v3] 24)):=below1 wc_3 _
  obtain⟨wb_3,hwb⟩:∃wb_3,(wc_3.alloc (.cells #[.int .i64 x3.kind,.int .i64 x3.num,.string (byt x3.text),v3] 24))=wb_3:=⟨_,rfl⟩
  rw[hwb] at bxB hb
  rw[hwb]
  clear hwb
  have BXB:=hid bxB
  have HBA:Hid (wc_3.heap.size<wb_3.heap.size):=hid bxB.lt
  replace RB:=bl RB hb
  replace OB:=bl OB hb
  replace KOF:=hid (KOF.out.below hb)
  replace HP:=hid (HP.out.below hb)
  replace HU:=hid (HU.out.step hb)
  replace HZW:=hid (Nat.le_trans HZW.out hb.size)
  replace HN3:=hid (HN3.out.below hb)
  refine hK.out _ _ (.inr OB.out) (fun hHeld=> ?_)
  clear hK hHeld K
  (try simp only[Act.put,sq])
  clear hb bxB
  refine rdU 5 rfl fun K hK=> ?_
  obtain⟨css,hrow,hkn⟩:=KOF.out.row
  have hll:2≤1000:=by simp
  refine step_append_lies _ rfl (.tmp 15) (.tmp 18) 22 rfl W0.heap.size 24 i0 _ 4 56 Tryz.underlying22 hi0 hi1 hi2 hi3 rfl (by decide) (Value.slice (some ⟨w2.heap.size,0,none⟩) 2 2) 2 (flatA css) (by simp[Act.eval,Act.put]) hrow ⟨wc_3.heap.size,0,none⟩ 1 1 [.int .i64 x3.kind,.int .i64 x3.num,.string (byt x3.text),v3] (by simp[Act.eval,Act.put]) rfl (by exact World.news_of_block BXB.out) (by have hv:=HVO3.out;intro u hu;simp only[List.mem_cons,List.not_mem_nil,or_false] at hu;rcases hu with rfl | rfl | rfl | rfl;rfl;rfl;rfl;exact hv) (by omega) (by unfold maxLen;omega) (by omega) HZW.out wb_3.heap.size rfl ?_
  intro g7_3 cap7_3 w7_3 hown7 hgr7 hor7 hlt7
  have hbB:Below W0.heap.size wb_3 w7_3:=below_grown hgr7 HZW.out (fun q hq=>(hrow.lt q hq).1)
  have hob:=OB.out.lt
  have KO7:KO w7_3 W0.heap.size (w2.heap.size+1) ([x1,x2]++[x3]) (Value.slice (some ⟨g7_3,0,none⟩) 3 cap7_3):=KOF.out.snoc css hrow hkn HN3.out hown7 hgr7 hor7 hob
  replace OB:=hid (Box.grown OB.out hgr7 (fun e=>KOF.out.ne e.symm))
  replace RB:=hid ((hbB.block _ (by omega)).trans RB.out)
  replace HP:=hid (HP.out.belowB hbB (by omega) (fun hn g o e=>by have:=HAB.out hn g o e;omega))
  replace HU:=hid (HU.out.belowB hbB (by omega))
  replace HZW:=hid (Nat.le_trans HZW.out hbB.size)
  have KOG:=hid KO7
  refine hK.out _ _ (.inl rfl) (fun hHeld=> ?_)
  clear hK hHeld K
  (try simp only[Act.put,sq])
  clear hown7 hgr7 hor7 hlt7 hbB hrow hkn KO7 hob
  refine rdU 6 rfl fun K hK=> ?_
  go_simp
  refine hK.out _ _ (.inl rfl) (fun hHeld=> ?_)
  clear hK hHeld K
  (try simp only[Act.put,sq])
  refine rdU 7 rfl fun K hK=> ?_
  have c3:=OB.out.cell 3
  have f3:w7_3.frozen? ⟨w2.heap.size+1,3,none⟩=false:=OB.out.frozen 3
  simp at c3
  go_simp
  have hu8:Upd w7_3 (w7_3.setCell ⟨w2.heap.size+1,3,none⟩ (Value.slice (some ⟨g7_3,0,none⟩) 3 cap7_3)) (w2.heap.size+1):=(Upd.refl _ _).set (.inl rfl) _
  have OB8:=OB.out.set 3 (Value.slice (some ⟨g7_3,0,none⟩) 3 cap7_3)
  obtain⟨wz_3,hwz⟩:∃wz_3,(w7_3.setCell ⟨w2.heap.size+1,3,none⟩ (Value.slice (some ⟨g7_3,0,none⟩) 3 cap7_3))=wz_3:=⟨_,rfl⟩
  rw[hwz] at hu8 OB8
  rw[hwz]
  clear hwz
  simp at OB8
  replace OB:=hid OB8
  replace KOF:=hid (KOG.out.self hu8)
  replace RB:=bg RB hu8
  have hbo:Below w.heap.size w7_3 wz_3:=hu8.own (by omega) (by have:=HU.out.size;omega)
  replace HP:=hid (HP.out.belowB hbo (by omega) (fun hn g o e=>HAB.out hn g o e))
  replace HU:=hid (HU.out.belowB hbo (Nat.le_refl _))
  replace HZW:=hid (Nat.le_trans HZW.out hu8.size)
  refine hK.out _ _ (.inl rfl) (fun hHeld=> ?_)
  clear hK hHeld K
  (try simp only[Act.put,sq])
  clear hu8 OB8 hbo KOG BXB HBA c3 f3
  refine wpAnyU_done (by kernel_rfl) ?_ _
  have hle3:=HP.out.kle
  have ob:=OB.out
  go_wp2_with (first | (refine wpList_load_row rfl 24 (.tmp 3) rfl (w2.heap.size+1) rfl _ (nc 22 0 [] (Value.slice (some ⟨g7_3,0,none⟩) 3 cap7_3)) (0,0) _ ob Tryz.underlying24 rfl info_nod ?_) | (refine wpList_store_box rfl 24 (.tmp 2) (.tmp 28) rfl w.heap.size (nc 22 0 [] (Value.slice (some ⟨g7_3,0,none⟩) 3 cap7_3)) rfl rfl 24 _ RB.out info_nod rfl (nc_own _ _ _ KOF.out) ?_;intro wy hxz huz hzz;have HZZ:=hid hzz;clear hzz))
  refine bodyPost_ret (results_box rfl _ _ w.heap.size 24 _ _ rfl hxz Tryz.underlying24 rfl info_nod) rfl ?_
  exact .inl ⟨.mk 22 0 [] ([x1,x2]++[x3]),k3,_,HR.out,by omega,HP.out.kle,rfl,((KOF.out.node 22 0 []).upd huz (fun g hg=>by have:=hg.1;omega)).weak (fun g hg=>by have:=hg.1;omega),Box.grown HP.out.box huz (by intro h;injection h with h;omega),Upd.fresh HU.out huz (Nat.le_refl _)⟩
 ·replace HR:=hid (HR.out.trans (Pars.alt_no hi))
  replace RB:=bg RB hu
  replace OB:=bg OB hu
  replace KOF:=hid (KOF.out.upd hu (by omega))
  replace HP:=hid (HP.out.upd hx hu (by omega))
  replace HU:=hid (HU.out.trans hu)
  replace HZW:=hid (Nat.le_trans HZW.out hu.size)
  clear hi hx hu
  go_upto_region 5 with fail
  refine wp_region_until 5 (fun w'=>Box w' (w2.heap.size+1) 24 #[.int .i64 22,.int .i64 0,.string ⟨#[]⟩,Value.slice (some ⟨w2.heap.size,0,none⟩) 2 2]) (by kernel_rfl) OB.out.drew (fun hHeld=> ?_)
  obtain⟨wd_3,hwd⟩:∃wd_3,w5.drew=wd_3:=⟨_,rfl⟩
  have hb:Below w5.heap.size w5 wd_3:=hwd ▸ (Below.refl _ w5).drew
  (try rw[hwd] at hHeld)
  (try rw[hwd])
  clear hwd hHeld
  replace RB:=bl RB hb
  replace OB:=bl OB hb
  replace KOF:=hid (KOF.out.below hb)
  replace HP:=hid (HP.out.below hb)
  replace HU:=hid (HU.out.step hb)
  replace HZW:=hid (Nat.le_trans HZW.out hb.size)
  clear hb
  refine tU (i:=0) (v:= ?_) rfl ?_ (.inr OB.out) ?_
  rotate_left
  ·intro w hSw
   go_simp
   try (with_reducible rfl)
  (try simp only[Act.put,sq])
  refine tU (i:=2) (v:= ?_) rfl ?_ (.inr OB.out) ?_
  rotate_left
  ·intro w hSw
   go_simp
   try (with_reducible rfl)
  (try simp only[Act.put,sq])
  refine tV (i:=1) (v:=Value.slice (some ⟨w2.heap.size,0,none⟩) 2 2) rfl ?_ OB.out ?_
  ·intro w hSw
   have c3:=hSw.cell 3
   simp at c3
   go_simp
  (try simp only[Act.put,sq])
  refine rdU 3 rfl fun K hK=> ?_
  go_simp
  refine (h.block HP.out (by omega)).mono ?_
  rintro e wc_3 (⟨x3,k3,cs3,hr,hk1,hk2,rfl,hn,hx,hu⟩ | ⟨hr,rfl,hu⟩)
  rotate_left
  ·exact⟨rfl,.inr ⟨HR.out.trans (Pars.and_no hr),rfl,HU.out.trans hu⟩⟩
  have hlt3:=got_lt hr rfl
  replace HR:=hid (HR.out.trans (Pars.and_some hr))
  have hrl:=KOF.out.row
  have HN3:Hid (NodeAt wc_3 (fun g=>W0.heap.size≤g∧g≠w2.heap.size+1∧(Value.slice (some ⟨w2.heap.size,0,none⟩) 2 2).ownBlock≠some g) x3 cs3):=hid (hn.weak (fun g hg=>⟨by have:=HZW.out;omega,by have:=OB.out.lt;omega,fun e=>by obtain⟨_,ho,_⟩:=hrl;have:=(ho.lt g e).2;omega⟩))
  clear hrl
  replace RB:=bg RB hu
  replace OB:=bg OB hu
  replace KOF:=hid (KOF.out.upd hu (by omega))
  replace HP:=hid (HP.out.upd hx hu (by omega))
  replace HU:=hid (HU.out.trans hu)
  replace HZW:=hid (Nat.le_trans HZW.out hu.size)
  clear hr hn hx hu
  obtain⟨v3,hlit,hvo⟩:=NodeAt.lit HN3.out
  rw[hlit] at HN3 ⊢
  have HVO3:=hid hvo
  clear hlit hvo
  go_wp2_with fail
  refine hK.out _ _ (.inr OB.out) (fun hHeld=> ?_)
  clear hK hHeld K
  (try simp only[Act.put,sq])
  refine rdU 4 rfl fun K hK=> ?_
  go_simp
  have bxB:=Box.new wc_3 24 #[.int .i64 x3.kind,.int .i64 x3.num,.string (byt x3.text),v3]
  have hb:Below wc_3.heap.size wc_3 (wc_3.alloc (.cells #[.int .i64 x3.kind,.int .i64 x3.num,.string (byt x3.text),v3] 24)):=below1 wc_3 _
  obtain⟨wb_3,hwb⟩:∃wb_3,(wc_3.alloc (.cells #[.int .i64 x3.kind,.int .i64 x3.num,.string (byt x3.text),v3] 24))=wb_3:=⟨_,rfl⟩
  rw[hwb] at bxB hb
  rw[hwb]
  clear hwb
  have BXB:=hid bxB
  have HBA:Hid (wc_3.heap.size<wb_3.heap.size):=hid bxB.lt
  replace RB:=bl RB hb
  replace OB:=bl OB hb
  replace KOF:=hid (KOF.out.below hb)
  replace HP:=hid (HP.out.below hb)
  replace HU:=hid (HU.out.step hb)
  replace HZW:=hid (Nat.le_trans HZW.out hb.size)
  replace HN3:=hid (HN3.out.below hb)
  refine hK.out _ _ (.inr OB.out) (fun hHeld=> ?_)
  clear hK hHeld K
  (try simp only[Act.put,sq])
  clear hb bxB
  refine rdU 5 rfl fun K hK=> ?_
  obtain⟨css,hrow,hkn⟩:=KOF.out.row
  have hll:2≤1000:=by simp
  refine step_append_lies _ rfl (.tmp 22) (.tmp 25) 22 rfl W0.heap.size 24 i0 _ 4 56 Tryz.underlying22 hi0 hi1 hi2 hi3 rfl (by decide) (Value.slice (some ⟨w2.heap.size,0,none⟩) 2 2) 2 (flatA css) (by simp[Act.eval,Act.put]) hrow ⟨wc_3.heap.size,0,none⟩ 1 1 [.int .i64 x3.kind,.int .i64 x3.num,.string (byt x3.text),v3] (by simp[Act.eval,Act.put]) rfl (by exact World.news_of_block BXB.out) (by have hv:=HVO3.out;intro u hu;simp only[List.mem_cons,List.not_mem_nil,or_false] at hu;rcases hu with rfl | rfl | rfl | rfl;rfl;rfl;rfl;exact hv) (by omega) (by unfold maxLen;omega) (by omega) HZW.out wb_3.heap.size rfl ?_
  intro g7_3 cap7_3 w7_3 hown7 hgr7 hor7 hlt7
  have hbB:Below W0.heap.size wb_3 w7_3:=below_grown hgr7 HZW.out (fun q hq=>(hrow.lt q hq).1)
  have hob:=OB.out.lt
  have KO7:KO w7_3 W0.heap.size (w2.heap.size+1) ([x1,x2]++[x3]) (Value.slice (some ⟨g7_3,0,none⟩) 3 cap7_3):=KOF.out.snoc css hrow hkn HN3.out hown7 hgr7 hor7 hob
  replace OB:=hid (Box.grown OB.out hgr7 (fun e=>KOF.out.ne e.symm))
  replace RB:=hid ((hbB.block _ (by omega)).trans RB.out)
  replace HP:=hid (HP.out.belowB hbB (by omega) (fun hn g o e=>by have:=HAB.out hn g o e;omega))
  replace HU:=hid (HU.out.belowB hbB (by omega))
  replace HZW:=hid (Nat.le_trans HZW.out hbB.size)
  have KOG:=hid KO7
  refine hK.out _ _ (.inl rfl) (fun hHeld=> ?_)
  clear hK hHeld K
  (try simp only[Act.put,sq])
  clear hown7 hgr7 hor7 hlt7 hbB hrow hkn KO7 hob
  refine rdU 6 rfl fun K hK=> ?_
  go_simp
  refine hK.out _ _ (.inl rfl) (fun hHeld=> ?_)
  clear hK hHeld K
  (try simp only[Act.put,sq])
  refine rdU 7 rfl fun K hK=> ?_
  have c3:=OB.out.cell 3
  have f3:w7_3.frozen? ⟨w2.heap.size+1,3,none⟩=false:=OB.out.frozen 3
  simp at c3
  go_simp
  have hu8:Upd w7_3 (w7_3.setCell ⟨w2.heap.size+1,3,none⟩ (Value.slice (some ⟨g7_3,0,none⟩) 3 cap7_3)) (w2.heap.size+1):=(Upd.refl _ _).set (.inl rfl) _
  have OB8:=OB.out.set 3 (Value.slice (some ⟨g7_3,0,none⟩) 3 cap7_3)
  obtain⟨wz_3,hwz⟩:∃wz_3,(w7_3.setCell ⟨w2.heap.size+1,3,none⟩ (Value.slice (some ⟨g7_3,0,none⟩) 3 cap7_3))=wz_3:=⟨_,rfl⟩
  rw[hwz] at hu8 OB8
  rw[hwz]
  clear hwz
  simp at OB8
  replace OB:=hid OB8
  replace KOF:=hid (KOG.out.self hu8)
  replace RB:=bg RB hu8
  have hbo:Below w.heap.size w7_3 wz_3:=hu8.own (by omega) (by have:=HU.out.size;omega)
  replace HP:=hid (HP.out.belowB hbo (by omega) (fun hn g o e=>HAB.out hn g o e))
  replace HU:=hid (HU.out.belowB hbo (Nat.le_refl _))
  replace HZW:=hid (Nat.le_trans HZW.out hu8.size)
  refine hK.out _ _ (.inl rfl) (fun hHeld=> ?_)
  clear hK hHeld K
  (try simp only[Act.put,sq])
  clear hu8 OB8 hbo KOG BXB HBA c3 f3
  refine wpAnyU_done (by kernel_rfl) ?_ _
  have hle3:=HP.out.kle
  have ob:=OB.out
  go_wp2_with (first | (refine wpList_load_row rfl 24 (.tmp 3) rfl (w2.heap.size+1) rfl _ (nc 22 0 [] (Value.slice (some ⟨g7_3,0,none⟩) 3 cap7_3)) (0,0) _ ob Tryz.underlying24 rfl info_nod ?_) | (refine wpList_store_box rfl 24 (.tmp 2) (.tmp 28) rfl w.heap.size (nc 22 0 [] (Value.slice (some ⟨g7_3,0,none⟩) 3 cap7_3)) rfl rfl 24 _ RB.out info_nod rfl (nc_own _ _ _ KOF.out) ?_;intro wy hxz huz hzz;have HZZ:=hid hzz;clear hzz))
  refine bodyPost_ret (results_box rfl _ _ w.heap.size 24 _ _ rfl hxz Tryz.underlying24 rfl info_nod) rfl ?_
  exact .inl ⟨.mk 22 0 [] ([x1,x2]++[x3]),k3,_,HR.out,by omega,HP.out.kle,rfl,((KOF.out.node 22 0 []).upd huz (fun g hg=>by have:=hg.1;omega)).weak (fun g hg=>by have:=hg.1;omega),Box.grown HP.out.box huz (by intro h;injection h with h;omega),Upd.fresh HU.out huz (Nat.le_refl _)⟩
end Go.Proofs.YtflmjbmdmoifhaaGreatDoor
namespace Go.Proofs.YtflmjbmdmoifhaaGreatDoor
open Go.Lib (hid)
open Go.RowKit
set_option maxRecDepth 100000 in
set_option maxHeartbeats 4000000 in
theorem block_step {n:Nat} (hall:∀m,m≤n→All m):∀{w:World} {b:Nat} {ts:List KT} {A:Option Addr} {c k:Nat} {fn lp:Bool},PSt w b ts A c k fn lp→20 * (ts.length - k)+1<n+1→Calls Tryz.prog 86 #[.pointer (some ⟨b,0,none⟩)] w (Got w b ts A c k fn lp (Pars.run (n+1) .block fn lp (left ts k))):=by
 have h:=hall n (Nat.le_refl _)
 intro w b ts A c k fn lp hP hm
 obtain⟨i0,hi0,hi1,hi2,hi3⟩:=info_parts parts_nod
 have HAB:=hid hP.old
 have HR:Hid (Pars.run (n+1) .block fn lp (left ts k)=_):=hid (by rw[Pars.run])
 have hbl:=hP.box.lt
 have hle:=hP.kle
 go_enter Tryz.func86,Tryz.ntmps86
 go_upto_region 1 with fail
 refine gen_world (F:=fun W=>Box W w.heap.size 24 #[.int .i64 0,.int .i64 0,.string ⟨#[]⟩,.slice none 0 0]∧Below w.heap.size w W) ⟨Box.new w _ _,below1 w _⟩ ?_
 rintro W0 ⟨r0,hU⟩
 have RB:=hid r0
 have HP:=hid (hP.below hU)
 have HU:Hid (Upd w W0 b):=hid (Upd.below hU b)
 have HZ:Hid (w.heap.size<W0.heap.size):=hid r0.lt
 have hz0:=r0.lt
 have HZW:Hid (W0.heap.size≤W0.heap.size):=hid (Nat.le_refl _)
 clear r0 hU hP
 go_wp2_with fail
 refine (must_any [123] _ b ts A c (k) fn lp HP.out).mono ?_
 rintro e w1 (⟨hi,hk,rfl,hx,hu⟩ | ⟨hi,rfl,hu⟩)
 rotate_left
 ·exact⟨rfl,.inr ⟨HR.out.trans (Pars.must_no hi),rfl,HU.out.trans hu⟩⟩
 replace HR:=hid (HR.out.trans (Pars.must_some hi))
 replace RB:=bg RB hu
 replace HP:=hid (HP.out.upd hx hu (by omega))
 replace HU:=hid (HU.out.trans hu)
 replace HZW:=hid (Nat.le_trans HZW.out hu.size)
 clear hi hx hu
 have hle1:=HP.out.kle
 go_upto_region 3 with (refine wpList_store_box rfl 24 (.tmp 3) (.tmp 6) rfl w1.heap.size #[.int .i64 30,.int .i64 0,.string ⟨#[]⟩,.slice none 0 0] rfl rfl 24 _ (Box.new w1 _ _) info_nod rfl (nz_one _ _ _ _ _ _) ?_;intro w2 hx hv hz;have HZO:=hid hz;clear hz)
 have hb:Below w1.heap.size w1 w2:=((Below.refl _ w1).alloc (Nat.le_refl _) _).trans (hv.own (Nat.le_refl _) (by simp))
 have OB:=hid hx
 have hzO:=Nat.lt_of_lt_of_le HZ.out HZW.out
 have hoB:W0.heap.size≤w1.heap.size:=HZW.out
 replace RB:=bl RB hb
 replace HP:=hid (HP.out.below hb)
 replace HU:=hid (HU.out.step hb)
 replace HZW:=hid (Nat.le_trans HZW.out hb.size)
 have KOF:=hid (KO.nil w2 W0.heap.size w1.heap.size)
 clear hx hv hb
 obtain⟨oa,hoa⟩:∃oa,w1.heap.size=oa:=⟨_,rfl⟩
 rw[hoa] at OB KOF hzO hoB ⊢
 clear hoa
 simp only[Act.put]
 go_loopg [9] (ts.length) (fun gg s9 wr=>∃(k' m:Nat) (acc:List Pars.Node) (kv:Value),ts.length - k'≤gg∧k<k'∧k'≤ts.length∧acc.length≤k'∧m≤n∧20 * (ts.length - k')+15<m∧Hid (Box wr w.heap.size 24 #[.int .i64 0,.int .i64 0,.string ⟨#[]⟩,.slice none 0 0])∧Hid (Box wr oa 24 #[.int .i64 30,.int .i64 0,.string ⟨#[]⟩,kv])∧Hid (KO wr W0.heap.size oa acc kv)∧Hid (PSt wr b ts A c k' fn lp)∧Hid (Upd w wr b)∧Hid (W0.heap.size≤wr.heap.size)∧Hid (Pars.run (n+1) .block fn lp (left ts k)=Pars.run m (.blockGo acc) fn lp (left ts k')))
 case atStart=>exact⟨k+1,n,[],_,by omega,by omega,hle1,by simp,Nat.le_refl _,by omega,RB,OB,KOF,HP,HU,HZW,HR⟩
 case round=>
  clear RB OB KOF HP HU HZW HR
  obtain⟨k',m,acc,kv,hg,hkk,hkl,hal,hmn,hmm,RB,OB,KOF,HP,HU,HZW,HRR⟩:=hrel
  obtain⟨m',rfl⟩:∃m',m=m'+1:=⟨m - 1,by omega⟩
  have hlen:=HP.out.len
  have hn:=hall m' (by omega)
  have HR:Hid (Pars.run (n+1) .block fn lp (left ts k)=_):=hid (HRR.out.trans (by rw[Pars.run]))
  clear HRR
  go_wp2_with fail
  refine (is_any [125] _ b ts A c k' fn lp HP.out).mono ?_
  rintro e w3 (⟨hi,hk,rfl,hx,hu⟩ | ⟨hi,rfl,hx,hu⟩)
  ·replace HR:=hid (HR.out.trans (Pars.alt_some hi))
   replace RB:=bg RB hu
   replace OB:=bg OB hu
   replace KOF:=hid (KOF.out.upd hu (by omega))
   replace HP:=hid (HP.out.upd hx hu (by omega))
   replace HU:=hid (HU.out.trans hu)
   replace HZW:=hid (Nat.le_trans HZW.out hu.size)
   clear hi hx hu
   have ob:=OB.out
   go_wp2_with (first | (refine wpList_load_row rfl 24 (.tmp 3) rfl (oa) rfl _ (nc 30 0 [] (kv)) (0,0) _ ob Tryz.underlying24 rfl info_nod ?_) | (refine wpList_store_box rfl 24 (.tmp 2) (.tmp 17) rfl w.heap.size (nc 30 0 [] (kv)) rfl rfl 24 _ RB.out info_nod rfl (nc_own _ _ _ KOF.out) ?_;intro wy hxz huz hzz;have HZZ:=hid hzz;clear hzz))
   refine bodyPost_ret (results_box rfl _ _ w.heap.size 24 _ _ rfl hxz Tryz.underlying24 rfl info_nod) rfl ?_
   exact .inl ⟨.mk 30 0 [] (acc),k'+1,_,HR.out,by omega,HP.out.kle,rfl,((KOF.out.node 30 0 []).upd huz (fun g hg=>by have:=hg.1;omega)).weak (fun g hg=>by have:=hg.1;omega),Box.grown HP.out.box huz (by intro h;injection h with h;omega),Upd.fresh HU.out huz (Nat.le_refl _)⟩
  replace HR:=hid (HR.out.trans (Pars.alt_no hi))
  replace RB:=bg RB hu
  replace OB:=bg OB hu
  replace KOF:=hid (KOF.out.upd hu (by omega))
  replace HP:=hid (HP.out.upd hx hu (by omega))
  replace HU:=hid (HU.out.trans hu)
  replace HZW:=hid (Nat.le_trans HZW.out hu.size)
  clear hi hx hu
  go_upto_region 4 with fail
  refine wp_region_until 5 (fun w'=>Box w' (oa) 24 #[.int .i64 30,.int .i64 0,.string ⟨#[]⟩,kv]) (by kernel_rfl) OB.out.drew (fun hHeld=> ?_)
  obtain⟨wd_3,hwd⟩:∃wd_3,w3.drew=wd_3:=⟨_,rfl⟩
  have hb:Below w3.heap.size w3 wd_3:=hwd ▸ (Below.refl _ w3).drew
  (try rw[hwd] at hHeld)
  (try rw[hwd])
  clear hwd hHeld
  replace RB:=bl RB hb
  replace OB:=bl OB hb
  replace KOF:=hid (KOF.out.below hb)
  replace HP:=hid (HP.out.below hb)
  replace HU:=hid (HU.out.step hb)
  replace HZW:=hid (Nat.le_trans HZW.out hb.size)
  clear hb
  refine tU (i:=0) (v:= ?_) rfl ?_ (.inr OB.out) ?_
  rotate_left
  ·intro w hSw
   go_simp
   try (with_reducible rfl)
  (try simp only[Act.put,sq])
  refine tU (i:=2) (v:= ?_) rfl ?_ (.inr OB.out) ?_
  rotate_left
  ·intro w hSw
   go_simp
   try (with_reducible rfl)
  (try simp only[Act.put,sq])
  refine tV (i:=1) (v:=kv) rfl ?_ OB.out ?_
  ·intro w hSw
   have c3:=hSw.cell 3
   simp at c3
   go_simp
  (try simp only[Act.put,sq])
  refine rdU 3 rfl fun K hK=> ?_
  go_simp
  refine (hn.stmt HP.out (by omega)).mono ?_
  rintro e wc_3 (⟨x3,k3,cs3,hr,hk1,hk2,rfl,hn,hx,hu⟩ | ⟨hr,rfl,hu⟩)
  rotate_left
  ·exact⟨rfl,.inr ⟨HR.out.trans (Pars.and_no hr),rfl,HU.out.trans hu⟩⟩
  have hlt3:=got_lt hr rfl
  replace HR:=hid (HR.out.trans (Pars.and_some hr))
  have hrl:=KOF.out.row
  have HN3:Hid (NodeAt wc_3 (fun g=>W0.heap.size≤g∧g≠oa∧(kv).ownBlock≠some g) x3 cs3):=hid (hn.weak (fun g hg=>⟨by have:=HZW.out;omega,by have:=OB.out.lt;omega,fun e=>by obtain⟨_,ho,_⟩:=hrl;have:=(ho.lt g e).2;omega⟩))
  clear hrl
  replace RB:=bg RB hu
  replace OB:=bg OB hu
  replace KOF:=hid (KOF.out.upd hu (by omega))
  replace HP:=hid (HP.out.upd hx hu (by omega))
  replace HU:=hid (HU.out.trans hu)
  replace HZW:=hid (Nat.le_trans HZW.out hu.size)
  clear hr hn hx hu
  obtain⟨v3,hlit,hvo⟩:=NodeAt.lit HN3.out
  rw[hlit] at HN3 ⊢
  have HVO3:=hid hvo
  clear hlit hvo
  go_wp2_with fail
  refine hK.out _ _ (.inr OB.out) (fun hHeld=> ?_)
  clear hK hHeld K
  (try simp only[Act.put,sq])
  refine rdU 4 rfl fun K hK=> ?_
  go_simp
  have bxB:=Box.new wc_3 24 #[.int .i64 x3.kind,.int .i64 x3.num,.string (byt x3.text),v3]
  have hb:Below wc_3.heap.size wc_3 (wc_3.alloc (.cells #[.int .i64 x3.kind,.int .i64 x3.num,.string (byt x3.text),v3] 24)):=below1 wc_3 _
  obtain⟨wb_3,hwb⟩:∃wb_3,(wc_3.alloc (.cells #[.int .i64 x3.kind,.int .i64 x3.num,.string (byt x3.text),v3] 24))=wb_3:=⟨_,rfl⟩
  rw[hwb] at bxB hb
  rw[hwb]
  clear hwb
  have BXB:=hid bxB
  have HBA:Hid (wc_3.heap.size<wb_3.heap.size):=hid bxB.lt
  replace RB:=bl RB hb
  replace OB:=bl OB hb
  replace KOF:=hid (KOF.out.below hb)
  replace HP:=hid (HP.out.below hb)
  replace HU:=hid (HU.out.step hb)
  replace HZW:=hid (Nat.le_trans HZW.out hb.size)
  replace HN3:=hid (HN3.out.below hb)
  refine hK.out _ _ (.inr OB.out) (fun hHeld=> ?_)
  clear hK hHeld K
  (try simp only[Act.put,sq])
  clear hb bxB
  refine rdU 5 rfl fun K hK=> ?_
  obtain⟨css,hrow,hkn⟩:=KOF.out.row
  have hll:acc.length≤1000:=by omega
  refine step_append_lies _ rfl (.tmp 11) (.tmp 14) 22 rfl W0.heap.size 24 i0 _ 4 56 Tryz.underlying22 hi0 hi1 hi2 hi3 rfl (by decide) (kv) acc.length (flatA css) (by simp[Act.eval,Act.put]) hrow ⟨wc_3.heap.size,0,none⟩ 1 1 [.int .i64 x3.kind,.int .i64 x3.num,.string (byt x3.text),v3] (by simp[Act.eval,Act.put]) rfl (by exact World.news_of_block BXB.out) (by have hv:=HVO3.out;intro u hu;simp only[List.mem_cons,List.not_mem_nil,or_false] at hu;rcases hu with rfl | rfl | rfl | rfl;rfl;rfl;rfl;exact hv) (by omega) (by unfold maxLen;omega) (by omega) HZW.out wb_3.heap.size rfl ?_
  intro g7_3 cap7_3 w7_3 hown7 hgr7 hor7 hlt7
  have hbB:Below W0.heap.size wb_3 w7_3:=below_grown hgr7 HZW.out (fun q hq=>(hrow.lt q hq).1)
  have hob:=OB.out.lt
  have KO7:KO w7_3 W0.heap.size (oa) (acc++[x3]) (Value.slice (some ⟨g7_3,0,none⟩) (acc.length+1) cap7_3):=KOF.out.snoc css hrow hkn HN3.out hown7 hgr7 hor7 hob
  replace OB:=hid (Box.grown OB.out hgr7 (fun e=>KOF.out.ne e.symm))
  replace RB:=hid ((hbB.block _ (by omega)).trans RB.out)
  replace HP:=hid (HP.out.belowB hbB (by omega) (fun hn g o e=>by have:=HAB.out hn g o e;omega))
  replace HU:=hid (HU.out.belowB hbB (by omega))
  replace HZW:=hid (Nat.le_trans HZW.out hbB.size)
  have KOG:=hid KO7
  refine hK.out _ _ (.inl rfl) (fun hHeld=> ?_)
  clear hK hHeld K
  (try simp only[Act.put,sq])
  clear hown7 hgr7 hor7 hlt7 hbB hrow hkn KO7 hob
  refine rdU 6 rfl fun K hK=> ?_
  go_simp
  refine hK.out _ _ (.inl rfl) (fun hHeld=> ?_)
  clear hK hHeld K
  (try simp only[Act.put,sq])
  refine rdU 7 rfl fun K hK=> ?_
  have c3:=OB.out.cell 3
  have f3:w7_3.frozen? ⟨oa,3,none⟩=false:=OB.out.frozen 3
  simp at c3
  go_simp
  have hu8:Upd w7_3 (w7_3.setCell ⟨oa,3,none⟩ (Value.slice (some ⟨g7_3,0,none⟩) (acc.length+1) cap7_3)) (oa):=(Upd.refl _ _).set (.inl rfl) _
  have OB8:=OB.out.set 3 (Value.slice (some ⟨g7_3,0,none⟩) (acc.length+1) cap7_3)
  obtain⟨wz_3,hwz⟩:∃wz_3,(w7_3.setCell ⟨oa,3,none⟩ (Value.slice (some ⟨g7_3,0,none⟩) (acc.length+1) cap7_3))=wz_3:=⟨_,rfl⟩
  rw[hwz] at hu8 OB8
  rw[hwz]
  clear hwz
  simp at OB8
  replace OB:=hid OB8
  replace KOF:=hid (KOG.out.self hu8)
  replace RB:=bg RB hu8
  have hbo:Below w.heap.size w7_3 wz_3:=hu8.own (by omega) (by have:=HU.out.size;omega)
  replace HP:=hid (HP.out.belowB hbo (by omega) (fun hn g o e=>HAB.out hn g o e))
  replace HU:=hid (HU.out.belowB hbo (Nat.le_refl _))
  replace HZW:=hid (Nat.le_trans HZW.out hu8.size)
  refine hK.out _ _ (.inl rfl) (fun hHeld=> ?_)
  clear hK hHeld K
  (try simp only[Act.put,sq])
  clear hu8 OB8 hbo KOG BXB HBA c3 f3
  refine wpAnyU_done (by kernel_rfl) ?_ _
  have hle3:=HP.out.kle
  go_wp2
  go_roundg (ts.length - k3)
  case measure=>omega
  case rel=>exact⟨k3,m',acc++[x3],_,by omega,by omega,hle3,by simp;omega,by omega,by omega,RB,OB,KOF,HP,HU,HZW,HR⟩
end Go.Proofs.YtflmjbmdmoifhaaGreatDoor

/-
  Texts that the law leans on: PmS, PmT, PmF, PmU, PmV. Conditions: as each says.
-/
import Derived.Test.YtflmjbmdmoifhaaGreatDoorKAk
import Derived.Test.YtflmjbmdmoifhaaGreatDoorKAg
import Derived.Recover
import Derived.Test.YtflmjbmdmoifhaaGreatDoorKAa
set_option linter.unusedSimpArgs false
set_option linter.unusedVariables false
namespace Go.Proofs.YtflmjbmdmoifhaaGreatDoor
open Go.Lib (hid)
open Go.RowKit
theorem info_rks:(Tryz.prog.info? 140).map (·.size)=some 6:=by kernel_rfl
set_option maxRecDepth 100000 in
set_option maxHeartbeats 4000000 in
theorem ranks_any (w:World):Calls Tryz.prog 107 #[] w fun e w'=>∃vs:Array Value,e= .returned (.agg vs)∧Below w.heap.size w w'∧∀r:Nat,r<6→∃g,w.heap.size≤g∧g<w'.heap.size∧(∀q,(Instr.index 140 (.agg vs) (.int .i64 (r:Int))).run Tryz.prog q= .ok (.slice (some ⟨g,0,none⟩) (Pars.ranks.getD r []).length (Pars.ranks.getD r []).length) q)∧w'.rangeAt g 0 ((Pars.ranks.getD r []).map fun s=> .string (byt s)):=by
 go_enter Tryz.func107,Tryz.ntmps107
 go_upto_region 1 with fail
 refine gen_world (F:=fun W=>Box W w.heap.size 140 #[.slice none 0 0,.slice none 0 0,.slice none 0 0,.slice none 0 0,.slice none 0 0,.slice none 0 0]∧Below w.heap.size w W∧W.heap.size=w.heap.size+1) ⟨Box.new w _ _,below1 w _,by simp⟩ ?_
 rintro w0 ⟨r0,hU,hz0⟩
 have b1:Box ((((((w0.alloc (.cells #[.string ⟨#[124,124]⟩] 9)).alloc (.cells #[.string ⟨#[38,38]⟩] 9)).alloc (.cells #[.string ⟨#[61,61]⟩,.string ⟨#[33,61]⟩] 9)).alloc (.cells #[.string ⟨#[60]⟩,.string ⟨#[60,61]⟩,.string ⟨#[62]⟩,.string ⟨#[62,61]⟩] 9)).alloc (.cells #[.string ⟨#[43]⟩,.string ⟨#[45]⟩] 9)).alloc (.cells #[.string ⟨#[42]⟩,.string ⟨#[47]⟩,.string ⟨#[37]⟩] 9)) (w.heap.size+1) 9 #[.string ⟨#[124,124]⟩]:=by
  have h:Box ((((((w0.alloc (.cells #[.string ⟨#[124,124]⟩] 9)).alloc (.cells #[.string ⟨#[38,38]⟩] 9)).alloc (.cells #[.string ⟨#[61,61]⟩,.string ⟨#[33,61]⟩] 9)).alloc (.cells #[.string ⟨#[60]⟩,.string ⟨#[60,61]⟩,.string ⟨#[62]⟩,.string ⟨#[62,61]⟩] 9)).alloc (.cells #[.string ⟨#[43]⟩,.string ⟨#[45]⟩] 9)).alloc (.cells #[.string ⟨#[42]⟩,.string ⟨#[47]⟩,.string ⟨#[37]⟩] 9)) w0.heap.size 9 #[.string ⟨#[124,124]⟩]:=(((((Box.new w0 9 #[.string ⟨#[124,124]⟩]).alloc _).alloc _).alloc _).alloc _).alloc _
  have e:w0.heap.size=w.heap.size+1:=by simp[hz0]
  rw[e] at h
  exact h
 have b2:Box ((((((w0.alloc (.cells #[.string ⟨#[124,124]⟩] 9)).alloc (.cells #[.string ⟨#[38,38]⟩] 9)).alloc (.cells #[.string ⟨#[61,61]⟩,.string ⟨#[33,61]⟩] 9)).alloc (.cells #[.string ⟨#[60]⟩,.string ⟨#[60,61]⟩,.string ⟨#[62]⟩,.string ⟨#[62,61]⟩] 9)).alloc (.cells #[.string ⟨#[43]⟩,.string ⟨#[45]⟩] 9)).alloc (.cells #[.string ⟨#[42]⟩,.string ⟨#[47]⟩,.string ⟨#[37]⟩] 9)) (w.heap.size+2) 9 #[.string ⟨#[38,38]⟩]:=by
  have h:Box ((((((w0.alloc (.cells #[.string ⟨#[124,124]⟩] 9)).alloc (.cells #[.string ⟨#[38,38]⟩] 9)).alloc (.cells #[.string ⟨#[61,61]⟩,.string ⟨#[33,61]⟩] 9)).alloc (.cells #[.string ⟨#[60]⟩,.string ⟨#[60,61]⟩,.string ⟨#[62]⟩,.string ⟨#[62,61]⟩] 9)).alloc (.cells #[.string ⟨#[43]⟩,.string ⟨#[45]⟩] 9)).alloc (.cells #[.string ⟨#[42]⟩,.string ⟨#[47]⟩,.string ⟨#[37]⟩] 9)) (w0.alloc (.cells #[.string ⟨#[124,124]⟩] 9)).heap.size 9 #[.string ⟨#[38,38]⟩]:=((((Box.new (w0.alloc (.cells #[.string ⟨#[124,124]⟩] 9)) 9 #[.string ⟨#[38,38]⟩]).alloc _).alloc _).alloc _).alloc _
  have e:(w0.alloc (.cells #[.string ⟨#[124,124]⟩] 9)).heap.size=w.heap.size+2:=by simp[hz0]
  rw[e] at h
  exact h
 have b3:Box ((((((w0.alloc (.cells #[.string ⟨#[124,124]⟩] 9)).alloc (.cells #[.string ⟨#[38,38]⟩] 9)).alloc (.cells #[.string ⟨#[61,61]⟩,.string ⟨#[33,61]⟩] 9)).alloc (.cells #[.string ⟨#[60]⟩,.string ⟨#[60,61]⟩,.string ⟨#[62]⟩,.string ⟨#[62,61]⟩] 9)).alloc (.cells #[.string ⟨#[43]⟩,.string ⟨#[45]⟩] 9)).alloc (.cells #[.string ⟨#[42]⟩,.string ⟨#[47]⟩,.string ⟨#[37]⟩] 9)) (w.heap.size+3) 9 #[.string ⟨#[61,61]⟩,.string ⟨#[33,61]⟩]:=by
  have h:Box ((((((w0.alloc (.cells #[.string ⟨#[124,124]⟩] 9)).alloc (.cells #[.string ⟨#[38,38]⟩] 9)).alloc (.cells #[.string ⟨#[61,61]⟩,.string ⟨#[33,61]⟩] 9)).alloc (.cells #[.string ⟨#[60]⟩,.string ⟨#[60,61]⟩,.string ⟨#[62]⟩,.string ⟨#[62,61]⟩] 9)).alloc (.cells #[.string ⟨#[43]⟩,.string ⟨#[45]⟩] 9)).alloc (.cells #[.string ⟨#[42]⟩,.string ⟨#[47]⟩,.string ⟨#[37]⟩] 9)) ((w0.alloc (.cells #[.string ⟨#[124,124]⟩] 9)).alloc (.cells #[.string ⟨#[38,38]⟩] 9)).heap.size 9 #[.string ⟨#[61,61]⟩,.string ⟨#[33,61]⟩]:=(((Box.new ((w0.alloc (.cells #[.string ⟨#[124,124]⟩] 9)).alloc (.cells #[.string ⟨#[38,38]⟩] 9)) 9 #[.string ⟨#[61,61]⟩,.string ⟨#[33,61]⟩]).alloc _).alloc _).alloc _
  have e:((w0.alloc (.cells #[.string ⟨#[124,124]⟩] 9)).alloc (.cells #[.string ⟨#[38,38]⟩] 9)).heap.size=w.heap.size+3:=by simp[hz0]
  rw[e] at h
  exact h
 have b4:Box ((((((w0.alloc (.cells #[.string ⟨#[124,124]⟩] 9)).alloc (.cells #[.string ⟨#[38,38]⟩] 9)).alloc (.cells #[.string ⟨#[61,61]⟩,.string ⟨#[33,61]⟩] 9)).alloc (.cells #[.string ⟨#[60]⟩,.string ⟨#[60,61]⟩,.string ⟨#[62]⟩,.string ⟨#[62,61]⟩] 9)).alloc (.cells #[.string ⟨#[43]⟩,.string ⟨#[45]⟩] 9)).alloc (.cells #[.string ⟨#[42]⟩,.string ⟨#[47]⟩,.string ⟨#[37]⟩] 9)) (w.heap.size+4) 9 #[.string ⟨#[60]⟩,.string ⟨#[60,61]⟩,.string ⟨#[62]⟩,.string ⟨#[62,61]⟩]:=by
  have h:Box ((((((w0.alloc (.cells #[.string ⟨#[124,124]⟩] 9)).alloc (.cells #[.string ⟨#[38,38]⟩] 9)).alloc (.cells #[.string ⟨#[61,61]⟩,.string ⟨#[33,61]⟩] 9)).alloc (.cells #[.string ⟨#[60]⟩,.string ⟨#[60,61]⟩,.string ⟨#[62]⟩,.string ⟨#[62,61]⟩] 9)).alloc (.cells #[.string ⟨#[43]⟩,.string ⟨#[45]⟩] 9)).alloc (.cells #[.string ⟨#[42]⟩,.string ⟨#[47]⟩,.string ⟨#[37]⟩] 9)) (((w0.alloc (.cells #[.string ⟨#[124,124]⟩] 9)).alloc (.cells #[.string ⟨#[38,38]⟩] 9)).alloc (.cells #[.string ⟨#[61,61]⟩,.string ⟨#[33,61]⟩] 9)).heap.size 9 #[.string ⟨#[60]⟩,.string ⟨#[60,61]⟩,.string ⟨#[62]⟩,.string ⟨#[62,61]⟩]:=((Box.new (((w0.alloc (.cells #[.string ⟨#[124,124]⟩] 9)).alloc (.cells #[.string ⟨#[38,38]⟩] 9)).alloc (.cells #[.string ⟨#[61,61]⟩,.string ⟨#[33,61]⟩] 9)) 9 #[.string ⟨#[60]⟩,.string ⟨#[60,61]⟩,.string ⟨#[62]⟩,.string ⟨#[62,61]⟩]).alloc _).alloc _
  have e:(((w0.alloc (.cells #[.string ⟨#[124,124]⟩] 9)).alloc (.cells #[.string ⟨#[38,38]⟩] 9)).alloc (.cells #[.string ⟨#[61,61]⟩,.string ⟨#[33,61]⟩] 9)).heap.size=w.heap.size+4:=by simp[hz0]
  rw[e] at h
  exact h
 have b5:Box ((((((w0.alloc (.cells #[.string ⟨#[124,124]⟩] 9)).alloc (.cells #[.string ⟨#[38,38]⟩] 9)).alloc (.cells #[.string ⟨#[61,61]⟩,.string ⟨#[33,61]⟩] 9)).alloc (.cells #[.string ⟨#[60]⟩,.string ⟨#[60,61]⟩,.string ⟨#[62]⟩,.string ⟨#[62,61]⟩] 9)).alloc (.cells #[.string ⟨#[43]⟩,.string ⟨#[45]⟩] 9)).alloc (.cells #[.string ⟨#[42]⟩,.string ⟨#[47]⟩,.string ⟨#[37]⟩] 9)) (w.heap.size+5) 9 #[.string ⟨#[43]⟩,.string ⟨#[45]⟩]:=by
  have h:Box ((((((w0.alloc (.cells #[.string ⟨#[124,124]⟩] 9)).alloc (.cells #[.string ⟨#[38,38]⟩] 9)).alloc (.cells #[.string ⟨#[61,61]⟩,.string ⟨#[33,61]⟩] 9)).alloc (.cells #[.string ⟨#[60]⟩,.string ⟨#[60,61]⟩,.string ⟨#[62]⟩,.string ⟨#[62,61]⟩] 9)).alloc (.cells #[.string ⟨#[43]⟩,.string ⟨#[45]⟩] 9)).alloc (.cells #[.string ⟨#[42]⟩,.string ⟨#[47]⟩,.string ⟨#[37]⟩] 9)) ((((w0.alloc (.cells #[.string ⟨#[124,124]⟩] 9)).alloc (.cells #[.string ⟨#[38,38]⟩] 9)).alloc (.cells #[.string ⟨#[61,61]⟩,.string ⟨#[33,61]⟩] 9)).alloc (.cells #[.string ⟨#[60]⟩,.string ⟨#[60,61]⟩,.string ⟨#[62]⟩,.string ⟨#[62,61]⟩] 9)).heap.size 9 #[.string ⟨#[43]⟩,.string ⟨#[45]⟩]:=(Box.new ((((w0.alloc (.cells #[.string ⟨#[124,124]⟩] 9)).alloc (.cells #[.string ⟨#[38,38]⟩] 9)).alloc (.cells #[.string ⟨#[61,61]⟩,.string ⟨#[33,61]⟩] 9)).alloc (.cells #[.string ⟨#[60]⟩,.string ⟨#[60,61]⟩,.string ⟨#[62]⟩,.string ⟨#[62,61]⟩] 9)) 9 #[.string ⟨#[43]⟩,.string ⟨#[45]⟩]).alloc _
  have e:((((w0.alloc (.cells #[.string ⟨#[124,124]⟩] 9)).alloc (.cells #[.string ⟨#[38,38]⟩] 9)).alloc (.cells #[.string ⟨#[61,61]⟩,.string ⟨#[33,61]⟩] 9)).alloc (.cells #[.string ⟨#[60]⟩,.string ⟨#[60,61]⟩,.string ⟨#[62]⟩,.string ⟨#[62,61]⟩] 9)).heap.size=w.heap.size+5:=by simp[hz0]
  rw[e] at h
  exact h
 have b6:Box ((((((w0.alloc (.cells #[.string ⟨#[124,124]⟩] 9)).alloc (.cells #[.string ⟨#[38,38]⟩] 9)).alloc (.cells #[.string ⟨#[61,61]⟩,.string ⟨#[33,61]⟩] 9)).alloc (.cells #[.string ⟨#[60]⟩,.string ⟨#[60,61]⟩,.string ⟨#[62]⟩,.string ⟨#[62,61]⟩] 9)).alloc (.cells #[.string ⟨#[43]⟩,.string ⟨#[45]⟩] 9)).alloc (.cells #[.string ⟨#[42]⟩,.string ⟨#[47]⟩,.string ⟨#[37]⟩] 9)) (w.heap.size+6) 9 #[.string ⟨#[42]⟩,.string ⟨#[47]⟩,.string ⟨#[37]⟩]:=by
  have h:Box ((((((w0.alloc (.cells #[.string ⟨#[124,124]⟩] 9)).alloc (.cells #[.string ⟨#[38,38]⟩] 9)).alloc (.cells #[.string ⟨#[61,61]⟩,.string ⟨#[33,61]⟩] 9)).alloc (.cells #[.string ⟨#[60]⟩,.string ⟨#[60,61]⟩,.string ⟨#[62]⟩,.string ⟨#[62,61]⟩] 9)).alloc (.cells #[.string ⟨#[43]⟩,.string ⟨#[45]⟩] 9)).alloc (.cells #[.string ⟨#[42]⟩,.string ⟨#[47]⟩,.string ⟨#[37]⟩] 9)) (((((w0.alloc (.cells #[.string ⟨#[124,124]⟩] 9)).alloc (.cells #[.string ⟨#[38,38]⟩] 9)).alloc (.cells #[.string ⟨#[61,61]⟩,.string ⟨#[33,61]⟩] 9)).alloc (.cells #[.string ⟨#[60]⟩,.string ⟨#[60,61]⟩,.string ⟨#[62]⟩,.string ⟨#[62,61]⟩] 9)).alloc (.cells #[.string ⟨#[43]⟩,.string ⟨#[45]⟩] 9)).heap.size 9 #[.string ⟨#[42]⟩,.string ⟨#[47]⟩,.string ⟨#[37]⟩]:=Box.new (((((w0.alloc (.cells #[.string ⟨#[124,124]⟩] 9)).alloc (.cells #[.string ⟨#[38,38]⟩] 9)).alloc (.cells #[.string ⟨#[61,61]⟩,.string ⟨#[33,61]⟩] 9)).alloc (.cells #[.string ⟨#[60]⟩,.string ⟨#[60,61]⟩,.string ⟨#[62]⟩,.string ⟨#[62,61]⟩] 9)).alloc (.cells #[.string ⟨#[43]⟩,.string ⟨#[45]⟩] 9)) 9 #[.string ⟨#[42]⟩,.string ⟨#[47]⟩,.string ⟨#[37]⟩]
  have e:(((((w0.alloc (.cells #[.string ⟨#[124,124]⟩] 9)).alloc (.cells #[.string ⟨#[38,38]⟩] 9)).alloc (.cells #[.string ⟨#[61,61]⟩,.string ⟨#[33,61]⟩] 9)).alloc (.cells #[.string ⟨#[60]⟩,.string ⟨#[60,61]⟩,.string ⟨#[62]⟩,.string ⟨#[62,61]⟩] 9)).alloc (.cells #[.string ⟨#[43]⟩,.string ⟨#[45]⟩] 9)).heap.size=w.heap.size+6:=by simp[hz0]
  rw[e] at h
  exact h
 have rb:Box ((((((w0.alloc (.cells #[.string ⟨#[124,124]⟩] 9)).alloc (.cells #[.string ⟨#[38,38]⟩] 9)).alloc (.cells #[.string ⟨#[61,61]⟩,.string ⟨#[33,61]⟩] 9)).alloc (.cells #[.string ⟨#[60]⟩,.string ⟨#[60,61]⟩,.string ⟨#[62]⟩,.string ⟨#[62,61]⟩] 9)).alloc (.cells #[.string ⟨#[43]⟩,.string ⟨#[45]⟩] 9)).alloc (.cells #[.string ⟨#[42]⟩,.string ⟨#[47]⟩,.string ⟨#[37]⟩] 9)) w.heap.size 140 _:=((((((r0.alloc _).alloc _).alloc _).alloc _).alloc _).alloc _)
 have hB:Below w.heap.size w ((((((w0.alloc (.cells #[.string ⟨#[124,124]⟩] 9)).alloc (.cells #[.string ⟨#[38,38]⟩] 9)).alloc (.cells #[.string ⟨#[61,61]⟩,.string ⟨#[33,61]⟩] 9)).alloc (.cells #[.string ⟨#[60]⟩,.string ⟨#[60,61]⟩,.string ⟨#[62]⟩,.string ⟨#[62,61]⟩] 9)).alloc (.cells #[.string ⟨#[43]⟩,.string ⟨#[45]⟩] 9)).alloc (.cells #[.string ⟨#[42]⟩,.string ⟨#[47]⟩,.string ⟨#[37]⟩] 9)):=((((((hU.alloc (by omega) _).alloc (by simp;omega) _).alloc (by simp;omega) _).alloc (by simp;omega) _).alloc (by simp;omega) _).alloc (by simp;omega) _)
 have B1:=hid b1
 have B2:=hid b2
 have B3:=hid b3
 have B4:=hid b4
 have B5:=hid b5
 have B6:=hid b6
 have RB:=hid rb
 have HB:=hid hB
 clear b1 b2 b3 b4 b5 b6 rb hB r0 hU
 have hz1:w0.heap.size+1=w.heap.size+1+1:=by omega
 go_wp2_with (refine wpList_store_box rfl 140 (.tmp 0) (.tmp 7) rfl w.heap.size #[.slice (some ⟨w.heap.size+1,0,none⟩) 1 1,.slice (some ⟨w.heap.size+2,0,none⟩) 1 1,.slice (some ⟨w.heap.size+3,0,none⟩) 2 2,.slice (some ⟨w.heap.size+4,0,none⟩) 4 4,.slice (some ⟨w.heap.size+5,0,none⟩) 2 2,.slice (some ⟨w.heap.size+6,0,none⟩) 3 3] rfl (by simp[Act.eval,hz0]) 140 _ RB.out info_rks rfl (by simp[Value.oneCell']) ?_;intro wz hxz huz hzz;have HZZ:=hid hzz;clear hzz)
 refine bodyPost_ret (results_box rfl _ _ w.heap.size 140 _ _ rfl hxz Tryz.underlying140 rfl info_rks) rfl ?_
 have hzz:=HZZ.out
 have hs0:=HB.out.size
 refine⟨_,rfl,HB.out.trans (huz.own (Nat.le_refl _) hs0),fun r hr=> ?_⟩
 have h6:r=0∨r=1∨r=2∨r=3∨r=4∨r=5:=by omega
 rcases h6 with rfl | rfl | rfl | rfl | rfl | rfl
 ·refine⟨w.heap.size+1,by omega,by have:=B1.out.lt;omega,fun q=>by kernel_rfl,fun j v hv=> ?_⟩
  rw[World.cell?_of_block (huz.block _ (by have:=B1.out.lt;exact this) (fun e=>by injection e with e;exact absurd e (by show ¬(w.heap.size+1=w.heap.size);omega))),Nat.zero_add,B1.out.cell]
  simpa [Pars.ranks,byt] using hv
 ·refine⟨w.heap.size+2,by omega,by have:=B2.out.lt;omega,fun q=>by kernel_rfl,fun j v hv=> ?_⟩
  rw[World.cell?_of_block (huz.block _ (by have:=B2.out.lt;exact this) (fun e=>by injection e with e;exact absurd e (by show ¬(w.heap.size+2=w.heap.size);omega))),Nat.zero_add,B2.out.cell]
  simpa [Pars.ranks,byt] using hv
 ·refine⟨w.heap.size+3,by omega,by have:=B3.out.lt;omega,fun q=>by kernel_rfl,fun j v hv=> ?_⟩
  rw[World.cell?_of_block (huz.block _ (by have:=B3.out.lt;exact this) (fun e=>by injection e with e;exact absurd e (by show ¬(w.heap.size+3=w.heap.size);omega))),Nat.zero_add,B3.out.cell]
  simpa [Pars.ranks,byt] using hv
 ·refine⟨w.heap.size+4,by omega,by have:=B4.out.lt;omega,fun q=>by kernel_rfl,fun j v hv=> ?_⟩
  rw[World.cell?_of_block (huz.block _ (by have:=B4.out.lt;exact this) (fun e=>by injection e with e;exact absurd e (by show ¬(w.heap.size+4=w.heap.size);omega))),Nat.zero_add,B4.out.cell]
  simpa [Pars.ranks,byt] using hv
 ·refine⟨w.heap.size+5,by omega,by have:=B5.out.lt;omega,fun q=>by kernel_rfl,fun j v hv=> ?_⟩
  rw[World.cell?_of_block (huz.block _ (by have:=B5.out.lt;exact this) (fun e=>by injection e with e;exact absurd e (by show ¬(w.heap.size+5=w.heap.size);omega))),Nat.zero_add,B5.out.cell]
  simpa [Pars.ranks,byt] using hv
 ·refine⟨w.heap.size+6,by omega,by have:=B6.out.lt;omega,fun q=>by kernel_rfl,fun j v hv=> ?_⟩
  rw[World.cell?_of_block (huz.block _ (by have:=B6.out.lt;exact this) (fun e=>by injection e with e;exact absurd e (by show ¬(w.heap.size+6=w.heap.size);omega))),Nat.zero_add,B6.out.cell]
  simpa [Pars.ranks,byt] using hv
set_option maxRecDepth 100000 in
set_option maxHeartbeats 4000000 in
theorem joined_any (s:List UInt8) (xa xb:Pars.Node) (ca cb:Array Value) (w:World) (S:Nat→Prop) (ha:NodeAt w S xa ca) (hb:NodeAt w S xb cb):
  Calls Tryz.prog 123 #[.string (byt s),.agg ca,.agg cb] w fun e w'=>∃cs,e= .returned (.agg cs)∧NodeAt w' (fun g=>S g∨w.heap.size≤g) (Pars.joined s xa xb) cs∧Below w.heap.size w w':=by
 obtain⟨va,hla,hva⟩:=NodeAt.lit ha
 obtain⟨vb,hlb,hvb⟩:=NodeAt.lit hb
 rw[hla] at ha ⊢
 rw[hlb] at hb ⊢
 clear hla hlb
 have HA:=hid ha
 have HB:=hid hb
 have HVA:=hid hva
 have HVB:=hid hvb
 clear ha hb hva hvb
 obtain⟨TX,hTX⟩:∃q,byt s=q:=⟨_,rfl⟩
 have HTX:=hid hTX
 rw[hTX]
 clear hTX
 go_enter Tryz.func123,Tryz.ntmps123
 go_upto_region 1 with fail
 refine gen_world (F:=fun W=>Box W w.heap.size 24 #[.int .i64 xa.kind,.int .i64 xa.num,.string (byt xa.text),va]∧Box W (w.heap.size+1) 24 #[.int .i64 xb.kind,.int .i64 xb.num,.string (byt xb.text),vb]∧Box W (w.heap.size+2) 24 #[.int .i64 0,.int .i64 0,.string ⟨#[]⟩,.slice none 0 0]∧Below w.heap.size w W∧W.heap.size=w.heap.size+3) ⟨((Box.new w _ _).alloc _).alloc _,(new2 w _ _ _).alloc _,new3 w _ _ _ _,((below1 w _).alloc (by simp) _).alloc (by simp;omega) _,by simp⟩ ?_
 rintro W0 ⟨ba,bb,rb,hU,hz0⟩
 obtain⟨aa,haa⟩:∃q,w.heap.size=q:=⟨_,rfl⟩
 have HAA:=hid haa
 rw[haa] at ba bb rb hz0 ⊢
 clear haa
 have RB:=hid rb
 have HU:=hid hU
 have hlt:=rb.lt
 have HZ0:=hid hz0
 clear hz0
 have BA:=hid ba
 have BB:=hid bb
 clear rb hU ba bb
 have ba:=BA.out
 have bb:=BB.out
 have RBB:=RB.out.alloc (.cells #[.int .i64 xa.kind,.int .i64 xa.num,.string (byt xa.text),va,.int .i64 xb.kind,.int .i64 xb.num,.string (byt xb.text),vb] 24)
 have hne0:aa+1+1≠W0.heap.size:=by omega
 by_cases y1:TX=⟨#[124,124]⟩
 ·subst y1
  go_wp2_with (first | (refine wpList_load_row rfl 24 (.tmp 4) rfl aa rfl _ #[.int .i64 xa.kind,.int .i64 xa.num,.string (byt xa.text),va] (0,0) _ ba Tryz.underlying24 rfl info_nod ?_) | (refine wpList_load_row rfl 24 (.tmp 5) rfl (aa+1) rfl _ #[.int .i64 xb.kind,.int .i64 xb.num,.string (byt xb.text),vb] (0,0) _ bb Tryz.underlying24 rfl info_nod ?_) | (refine wpList_store_box rfl 24 (.tmp 6) (.tmp 13) rfl (aa+1+1) #[.int .i64 17,.int .i64 0,.string ⟨#[]⟩,.slice (some ⟨W0.heap.size,0,none⟩) 2 2] rfl rfl 24 _ RBB info_nod rfl (nz_one _ _ _ _ _ _) ?_;intro wz hxz huz hzz;have HZZ:=hid hzz;clear hzz))
  refine bodyPost_ret (results_box rfl _ _ (aa+1+1) 24 _ _ rfl hxz Tryz.underlying24 rfl info_nod) rfl ?_
  have bx:=Box.grown (Box.new W0 24 #[.int .i64 xa.kind,.int .i64 xa.num,.string (byt xa.text),va,.int .i64 xb.kind,.int .i64 xb.num,.string (byt xb.text),vb]) huz (by intro h;injection h with h;omega)
  have haa:=HAA.out
  have hz0:=HZ0.out
  have hU:=HU.out
  have hb1:Below W0.heap.size W0 _:=below1 W0 (.cells #[.int .i64 xa.kind,.int .i64 xa.num,.string (byt xa.text),va,.int .i64 xb.kind,.int .i64 xb.num,.string (byt xb.text),vb] 24)
  have hbz:Below w.heap.size w wz:=(hU.trans (hb1.mono hU.size)).trans (huz.own (by omega) (by have:=hb1.size;have:=hU.size;omega))
  refine⟨#[.int .i64 17,.int .i64 0,.string ⟨#[]⟩,.slice (some ⟨W0.heap.size,0,none⟩) 2 2],rfl,?_,hbz⟩
  have e:Pars.joined s xa xb= .mk 17 0 [] [xa,xb]:=by have:=byt_inj (HTX.out.trans (show (⟨#[124,124]⟩:ByteArray)=byt [124,124] from rfl));subst this;rfl
  rw[e]
  exact NodeAt.build (css:=[#[.int .i64 xa.kind,.int .i64 xa.num,.string (byt xa.text),va], #[.int .i64 xb.kind,.int .i64 xb.num,.string (byt xb.text),vb]]) 17 0 [] bx (.inr (by have:=hU.size;omega)) ⟨NodeAt.keep (fun g h _=> .inl h) hbz.size (fun g _ hg=>hbz.block g hg) HA.out,NodeAt.keep (fun g h _=> .inl h) hbz.size (fun g _ hg=>hbz.block g hg) HB.out,trivial⟩
 obtain⟨q1,q2,q3⟩:=same_no y1
 have q4:=of_decide_eq_false q2
 have q5:(TX.toList==[124,124])=false:=by
  have e:(⟨#[124,124]⟩:ByteArray).toList=[124,124]:=by simp[ByteArray.toList_eq]
  rw[e] at q1
  exact q1
 have z1:s≠[124,124]:=fun e=>y1 (by rw[←HTX.out,e];rfl)
 by_cases y2:TX=⟨#[38,38]⟩
 ·subst y2
  go_wp2_with (first | (refine wpList_load_row rfl 24 (.tmp 4) rfl aa rfl _ #[.int .i64 xa.kind,.int .i64 xa.num,.string (byt xa.text),va] (0,0) _ ba Tryz.underlying24 rfl info_nod ?_) | (refine wpList_load_row rfl 24 (.tmp 5) rfl (aa+1) rfl _ #[.int .i64 xb.kind,.int .i64 xb.num,.string (byt xb.text),vb] (0,0) _ bb Tryz.underlying24 rfl info_nod ?_) | (refine wpList_store_box rfl 24 (.tmp 6) (.tmp 19) rfl (aa+1+1) #[.int .i64 16,.int .i64 0,.string ⟨#[]⟩,.slice (some ⟨W0.heap.size,0,none⟩) 2 2] rfl rfl 24 _ RBB info_nod rfl (nz_one _ _ _ _ _ _) ?_;intro wz hxz huz hzz;have HZZ:=hid hzz;clear hzz))
  refine bodyPost_ret (results_box rfl _ _ (aa+1+1) 24 _ _ rfl hxz Tryz.underlying24 rfl info_nod) rfl ?_
  have bx:=Box.grown (Box.new W0 24 #[.int .i64 xa.kind,.int .i64 xa.num,.string (byt xa.text),va,.int .i64 xb.kind,.int .i64 xb.num,.string (byt xb.text),vb]) huz (by intro h;injection h with h;omega)
  have haa:=HAA.out
  have hz0:=HZ0.out
  have hU:=HU.out
  have hb1:Below W0.heap.size W0 _:=below1 W0 (.cells #[.int .i64 xa.kind,.int .i64 xa.num,.string (byt xa.text),va,.int .i64 xb.kind,.int .i64 xb.num,.string (byt xb.text),vb] 24)
  have hbz:Below w.heap.size w wz:=(hU.trans (hb1.mono hU.size)).trans (huz.own (by omega) (by have:=hb1.size;have:=hU.size;omega))
  refine⟨#[.int .i64 16,.int .i64 0,.string ⟨#[]⟩,.slice (some ⟨W0.heap.size,0,none⟩) 2 2],rfl,?_,hbz⟩
  have e:Pars.joined s xa xb= .mk 16 0 [] [xa,xb]:=by have:=byt_inj (HTX.out.trans (show (⟨#[38,38]⟩:ByteArray)=byt [38,38] from rfl));subst this;rfl
  rw[e]
  exact NodeAt.build (css:=[#[.int .i64 xa.kind,.int .i64 xa.num,.string (byt xa.text),va], #[.int .i64 xb.kind,.int .i64 xb.num,.string (byt xb.text),vb]]) 16 0 [] bx (.inr (by have:=hU.size;omega)) ⟨NodeAt.keep (fun g h _=> .inl h) hbz.size (fun g _ hg=>hbz.block g hg) HA.out,NodeAt.keep (fun g h _=> .inl h) hbz.size (fun g _ hg=>hbz.block g hg) HB.out,trivial⟩
 obtain⟨p1,p2,p3⟩:=same_no y2
 have p4:=of_decide_eq_false p2
 have p5:(TX.toList==[38,38])=false:=by
  have e:(⟨#[38,38]⟩:ByteArray).toList=[38,38]:=by simp[ByteArray.toList_eq]
  rw[e] at p1
  exact p1
 have z2:s≠[38,38]:=fun e=>y2 (by rw[←HTX.out,e];rfl)
 have ZZ:=hid (And.intro z1 z2)
 clear z1 z2
 go_wp2_with (first | (refine wpList_load_row rfl 24 (.tmp 4) rfl aa rfl _ #[.int .i64 xa.kind,.int .i64 xa.num,.string (byt xa.text),va] (0,0) _ ba Tryz.underlying24 rfl info_nod ?_) | (refine wpList_load_row rfl 24 (.tmp 5) rfl (aa+1) rfl _ #[.int .i64 xb.kind,.int .i64 xb.num,.string (byt xb.text),vb] (0,0) _ bb Tryz.underlying24 rfl info_nod ?_) | (refine wpList_store_box rfl 24 (.tmp 6) (.tmp 24) rfl (aa+1+1) #[.int .i64 15,.int .i64 0,.string TX,.slice (some ⟨W0.heap.size,0,none⟩) 2 2] rfl rfl 24 _ RBB info_nod rfl (nz_one _ _ _ _ _ _) ?_;intro wz hxz huz hzz;have HZZ:=hid hzz;clear hzz))
 refine bodyPost_ret (results_box rfl _ _ (aa+1+1) 24 _ _ rfl hxz Tryz.underlying24 rfl info_nod) rfl ?_
 have bx:=Box.grown (Box.new W0 24 #[.int .i64 xa.kind,.int .i64 xa.num,.string (byt xa.text),va,.int .i64 xb.kind,.int .i64 xb.num,.string (byt xb.text),vb]) huz (by intro h;injection h with h;omega)
 have haa:=HAA.out
 have hz0:=HZ0.out
 have hU:=HU.out
 have hb1:Below W0.heap.size W0 _:=below1 W0 (.cells #[.int .i64 xa.kind,.int .i64 xa.num,.string (byt xa.text),va,.int .i64 xb.kind,.int .i64 xb.num,.string (byt xb.text),vb] 24)
 have hbz:Below w.heap.size w wz:=(hU.trans (hb1.mono hU.size)).trans (huz.own (by omega) (by have:=hb1.size;have:=hU.size;omega))
 refine⟨#[.int .i64 15,.int .i64 0,.string TX,.slice (some ⟨W0.heap.size,0,none⟩) 2 2],rfl,?_,hbz⟩
 have e:Pars.joined s xa xb= .mk 15 0 s [xa,xb]:=by unfold Pars.joined;rw[if_neg ZZ.out.1,if_neg ZZ.out.2]
 rw[e]
 rw[←HTX.out]
 exact NodeAt.build (css:=[#[.int .i64 xa.kind,.int .i64 xa.num,.string (byt xa.text),va], #[.int .i64 xb.kind,.int .i64 xb.num,.string (byt xb.text),vb]]) 15 0 s bx (.inr (by have:=hU.size;omega)) ⟨NodeAt.keep (fun g h _=> .inl h) hbz.size (fun g _ hg=>hbz.block g hg) HA.out,NodeAt.keep (fun g h _=> .inl h) hbz.size (fun g _ hg=>hbz.block g hg) HB.out,trivial⟩
end Go.Proofs.YtflmjbmdmoifhaaGreatDoor
namespace Go.Proofs.YtflmjbmdmoifhaaGreatDoor
open Go.Lib (hid)
open Go.RowKit
theorem ranks_some:∀r,r<6→∀s∈Pars.ranks.getD r [],s≠[]:=by decide
theorem ranks_len:∀r,r<6→(Pars.ranks.getD r []).length≤4:=by decide
theorem any_append {a b:List Pars.Bs} {l:List Lexy.Tk} (h:Pars.anyOf a l=none):Pars.anyOf (a++b) l=Pars.anyOf b l:=by
 induction a with
 | nil=>rfl
 | cons s a ih=>
  simp only[List.cons_append,Pars.anyOf] at h ⊢
  cases hi:Pars.is s l with
  | some r=>rw[hi] at h;cases h
  | none=>rw[hi] at h;simp only at h ⊢;exact ih h
theorem any_hit {ss:List Pars.Bs} {j:Nat} {s:Pars.Bs} {l r:List Lexy.Tk} (hj:ss[j]? =some s) (h:Pars.anyOf (ss.take j) l=none) (hi:Pars.is s l=some r):Pars.anyOf ss l=some (s,r):=by
 have hlt:=(List.getElem?_eq_some_iff.1 hj).1
 have e:ss=ss.take j++s :: ss.drop (j+1):=by
  rw[←(List.getElem?_eq_some_iff.1 hj).2, ←List.drop_eq_getElem_cons hlt,List.take_append_drop]
 rw[e,any_append h]
 simp only[Pars.anyOf,hi]
theorem any_miss {a:List Pars.Bs} {s:Pars.Bs} {l:List Lexy.Tk} (h:Pars.anyOf a l=none) (hi:Pars.is s l=none):Pars.anyOf (a++[s]) l=none:=by
 rw[any_append h]
 simp only[Pars.anyOf,hi]
theorem signs_yes {ss:List Pars.Bs} {s:Pars.Bs} {l r:List Lexy.Tk} {f:Pars.Bs→List Lexy.Tk→Pars.R} {g:Pars.R} (h:Pars.anyOf ss l=some (s,r)):Pars.signs ss l f g=f s r:=by simp only[Pars.signs,h]
theorem signs_no {ss:List Pars.Bs} {l:List Lexy.Tk} {f:Pars.Bs→List Lexy.Tk→Pars.R} {g:Pars.R} (h:Pars.anyOf ss l=none):Pars.signs ss l f g=g:=by simp only[Pars.signs,h]
set_option maxRecDepth 100000 in
set_option maxHeartbeats 4000000 in
theorem bin_step {n:Nat} (hall:∀m,m≤n→All m):∀(r:Nat),r≤6→∀{w:World} {b:Nat} {ts:List KT} {A:Option Addr} {c k:Nat} {fn lp:Bool},PSt w b ts A c k fn lp→20 * (ts.length - k)+(10 - r)<n+1→Calls Tryz.prog 113 #[.pointer (some ⟨b,0,none⟩),.int .i64 (r:Int)] w (Got w b ts A c k fn lp (Pars.run (n+1) (.binary r) fn lp (left ts k))):=by
 have h:=hall n (Nat.le_refl _)
 intro r hr6 w b ts A c k fn lp hP hm
 have HR:Hid (Pars.run (n+1) (.binary r) fn lp (left ts k)=_):=hid (by rw[Pars.run])
 have hbl:=hP.box.lt
 have hle:=hP.kle
 go_enter Tryz.func113,Tryz.ntmps113
 go_upto_region 1 with fail
 refine gen_world (F:=fun W=>Box W w.heap.size 24 #[.int .i64 0,.int .i64 0,.string ⟨#[]⟩,.slice none 0 0]∧Below w.heap.size w W) ⟨Box.new w _ _,below1 w _⟩ ?_
 rintro W0 ⟨r0,hU⟩
 obtain⟨i0,hi0,hi1,hi2,hi3⟩:=info_parts parts_nod
 have hlen:=hP.len
 obtain⟨rb,hpbe⟩:∃q,w.heap.size=q:=⟨_,rfl⟩
 obtain⟨B,hBe⟩:∃q,W0.heap.size=q:=⟨_,rfl⟩
 have hrb:rb≠b:=by omega
 have hrB:rb<B:=by have:=r0.lt;omega
 have hbB:b<B:=by omega
 have hwB:w.heap.size≤B:=by omega
 have HPB:=hid hpbe
 have HBE:=hid hBe
 rw[hpbe] at r0 ⊢
 clear hpbe
 have RB:=hid r0
 have HP:=hid (hP.below hU)
 have HA:Hid (0<ts.length→∀g o,A=some ⟨g,o,none⟩→g<B):=hid (hBe ▸ HP.out.old)
 have HW:Hid (Upd w W0 b):=hid (Upd.below hU b)
 have HU:Hid (UpdB B W0 W0 b):=hid (UpdB.refl _ _ _)
 have hBw:B≤W0.heap.size:=Nat.le_of_eq hBe.symm
 clear r0 hU hP hBe
 go_wp2_with fail
 refine (ranks_any _).mono ?_
 rintro e w1 ⟨vs,rfl,hb, -⟩
 replace RB:=bl RB hb
 replace HP:=hid (HP.out.below hb)
 replace HU:=hid (HU.out.trans (UpdB.of_below hb hBw))
 replace hBw:=Nat.le_trans hBw hb.size
 clear hb
 by_cases y6:r=6
 ·subst y6
  replace HR:=hid (HR.out.trans (if_pos rfl))
  go_wp2_with fail
  refine (h.un HP.out (by omega)).mono ?_
  rintro e w2 (⟨x1,k1,cs1,hr,hk1,hk2,rfl,hn,hx,hu⟩ | ⟨hr,rfl,hu⟩)
  rotate_left
  ·exact⟨rfl,.inr ⟨HR.out.trans (hr),rfl,HW.out.updB (HU.out.trans (UpdB.of_upd hu hBw)) hwB⟩⟩
  replace HR:=hid (HR.out.trans hr)
  have HN1:Hid (NodeAt w2 (fun g=>B≤g) x1 cs1):=hid (hn.weak (fun g hg=>by omega))
  have hub:=UpdB.of_upd hu hBw
  replace RB:=bg RB hu
  replace HP:=hid (HP.out.upd hx hu (by omega))
  replace HU:=hid (HU.out.trans hub)
  replace hBw:=Nat.le_trans hBw hu.size
  clear hub
  clear hr hn hx hu
  obtain⟨v1,hlit,hvo⟩:=NodeAt.lit HN1.out
  rw[hlit] at HN1 ⊢
  have HVO1:=hid hvo
  clear hlit hvo
  have hleX:=HP.out.kle
  go_wp2_with (refine wpList_store_box rfl 24 (.tmp 4) (.tmp 14) rfl rb #[.int .i64 x1.kind,.int .i64 x1.num,.string (byt x1.text),v1] rfl rfl 24 _ RB.out info_nod rfl (nc_one _ _ _ HVO1.out) ?_;intro wz hxz huz hzz;have HZZ:=hid hzz;clear hzz)
  refine bodyPost_ret (results_box rfl _ _ rb 24 _ _ rfl hxz Tryz.underlying24 rfl info_nod) rfl ?_
  exact .inl ⟨x1,k1,_,HR.out,by omega,HP.out.kle,rfl,(HN1.out.upd huz (fun g hg=>by have:B≤g:=hg;omega)).weak (fun g hg=>by have:B≤g:=hg;omega),Box.grown HP.out.box huz (by intro h;injection h with h;omega),Upd.fresh (HW.out.updB HU.out hwB) huz (by have:=HPB.out;omega)⟩
 replace HR:=hid (HR.out.trans (if_neg y6))
 have d1:((r:Int)==6)=false:=by rw[beq_eq_false_iff_ne];omega
 have d2:¬(r:Int)=6:=by omega
 have hr5:r<6:=by omega
 have wk:IntKind.i64.wrap ((r:Int)+1)=(r:Int)+1:=by rw[IntKind.wrap_i64];omega
 have hbin:∀(m:Nat),m≤n→∀{w:World} {b:Nat} {ts:List KT} {A:Option Addr} {c k:Nat} {fn lp:Bool},PSt w b ts A c k fn lp→20 * (ts.length - k)+(10 - (r+1))<m→Calls Tryz.prog 113 #[.pointer (some ⟨b,0,none⟩),.int .i64 ((r:Int)+1)] w (Got w b ts A c k fn lp (Pars.run m (.binary (r+1)) fn lp (left ts k))):=fun m hm=>(hall m hm).bin (r+1) (by omega)
 have HBIN:=hid hbin
 clear hbin
 go_wp2_with fail
 refine (HBIN.out n (Nat.le_refl n) HP.out (by omega)).mono ?_
 rintro e w2 (⟨x1,k1,cs1,hr,hk1,hk2,rfl,hn,hx,hu⟩ | ⟨hr,rfl,hu⟩)
 rotate_left
 ·exact⟨rfl,.inr ⟨HR.out.trans (Pars.and_no hr),rfl,HW.out.updB (HU.out.trans (UpdB.of_upd hu hBw)) hwB⟩⟩
 have hlt1:=got_lt hr rfl
 replace HR:=hid (HR.out.trans (Pars.and_some hr))
 have HN1:Hid (NodeAt w2 (fun g=>B≤g) x1 cs1):=hid (hn.weak (fun g hg=>by omega))
 have hub:=UpdB.of_upd hu hBw
 replace RB:=bg RB hu
 replace HP:=hid (HP.out.upd hx hu (by omega))
 replace HU:=hid (HU.out.trans hub)
 replace hBw:=Nat.le_trans hBw hu.size
 clear hub
 clear hr hn hx hu
 obtain⟨v1,hlit,hvo⟩:=NodeAt.lit HN1.out
 rw[hlit] at HN1 ⊢
 have HVO1:=hid hvo
 clear hlit hvo
 have hleX:=HP.out.kle
 go_wp2_with (refine wpList_store_box rfl 24 (.tmp 5) (.tmp 18) rfl w2.heap.size #[.int .i64 x1.kind,.int .i64 x1.num,.string (byt x1.text),v1] rfl rfl 24 _ (Box.new w2 _ _) info_nod rfl (nc_one _ _ _ HVO1.out) ?_;intro w3 hx hv hz;have HZO:=hid hz;clear hz)
 have hb:Below w2.heap.size w2 w3:=((Below.refl _ w2).alloc (Nat.le_refl _) _).trans (hv.own (Nat.le_refl _) (by simp))
 have EB:=hid hx
 have hoB:B≤w2.heap.size:=hBw
 have HNE:Hid (NodeAt w3 (fun g=>B≤g∧g≠w2.heap.size) x1 #[.int .i64 x1.kind,.int .i64 x1.num,.string (byt x1.text),v1]):=hid (NodeAt.keep (fun g hs hg=>⟨hs,by omega⟩) hb.size (fun g _ hg=>hb.block g hg) HN1.out)
 replace RB:=bl RB hb
 replace HP:=hid (HP.out.below hb)
 replace HU:=hid (HU.out.trans (UpdB.of_below hb hBw))
 replace hBw:=Nat.le_trans hBw hb.size
 clear hx hv hb HZO HN1
 obtain⟨eb,heb⟩:∃eb,w2.heap.size=eb:=⟨_,rfl⟩
 rw[heb] at EB HNE hoB ⊢
 clear heb
 (try simp only[Act.put])
 obtain⟨ss,hss⟩:∃q,Pars.ranks.getD r []=q:=⟨_,rfl⟩
 have HSS:=hid hss
 have HSN:Hid (∀s∈ss,s≠[]):=hid (by rw[←hss];exact ranks_some r hr5)
 have hsl:ss.length≤4:=by rw[←hss];exact ranks_len r hr5
 go_loopg [6] (ts.length) (fun gg s6 wr=>∃(k' m:Nat) (xe:Pars.Node) (cse:Array Value),ts.length - k'≤gg∧k<k'∧k'≤ts.length∧m≤n∧20 * (ts.length - k')+15<m∧B≤wr.heap.size∧Hid (Box wr rb 24 #[.int .i64 0,.int .i64 0,.string ⟨#[]⟩,.slice none 0 0])∧Hid (Box wr eb 24 cse)∧Hid (NodeAt wr (fun g=>B≤g∧g≠eb) xe cse)∧Hid (PSt wr b ts A c k' fn lp)∧Hid (UpdB B W0 wr b)∧Hid (Pars.run (n+1) (.binary r) fn lp (left ts k)=Pars.run m (.binGo r xe) fn lp (left ts k')))
 case atStart=>exact⟨k1,n,x1,_,by omega,by omega,hleX,Nat.le_refl _,by omega,hBw,RB,EB,HNE,HP,HU,HR⟩
 case round=>
  clear RB EB HNE HP HU HR hBw
  obtain⟨k',m,xe,cse,hg2,hkk,hkl,hmn,hmm,hBw,RB,EB,HNE,HP,HU,HRR⟩:=hrel
  obtain⟨m',rfl⟩:∃m',m=m'+1:=⟨m - 1,by omega⟩
  have HR:Hid (Pars.run (n+1) (.binary r) fn lp (left ts k)=_):=hid (HRR.out.trans (show _=_ by rw[Pars.run,HSS.out]))
  clear HRR
  go_wp2_with fail
  refine (ranks_any _).mono ?_
  rintro e w4 ⟨vs,rfl,hb,hix⟩
  obtain⟨gq,hgq,hgl,hix2,hrg⟩:=hix r hr5
  have hgb:b<gq:=by omega
  replace HNE:=hid (HNE.out.below hb)
  replace RB:=bl RB hb
  replace EB:=bl EB hb
  replace HP:=hid (HP.out.below hb)
  replace HU:=hid (HU.out.trans (UpdB.of_below hb hBw))
  replace hBw:=Nat.le_trans hBw hb.size
  clear hb
  rw[HSS.out] at hix2 hrg
  have GR:=hid hrg
  clear hix hrg hgq
  go_wp2
  clear hix2
  go_loopg [6,23] (ss.length) (fun gg s6 s23 wi=>∃(j:Nat) (sg:List UInt8),j≤ss.length∧ss.length - j≤gg∧s23= .int .i64 (j:Int)∧s6= .string (byt sg)∧B≤wi.heap.size∧Hid (wi.rangeAt gq 0 (ss.map fun s=> .string (byt s)))∧gq<wi.heap.size∧Hid (Box wi rb 24 #[.int .i64 0,.int .i64 0,.string ⟨#[]⟩,.slice none 0 0])∧Hid (Box wi eb 24 cse)∧Hid (NodeAt wi (fun g=>B≤g∧g≠eb) xe cse)∧Hid (UpdB B W0 wi b)∧((sg=[]∧Hid (Pars.anyOf (ss.take j) (left ts k')=none)∧Hid (PSt wi b ts A c k' fn lp))∨(sg≠[]∧k'<ts.length∧Hid (Pars.anyOf ss (left ts k')=some (sg,left ts (k'+1)))∧Hid (PSt wi b ts A c (k'+1) fn lp))))
  case atStart=>exact⟨0,[],Nat.zero_le _,by omega,rfl,rfl,hBw,GR,hgl,RB,EB,HNE,HU,.inl ⟨rfl,hid rfl,HP⟩⟩
  case round=>
   obtain⟨wi,rfl⟩:∃wi:World,wi=wr:=⟨_,rfl⟩
   clear RB EB HNE HP HU hBw GR hgl
   obtain⟨j,sg,hj,hgj,rfl,rfl,hBw,GR,hgl,RB,EB,HNE,HU,HC⟩:=hrel
   by_cases hlt:j<ss.length
   ·have hltz:(j:Int)<(ss.length:Int):=by omega
    have hltd:decide ((j:Int)<(ss.length:Int))=true:=decide_eq_true hltz
    have wj:IntKind.i64.wrap ((j:Int)+1)=(j:Int)+1:=by rw[IntKind.wrap_i64];omega
    obtain⟨sj,hsj⟩:∃q,ss[j]? =some q:=⟨_,List.getElem?_eq_getElem hlt⟩
    have hcj:wi.cell? ⟨gq,0+j,none⟩=some (.string (byt sj)):=GR.out j _ (by simp[hsj])
    rw[Nat.zero_add] at hcj
    have HSJ:=hid hsj
    have hsjn:sj≠[]:=HSN.out sj (List.mem_of_getElem? hsj)
    have htk:Hid (ss.take (j+1)=ss.take j++[sj]):=hid (by rw[List.take_add_one,hsj];rfl)
    clear hsj
    rcases HC with HC | HC
    ·obtain⟨rfl,HNO,HP⟩:=HC
     have hkle:=HP.out.kle
     have e0:(byt []).toList.isEmpty=true:=by rw[byt_list];rfl
     go_wp2_with fail
     refine (is_any sj _ b ts A c k' fn lp HP.out).mono ?_
     rintro e w5 (⟨hi,hk,rfl,hx,hu⟩ | ⟨hi,rfl,hx,hu⟩)
     ·have GR2:Hid (w5.rangeAt gq 0 (ss.map fun s=> .string (byt s))):=hid (fun i u hi=>by rw[World.cell?_of_block (hu.block gq hgl (by intro e;injection e with e;omega))];exact GR.out i u hi)
      have hgl2:=Nat.lt_of_lt_of_le hgl hu.size
      have HI:=hid hi
      have hub:=UpdB.of_upd hu hBw
      replace HNE:=hid (HNE.out.upd hu (fun g hg=>by first | omega | (simp only at hg;omega)))
      replace RB:=bg RB hu
      replace EB:=bg EB hu
      replace HP:=hid (HP.out.upd hx hu (by omega))
      replace HU:=hid (HU.out.trans hub)
      replace hBw:=Nat.le_trans hBw hu.size
      clear hub
      clear hi hx hu GR hgl
      have GR:=GR2
      have hgl:=hgl2
      go_wp2
      go_roundg (ss.length - (j+1))
      case measure=>omega
      case rel=>exact⟨j+1,sj,by omega,by omega,rfl,rfl,hBw,GR,hgl,RB,EB,HNE,HU,.inr ⟨hsjn,hk,hid (any_hit HSJ.out HNO.out HI.out),HP⟩⟩
     have GR2:Hid (w5.rangeAt gq 0 (ss.map fun s=> .string (byt s))):=hid (fun i u hi=>by rw[World.cell?_of_block (hu.block gq hgl (by intro e;injection e with e;omega))];exact GR.out i u hi)
     have hgl2:=Nat.lt_of_lt_of_le hgl hu.size
     have HI:=hid hi
     have hub:=UpdB.of_upd hu hBw
     replace HNE:=hid (HNE.out.upd hu (fun g hg=>by first | omega | (simp only at hg;omega)))
     replace RB:=bg RB hu
     replace EB:=bg EB hu
     replace HP:=hid (HP.out.upd hx hu (by omega))
     replace HU:=hid (HU.out.trans hub)
     replace hBw:=Nat.le_trans hBw hu.size
     clear hub
     clear hi hx hu GR hgl
     have GR:=GR2
     have hgl:=hgl2
     go_wp2
     go_roundg (ss.length - (j+1))
     case measure=>omega
     case rel=>exact⟨j+1,[],by omega,by omega,rfl,rfl,hBw,GR,hgl,RB,EB,HNE,HU,.inl ⟨rfl,hid (by rw[htk.out];exact any_miss HNO.out HI.out),HP⟩⟩
    ·obtain⟨hsn,hkl2,HSO,HP⟩:=HC
     obtain⟨TX,hTX⟩:∃q,byt sg=q:=⟨_,rfl⟩
     have hne:TX≠⟨#[]⟩:=fun e=>hsn (byt_inj (hTX.trans (e.trans (show (⟨#[]⟩:ByteArray)=byt [] from rfl))))
     have HTX:=hid hTX
     rw[hTX]
     clear hTX
     obtain⟨q1,q2,q3⟩:=same_no hne
     have q4:=of_decide_eq_false q2
     have q5:(TX.toList==[])=false:=by
      have e:(⟨#[]⟩:ByteArray).toList=[]:=by simp[ByteArray.toList_eq]
      rw[e] at q1
      exact q1
     have q6:TX.toList.isEmpty=false:=by
      rw[←HTX.out,byt_list]
      cases sg with
      | nil=>exact absurd rfl hsn
      | cons a l=>rfl
     go_wp2
     go_roundg (ss.length - (j+1))
     case measure=>omega
     case rel=>exact⟨j+1,sg,by omega,by omega,rfl,by rw[HTX.out],hBw,GR,hgl,RB,EB,HNE,HU,.inr ⟨hsn,hkl2,HSO,HP⟩⟩
   have hltz:¬(j:Int)<(ss.length:Int):=by omega
   have hltd:decide ((j:Int)<(ss.length:Int))=false:=decide_eq_false hltz
   rcases HC with HC | HC
   ·obtain⟨rfl,HNO,HP⟩:=HC
    have HNA:Hid (Pars.anyOf ss (left ts k')=none):=hid (by have:=HNO.out;rwa [List.take_of_length_le (by omega)] at this)
    replace HR:=hid (HR.out.trans (signs_no HNA.out))
    obtain⟨ve,hlit,hvo⟩:=NodeAt.lit HNE.out
    rw[hlit] at HNE EB
    have HVE:=hid hvo
    clear hlit hvo
    have hle9:=HP.out.kle
    have ob:=EB.out
    have e0:(byt []).toList.isEmpty=true:=by rw[byt_list];rfl
    go_wp2_with (first | (refine wpList_load_row rfl 24 (.tmp 5) rfl eb rfl _ #[.int .i64 xe.kind,.int .i64 xe.num,.string (byt xe.text),ve] (0,0) _ ob Tryz.underlying24 rfl info_nod ?_) | (refine wpList_store_box rfl 24 (.tmp 4) (.tmp 38) rfl rb #[.int .i64 xe.kind,.int .i64 xe.num,.string (byt xe.text),ve] rfl rfl 24 _ RB.out info_nod rfl (nc_one _ _ _ HVE.out) ?_;intro wy hxz huz hzz;have HZZ:=hid hzz;clear hzz))
    refine bodyPost_ret (results_box rfl _ _ rb 24 _ _ rfl hxz Tryz.underlying24 rfl info_nod) rfl ?_
    exact .inl ⟨xe,k',_,HR.out,by omega,HP.out.kle,rfl,(HNE.out.upd huz (fun g hg=>by have:=hg.1;omega)).weak (fun g hg=>by have:=hg.1;omega),Box.grown HP.out.box huz (by intro h;injection h with h;omega),Upd.fresh (HW.out.updB HU.out hwB) huz (by have:=HPB.out;omega)⟩
   ·obtain⟨hsn,hkl2,HSO,HP⟩:=HC
    obtain⟨TX,hTX⟩:∃q,byt sg=q:=⟨_,rfl⟩
    have hne:TX≠⟨#[]⟩:=fun e=>hsn (byt_inj (hTX.trans (e.trans (show (⟨#[]⟩:ByteArray)=byt [] from rfl))))
    have HTX:=hid hTX
    rw[hTX]
    clear hTX
    obtain⟨q1,q2,q3⟩:=same_no hne
    have q4:=of_decide_eq_false q2
    have q5:(TX.toList==[])=false:=by
     have e:(⟨#[]⟩:ByteArray).toList=[]:=by simp[ByteArray.toList_eq]
     rw[e] at q1
     exact q1
    have q6:TX.toList.isEmpty=false:=by
     rw[←HTX.out,byt_list]
     cases sg with
     | nil=>exact absurd rfl hsn
     | cons a l=>rfl
    replace HR:=hid (HR.out.trans (signs_yes HSO.out))
    obtain⟨ve,hlit,hvo⟩:=NodeAt.lit HNE.out
    rw[hlit] at HNE EB
    have HVE:=hid hvo
    clear hlit hvo GR hgl
    have hle9:=HP.out.kle
    go_upto_region 13 with fail
    refine wp_region_until 7 (fun w'=>Box w' eb 24 #[.int .i64 xe.kind,.int .i64 xe.num,.string (byt xe.text),ve]) (by kernel_rfl) EB.out.drew (fun hHeld=> ?_)
    obtain⟨wd,hwd⟩:∃wd,wi.drew=wd:=⟨_,rfl⟩
    have hb:Below wi.heap.size wi wd:=hwd ▸ (Below.refl _ wi).drew
    (try rw[hwd] at hHeld)
    (try rw[hwd])
    clear hwd hHeld
    replace HNE:=hid (HNE.out.below hb)
    replace RB:=bl RB hb
    replace EB:=bl EB hb
    replace HP:=hid (HP.out.below hb)
    replace HU:=hid (HU.out.trans (UpdB.of_below hb hBw))
    replace hBw:=Nat.le_trans hBw hb.size
    clear hb
    refine tU (i:=0) (v:= ?_) rfl ?_ (.inr EB.out) ?_
    rotate_left
    ·intro w hSw
     go_simp
     try (with_reducible rfl)
    (try simp only[Act.put,sq])
    refine wpAnyU_take (i:=1) (v:= .agg #[.int .i64 xe.kind,.int .i64 xe.num,.string (byt xe.text),ve]) rfl (by kernel_rfl) (by kernel_rfl) (by kernel_rfl) (by kernel_rfl) (by kernel_rfl) (fun _ _ _ h=>h) (yields_load_box (by kernel_rfl) 24 (.tmp 5) rfl eb 24 #[.int .i64 xe.kind,.int .i64 xe.num,.string (byt xe.text),ve] _ rfl (fun _ h=>h) Tryz.underlying24 rfl info_nod) EB.out ?_
    (try simp only[Act.put,sq])
    refine tU (i:=2) (v:= ?_) rfl ?_ (.inr EB.out) ?_
    rotate_left
    ·intro w hSw
     go_simp
     try (with_reducible rfl)
    (try simp only[Act.put,sq])
    refine tU (i:=3) (v:= ?_) rfl ?_ (.inr EB.out) ?_
    rotate_left
    ·intro w hSw
     go_simp
     try (with_reducible rfl)
    (try simp only[Act.put,sq])
    refine tU (i:=4) (v:= ?_) rfl ?_ (.inr EB.out) ?_
    rotate_left
    ·intro w hSw
     go_simp
     try (with_reducible rfl)
    (try simp only[Act.put,sq])
    refine rdU 5 rfl fun K hK=> ?_
    go_simp
    refine (HBIN.out m' (by omega) HP.out (by omega)).mono ?_
    rintro e wc (⟨x1,k2,cs1,hr,hk1,hk2,rfl,hn,hx,hu⟩ | ⟨hr,rfl,hu⟩)
    rotate_left
    ·exact⟨rfl,.inr ⟨HR.out.trans (Pars.and_no hr),rfl,HW.out.updB (HU.out.trans (UpdB.of_upd hu hBw)) hwB⟩⟩
    have hlt2:=got_lt hr rfl
    replace HR:=hid (HR.out.trans (Pars.and_some hr))
    have HN1:Hid (NodeAt wc (fun g=>B≤g∧g≠eb) x1 cs1):=hid (hn.weak (fun g hg=>⟨by omega,by have:=EB.out.lt;omega⟩))
    have hub:=UpdB.of_upd hu hBw
    replace HNE:=hid (HNE.out.upd hu (fun g hg=>by first | omega | (simp only at hg;omega)))
    replace RB:=bg RB hu
    replace EB:=bg EB hu
    replace HP:=hid (HP.out.upd hx hu (by omega))
    replace HU:=hid (HU.out.trans hub)
    replace hBw:=Nat.le_trans hBw hu.size
    clear hub
    clear hr hn hx hu
    have hle4:=HP.out.kle
    go_wp2_with fail
    refine hK.out _ _ (.inr EB.out) (fun hHeld=> ?_)
    clear hK hHeld K
    (try simp only[Act.put,sq])
    refine rdU 6 rfl fun K hK=> ?_
    go_simp
    rw[←HTX.out]
    refine (joined_any sg xe x1 _ cs1 _ _ HNE.out HN1.out).mono ?_
    rintro e wj ⟨cj,rfl,hnj,hb⟩
    have HNJ:Hid (NodeAt wj (fun g=>B≤g∧g≠eb) (Pars.joined sg xe x1) cj):=hid (hnj.weak (fun g hg=>by rcases hg with hg | hg;exact hg;exact⟨by omega,by have:=EB.out.lt;omega⟩))
    replace RB:=bl RB hb
    replace EB:=bl EB hb
    replace HP:=hid (HP.out.below hb)
    replace HU:=hid (HU.out.trans (UpdB.of_below hb hBw))
    replace hBw:=Nat.le_trans hBw hb.size
    clear hb hnj HNE HN1
    obtain⟨vj,hlit,hvo⟩:=NodeAt.lit HNJ.out
    rw[hlit] at HNJ ⊢
    have HVJ:=hid hvo
    clear hlit hvo
    go_wp2_with fail
    refine hK.out _ _ (.inr EB.out) (fun hHeld=> ?_)
    clear hK hHeld K
    (try simp only[Act.put,sq])
    refine rdU 7 rfl fun K hK=> ?_
    refine step_store_box rfl 24 (.tmp 5) (.tmp 45) rfl eb #[.int .i64 (Pars.joined sg xe x1).kind,.int .i64 (Pars.joined sg xe x1).num,.string (byt (Pars.joined sg xe x1).text),vj] rfl rfl 24 _ EB.out info_nod rfl (nc_one _ _ _ HVJ.out) ?_
    intro wz OB9 hu9 hz9
    have HNE:=hid (HNJ.out.upd hu9 (fun g hg=>hg.2))
    replace EB:=hid OB9
    replace RB:=bg RB hu9
    have hb9:Below B wj wz:=hu9.own hoB hBw
    replace HP:=hid (HP.out.belowB hb9 hbB HA.out)
    replace HU:=hid (HU.out.trans (UpdB.of_below hb9 (Nat.le_refl _)))
    replace hBw:=Nat.le_trans hBw hb9.size
    refine hK.out _ _ (.inl rfl) (fun hHeld=> ?_)
    clear hK hHeld K OB9 hu9 hz9 hb9 HNJ
    refine wpAnyU_done (by kernel_rfl) ?_ _
    go_wp2
    go_roundg (ts.length - (k2))
    case measure=>omega
    case rel=>exact⟨k2,m',_,_,by omega,by omega,HP.out.kle,by omega,by omega,hBw,RB,EB,HNE,HP,HU,HR⟩
end Go.Proofs.YtflmjbmdmoifhaaGreatDoor
namespace Go.Proofs.YtflmjbmdmoifhaaGreatDoor
open Go.Lib (hid)
open Go.RowKit
set_option maxRecDepth 100000 in
set_option maxHeartbeats 4000000 in
theorem expr_step {n:Nat} (h:All n):∀{w:World} {b:Nat} {ts:List KT} {A:Option Addr} {c k:Nat} {fn lp:Bool},PSt w b ts A c k fn lp→20 * (ts.length - k)+12<n+1→Calls Tryz.prog 76 #[.pointer (some ⟨b,0,none⟩)] w (Got w b ts A c k fn lp (Pars.run (n+1) .expression fn lp (left ts k))):=by
 intro w b ts A c k fn lp hP hm
 have HR:Hid (Pars.run (n+1) .expression fn lp (left ts k)=_):=hid (by rw[Pars.run])
 have hbl:=hP.box.lt
 have hle:=hP.kle
 go_enter Tryz.func76,Tryz.ntmps76
 go_upto_region 1 with fail
 refine gen_world (F:=fun W=>Box W w.heap.size 24 #[.int .i64 0,.int .i64 0,.string ⟨#[]⟩,.slice none 0 0]∧Below w.heap.size w W) ⟨Box.new w _ _,below1 w _⟩ ?_
 rintro W0 ⟨r0,hU⟩
 have RB:=hid r0
 have HP:=hid (hP.below hU)
 have HU:Hid (Upd w W0 b):=hid (Upd.below hU b)
 have HZ:Hid (w.heap.size<W0.heap.size):=hid r0.lt
 have hz0:=r0.lt
 have HZW:Hid (W0.heap.size≤W0.heap.size):=hid (Nat.le_refl _)
 clear r0 hU hP
 go_wp2_with fail
 refine (h.cond HP.out (by omega)).mono ?_
 rintro e w1 (⟨x1,k1,cs1,hr,hk1,hk2,rfl,hn,hx,hu⟩ | ⟨hr,rfl,hu⟩)
 rotate_left
 ·exact⟨rfl,.inr ⟨HR.out.trans (Pars.and_no hr),rfl,HU.out.trans hu⟩⟩
 have hlt1:=got_lt hr rfl
 replace HR:=hid (HR.out.trans (Pars.and_some hr))
 have HN1:Hid (NodeAt _ (fun g=>W0.heap.size≤g) x1 cs1):=hid (hn.weak (fun g hg=>by have:=HZW.out;omega))
 have hcs1:(Tryz.prog.info? 24).map (·.size)=some cs1.size:=by rw[NodeAt.size hn];exact info_nod
 have h41:(4:Nat)=cs1.size:=(NodeAt.size hn).symm
 have hone1:=NodeAt.one hn
 have HCS1:=hid hcs1
 have H41:=hid h41
 have HONE1:=hid hone1
 replace RB:=bg RB hu
 replace HP:=hid (HP.out.upd hx hu (by omega))
 replace HU:=hid (HU.out.trans hu)
 replace HZW:=hid (Nat.le_trans HZW.out hu.size)
 clear hr hn hx hu hcs1 h41 hone1
 have hle1:=HP.out.kle
 obtain⟨v1,hlit,hvo⟩:=NodeAt.lit HN1.out
 rw[hlit] at HN1 HCS1 H41 HONE1 ⊢
 have HVO1:=hid hvo
 clear hlit hvo
 go_upto_region 2 with (refine wpList_store_box rfl 24 (.tmp 3) (.tmp 5) rfl w1.heap.size #[.int .i64 x1.kind,.int .i64 x1.num,.string (byt x1.text),v1] rfl rfl 24 _ (Box.new w1 _ _) HCS1.out H41.out HONE1.out ?_;intro w2 hx hv hz;have HZ1:=hid hz;clear hz)
 have hb:Below w1.heap.size w1 w2:=((Below.refl _ w1).alloc (Nat.le_refl _) _).trans (hv.own (Nat.le_refl _) (by simp))
 have EB1:=hid hx
 have hzE1:=Nat.lt_of_lt_of_le HZ.out HZW.out
 replace RB:=bl RB hb
 replace HN1:=hid (HN1.out.below hb)
 replace HP:=hid (HP.out.below hb)
 replace HU:=hid (HU.out.step hb)
 replace HZW:=hid (Nat.le_trans HZW.out hb.size)
 clear hx hv hb
 go_wp2_with fail
 refine (is_any [61] _ b ts A c k1 fn lp HP.out).mono ?_
 rintro e w3 (⟨hi,hk,rfl,hx,hu⟩ | ⟨hi,rfl,hx,hu⟩)
 rotate_left
 ·replace HR:=hid (HR.out.trans (Pars.alt_no hi))
  replace RB:=bg RB hu
  replace EB1:=bg EB1 hu
  replace HN1:=hid (HN1.out.upd hu (fun g hg=>by first | omega | (simp only at hg;omega)))
  replace HP:=hid (HP.out.upd hx hu (by omega))
  replace HU:=hid (HU.out.trans hu)
  replace HZW:=hid (Nat.le_trans HZW.out hu.size)
  clear hi hx hu
  have eb1:=EB1.out
  go_wp2_with (first | (refine wpList_load_row rfl 24 (.tmp 3) rfl w1.heap.size rfl _ #[.int .i64 x1.kind,.int .i64 x1.num,.string (byt x1.text),v1] (0,0) _ eb1 Tryz.underlying24 rfl HCS1.out ?_) | (refine wpList_store_box rfl 24 (.tmp 2) (.tmp 9) rfl w.heap.size #[.int .i64 x1.kind,.int .i64 x1.num,.string (byt x1.text),v1] rfl rfl 24 _ RB.out HCS1.out H41.out HONE1.out ?_;intro wz hxz huz hzz;have HZZ:=hid hzz;clear hzz))
  refine bodyPost_ret (results_box rfl _ _ w.heap.size 24 _ _ rfl hxz Tryz.underlying24 rfl HCS1.out) rfl ?_
  exact .inl ⟨x1,k1, #[.int .i64 x1.kind,.int .i64 x1.num,.string (byt x1.text),v1],HR.out,by omega,HP.out.kle,rfl,(HN1.out.upd huz (fun g hg=>by first | omega | (simp only at hg;omega))).weak (fun g hg=>by first | omega | (simp only at hg;omega)),Box.grown HP.out.box huz (by intro h;injection h with h;omega),Upd.fresh HU.out huz (Nat.le_refl _)⟩
 replace HR:=hid (HR.out.trans (Pars.alt_some hi))
 replace RB:=bg RB hu
 replace EB1:=bg EB1 hu
 replace HN1:=hid (HN1.out.upd hu (fun g hg=>by first | omega | (simp only at hg;omega)))
 replace HP:=hid (HP.out.upd hx hu (by omega))
 replace HU:=hid (HU.out.trans hu)
 replace HZW:=hid (Nat.le_trans HZW.out hu.size)
 clear hi hx hu
 have e0:=EB1.out.cell 0
 simp at e0
 obtain⟨KD,hKD⟩:∃q,x1.kind=q:=⟨_,rfl⟩
 rw[hKD] at e0
 have HKD:=hid hKD
 clear hKD
 by_cases y1:KD=5
 ·replace HR:=hid (HR.out.trans (if_pos (.inl (HKD.out.trans y1))))
  have g1:(KD==5)=true:=by simp[y1]
  clear y1
  go_wp2_with fail
  refine (within_any true _).mono ?_
  rintro e w4 ⟨he,rfl⟩
  subst he
  go_upto_region 5 with fail
  refine wp_region_held_drew (S:=fun w'=>Box w' (w1.heap.size) 24 #[.int .i64 x1.kind,.int .i64 x1.num,.string (byt x1.text),v1]∧True) (by kernel_rfl) ⟨Box.drew EB1.out,trivial⟩ (fun hHeld=> ?_)
  obtain⟨wd,hwd⟩:∃wd,w4.drew=wd:=⟨_,rfl⟩
  have hb:Below w4.heap.size w4 wd:=hwd ▸ (Below.refl _ w4).drew
  rw[hwd] at hHeld
  (try rw[hwd])
  clear hwd
  replace RB:=bl RB hb
  replace EB1:=bl EB1 hb
  replace HN1:=hid (HN1.out.below hb)
  replace HP:=hid (HP.out.below hb)
  replace HU:=hid (HU.out.step hb)
  replace HZW:=hid (Nat.le_trans HZW.out hb.size)
  clear hb
  refine wpAnyH_take (i:=0) (v:=_) rfl (by kernel_rfl) (by kernel_rfl) (by kernel_rfl) (fun _ _ _ h=>h) (yields_load_box (by kernel_rfl) 24 (.tmp 3) rfl (w1.heap.size) 24 (#[.int .i64 x1.kind,.int .i64 x1.num,.string (byt x1.text),v1]) _ rfl (fun _ h=>h.1) Tryz.underlying24 rfl HCS1.out) (by assumption) ?_
  (try simp only[Act.put,sq])
  refine tH (i:=1) (v:= ?_) rfl ?_ (by assumption) ?_
  rotate_left
  ·intro w hSw
   (try dsimp only at hSw)
   go_simp
   try (with_reducible rfl)
  (try simp only[Act.put,sq])
  refine rdH 2 rfl fun K hK=> ?_
  go_simp
  refine (h.expr HP.out (by omega)).mono ?_
  rintro e wc (⟨x2,k2,cs2,hr,hk1,hk2,rfl,hn,hx,hu⟩ | ⟨hr,rfl,hu⟩)
  rotate_left
  ·exact⟨rfl,.inr ⟨HR.out.trans (Pars.and_no hr),rfl,HU.out.trans hu⟩⟩
  have hlt2:=got_lt hr rfl
  replace HR:=hid (HR.out.trans (Pars.and_some hr))
  have HN2:Hid (NodeAt _ (fun g=>W0.heap.size≤g) x2 cs2):=hid (hn.weak (fun g hg=>by have:=HZW.out;omega))
  have hcs2:(Tryz.prog.info? 24).map (·.size)=some cs2.size:=by rw[NodeAt.size hn];exact info_nod
  have h42:(4:Nat)=cs2.size:=(NodeAt.size hn).symm
  have hone2:=NodeAt.one hn
  have HCS2:=hid hcs2
  have H42:=hid h42
  have HONE2:=hid hone2
  replace RB:=bg RB hu
  replace EB1:=bg EB1 hu
  replace HN1:=hid (HN1.out.upd hu (fun g hg=>by first | omega | (simp only at hg;omega)))
  replace HP:=hid (HP.out.upd hx hu (by omega))
  replace HU:=hid (HU.out.trans hu)
  replace HZW:=hid (Nat.le_trans HZW.out hu.size)
  clear hr hn hx hu hcs2 h42 hone2
  obtain⟨v2,hlit,hvo⟩:=NodeAt.lit HN2.out
  rw[hlit] at HN2 HCS2 H42 HONE2 ⊢
  have HVO2:=hid hvo
  clear hlit hvo
  go_wp2_with fail
  refine hK.out _ _ ⟨EB1.out,trivial⟩ (fun hHeld=> ?_)
  clear hK K
  (try simp only[Act.put,sq])
  refine rdH 3 rfl fun K hK=> ?_
  go_simp
  have bxB:=Box.new wc 24 #[.int .i64 x1.kind,.int .i64 x1.num,.string (byt x1.text),v1,.int .i64 x2.kind,.int .i64 x2.num,.string (byt x2.text),v2]
  have hb:Below wc.heap.size wc (wc.alloc (.cells #[.int .i64 x1.kind,.int .i64 x1.num,.string (byt x1.text),v1,.int .i64 x2.kind,.int .i64 x2.num,.string (byt x2.text),v2] 24)):=below1 wc _
  obtain⟨wb,hwb⟩:∃wb,(wc.alloc (.cells #[.int .i64 x1.kind,.int .i64 x1.num,.string (byt x1.text),v1,.int .i64 x2.kind,.int .i64 x2.num,.string (byt x2.text),v2] 24))=wb:=⟨_,rfl⟩
  rw[hwb] at bxB hb
  rw[hwb]
  clear hwb
  have hgB:W0.heap.size≤wc.heap.size:=HZW.out
  replace RB:=bl RB hb
  replace EB1:=bl EB1 hb
  replace HN1:=hid (HN1.out.below hb)
  replace HN2:=hid (HN2.out.below hb)
  replace HP:=hid (HP.out.below hb)
  replace HU:=hid (HU.out.step hb)
  replace HZW:=hid (Nat.le_trans HZW.out hb.size)
  have BXB:=hid bxB
  refine hK.out _ _ ⟨EB1.out,trivial⟩ (fun hHeld=> ?_)
  clear hK K hb bxB
  (try simp only[Act.put,sq])
  refine tH (i:=4) (v:= ?_) rfl ?_ (by assumption) ?_
  rotate_left
  ·intro w hSw
   (try dsimp only at hSw)
   go_simp
   try (with_reducible rfl)
  (try simp only[Act.put,sq])
  refine rdH 5 rfl fun K hK=> ?_
  refine step_store_box rfl 24 (.tmp 2) (.tmp 28) rfl (w.heap.size) #[.int .i64 19,.int .i64 0,.string ⟨#[]⟩,.slice (some ⟨wc.heap.size,0,none⟩) 2 2] rfl rfl 24 _ RB.out info_nod rfl (nz_one _ _ _ _ _ _) ?_
  intro wz hxz huz hzz
  have HZZ:=hid hzz
  refine hK.out _ _ ⟨Box.grown EB1.out huz (by intro h;injection h with h;omega),trivial⟩ (fun hHeld=> ?_)
  clear hK K
  (try simp only[Act.put,sq])
  refine wpAnyH_done (by kernel_rfl) ?_ _
  go_wp2
  refine bodyPost_ret (results_box rfl _ _ w.heap.size 24 _ _ rfl hxz Tryz.underlying24 rfl info_nod) rfl ?_
  have hnb:NodeAt wb (fun g=>W0.heap.size≤g) (.mk 19 0 [] [x1,x2]) #[.int .i64 19,.int .i64 0,.string ⟨#[]⟩,.slice (some ⟨wc.heap.size,0,none⟩) 2 2]:=NodeAt.build (css:=[#[.int .i64 x1.kind,.int .i64 x1.num,.string (byt x1.text),v1], #[.int .i64 x2.kind,.int .i64 x2.num,.string (byt x2.text),v2]]) 19 0 [] BXB.out hgB ⟨HN1.out,HN2.out,trivial⟩
  exact .inl ⟨_,_,_,HR.out,by omega,HP.out.kle,rfl,(hnb.upd huz (fun g hg=>by (try simp only at hg);omega)).weak (fun g hg=>by (try simp only at hg);omega),Box.grown HP.out.box huz (by intro h;injection h with h;omega),Upd.fresh HU.out huz (Nat.le_refl _)⟩
 have g1:(KD==5)=false:=bn y1
 by_cases y2:KD=12
 ·replace HR:=hid (HR.out.trans (if_pos (.inr (.inl (HKD.out.trans y2)))))
  have g2:(KD==12)=true:=by simp[y2]
  clear y1 y2
  go_wp2_with fail
  refine (within_any true _).mono ?_
  rintro e w4 ⟨he,rfl⟩
  subst he
  go_upto_region 5 with fail
  refine wp_region_held_drew (S:=fun w'=>Box w' (w1.heap.size) 24 #[.int .i64 x1.kind,.int .i64 x1.num,.string (byt x1.text),v1]∧True) (by kernel_rfl) ⟨Box.drew EB1.out,trivial⟩ (fun hHeld=> ?_)
  obtain⟨wd,hwd⟩:∃wd,w4.drew=wd:=⟨_,rfl⟩
  have hb:Below w4.heap.size w4 wd:=hwd ▸ (Below.refl _ w4).drew
  rw[hwd] at hHeld
  (try rw[hwd])
  clear hwd
  replace RB:=bl RB hb
  replace EB1:=bl EB1 hb
  replace HN1:=hid (HN1.out.below hb)
  replace HP:=hid (HP.out.below hb)
  replace HU:=hid (HU.out.step hb)
  replace HZW:=hid (Nat.le_trans HZW.out hb.size)
  clear hb
  refine wpAnyH_take (i:=0) (v:=_) rfl (by kernel_rfl) (by kernel_rfl) (by kernel_rfl) (fun _ _ _ h=>h) (yields_load_box (by kernel_rfl) 24 (.tmp 3) rfl (w1.heap.size) 24 (#[.int .i64 x1.kind,.int .i64 x1.num,.string (byt x1.text),v1]) _ rfl (fun _ h=>h.1) Tryz.underlying24 rfl HCS1.out) (by assumption) ?_
  (try simp only[Act.put,sq])
  refine tH (i:=1) (v:= ?_) rfl ?_ (by assumption) ?_
  rotate_left
  ·intro w hSw
   (try dsimp only at hSw)
   go_simp
   try (with_reducible rfl)
  (try simp only[Act.put,sq])
  refine rdH 2 rfl fun K hK=> ?_
  go_simp
  refine (h.expr HP.out (by omega)).mono ?_
  rintro e wc (⟨x2,k2,cs2,hr,hk1,hk2,rfl,hn,hx,hu⟩ | ⟨hr,rfl,hu⟩)
  rotate_left
  ·exact⟨rfl,.inr ⟨HR.out.trans (Pars.and_no hr),rfl,HU.out.trans hu⟩⟩
  have hlt2:=got_lt hr rfl
  replace HR:=hid (HR.out.trans (Pars.and_some hr))
  have HN2:Hid (NodeAt _ (fun g=>W0.heap.size≤g) x2 cs2):=hid (hn.weak (fun g hg=>by have:=HZW.out;omega))
  have hcs2:(Tryz.prog.info? 24).map (·.size)=some cs2.size:=by rw[NodeAt.size hn];exact info_nod
  have h42:(4:Nat)=cs2.size:=(NodeAt.size hn).symm
  have hone2:=NodeAt.one hn
  have HCS2:=hid hcs2
  have H42:=hid h42
  have HONE2:=hid hone2
  replace RB:=bg RB hu
  replace EB1:=bg EB1 hu
  replace HN1:=hid (HN1.out.upd hu (fun g hg=>by first | omega | (simp only at hg;omega)))
  replace HP:=hid (HP.out.upd hx hu (by omega))
  replace HU:=hid (HU.out.trans hu)
  replace HZW:=hid (Nat.le_trans HZW.out hu.size)
  clear hr hn hx hu hcs2 h42 hone2
  obtain⟨v2,hlit,hvo⟩:=NodeAt.lit HN2.out
  rw[hlit] at HN2 HCS2 H42 HONE2 ⊢
  have HVO2:=hid hvo
  clear hlit hvo
  go_wp2_with fail
  refine hK.out _ _ ⟨EB1.out,trivial⟩ (fun hHeld=> ?_)
  clear hK K
  (try simp only[Act.put,sq])
  refine rdH 3 rfl fun K hK=> ?_
  go_simp
  have bxB:=Box.new wc 24 #[.int .i64 x1.kind,.int .i64 x1.num,.string (byt x1.text),v1,.int .i64 x2.kind,.int .i64 x2.num,.string (byt x2.text),v2]
  have hb:Below wc.heap.size wc (wc.alloc (.cells #[.int .i64 x1.kind,.int .i64 x1.num,.string (byt x1.text),v1,.int .i64 x2.kind,.int .i64 x2.num,.string (byt x2.text),v2] 24)):=below1 wc _
  obtain⟨wb,hwb⟩:∃wb,(wc.alloc (.cells #[.int .i64 x1.kind,.int .i64 x1.num,.string (byt x1.text),v1,.int .i64 x2.kind,.int .i64 x2.num,.string (byt x2.text),v2] 24))=wb:=⟨_,rfl⟩
  rw[hwb] at bxB hb
  rw[hwb]
  clear hwb
  have hgB:W0.heap.size≤wc.heap.size:=HZW.out
  replace RB:=bl RB hb
  replace EB1:=bl EB1 hb
  replace HN1:=hid (HN1.out.below hb)
  replace HN2:=hid (HN2.out.below hb)
  replace HP:=hid (HP.out.below hb)
  replace HU:=hid (HU.out.step hb)
  replace HZW:=hid (Nat.le_trans HZW.out hb.size)
  have BXB:=hid bxB
  refine hK.out _ _ ⟨EB1.out,trivial⟩ (fun hHeld=> ?_)
  clear hK K hb bxB
  (try simp only[Act.put,sq])
  refine tH (i:=4) (v:= ?_) rfl ?_ (by assumption) ?_
  rotate_left
  ·intro w hSw
   (try dsimp only at hSw)
   go_simp
   try (with_reducible rfl)
  (try simp only[Act.put,sq])
  refine rdH 5 rfl fun K hK=> ?_
  refine step_store_box rfl 24 (.tmp 2) (.tmp 28) rfl (w.heap.size) #[.int .i64 19,.int .i64 0,.string ⟨#[]⟩,.slice (some ⟨wc.heap.size,0,none⟩) 2 2] rfl rfl 24 _ RB.out info_nod rfl (nz_one _ _ _ _ _ _) ?_
  intro wz hxz huz hzz
  have HZZ:=hid hzz
  refine hK.out _ _ ⟨Box.grown EB1.out huz (by intro h;injection h with h;omega),trivial⟩ (fun hHeld=> ?_)
  clear hK K
  (try simp only[Act.put,sq])
  refine wpAnyH_done (by kernel_rfl) ?_ _
  go_wp2
  refine bodyPost_ret (results_box rfl _ _ w.heap.size 24 _ _ rfl hxz Tryz.underlying24 rfl info_nod) rfl ?_
  have hnb:NodeAt wb (fun g=>W0.heap.size≤g) (.mk 19 0 [] [x1,x2]) #[.int .i64 19,.int .i64 0,.string ⟨#[]⟩,.slice (some ⟨wc.heap.size,0,none⟩) 2 2]:=NodeAt.build (css:=[#[.int .i64 x1.kind,.int .i64 x1.num,.string (byt x1.text),v1], #[.int .i64 x2.kind,.int .i64 x2.num,.string (byt x2.text),v2]]) 19 0 [] BXB.out hgB ⟨HN1.out,HN2.out,trivial⟩
  exact .inl ⟨_,_,_,HR.out,by omega,HP.out.kle,rfl,(hnb.upd huz (fun g hg=>by (try simp only at hg);omega)).weak (fun g hg=>by (try simp only at hg);omega),Box.grown HP.out.box huz (by intro h;injection h with h;omega),Upd.fresh HU.out huz (Nat.le_refl _)⟩
 have g2:(KD==12)=false:=bn y2
 by_cases y3:KD=13
 ·replace HR:=hid (HR.out.trans (if_pos (.inr (.inr (HKD.out.trans y3)))))
  have g3:(KD==13)=true:=by simp[y3]
  clear y1 y2 y3
  go_wp2_with fail
  refine (within_any true _).mono ?_
  rintro e w4 ⟨he,rfl⟩
  subst he
  go_upto_region 5 with fail
  refine wp_region_held_drew (S:=fun w'=>Box w' (w1.heap.size) 24 #[.int .i64 x1.kind,.int .i64 x1.num,.string (byt x1.text),v1]∧True) (by kernel_rfl) ⟨Box.drew EB1.out,trivial⟩ (fun hHeld=> ?_)
  obtain⟨wd,hwd⟩:∃wd,w4.drew=wd:=⟨_,rfl⟩
  have hb:Below w4.heap.size w4 wd:=hwd ▸ (Below.refl _ w4).drew
  rw[hwd] at hHeld
  (try rw[hwd])
  clear hwd
  replace RB:=bl RB hb
  replace EB1:=bl EB1 hb
  replace HN1:=hid (HN1.out.below hb)
  replace HP:=hid (HP.out.below hb)
  replace HU:=hid (HU.out.step hb)
  replace HZW:=hid (Nat.le_trans HZW.out hb.size)
  clear hb
  refine wpAnyH_take (i:=0) (v:=_) rfl (by kernel_rfl) (by kernel_rfl) (by kernel_rfl) (fun _ _ _ h=>h) (yields_load_box (by kernel_rfl) 24 (.tmp 3) rfl (w1.heap.size) 24 (#[.int .i64 x1.kind,.int .i64 x1.num,.string (byt x1.text),v1]) _ rfl (fun _ h=>h.1) Tryz.underlying24 rfl HCS1.out) (by assumption) ?_
  (try simp only[Act.put,sq])
  refine tH (i:=1) (v:= ?_) rfl ?_ (by assumption) ?_
  rotate_left
  ·intro w hSw
   (try dsimp only at hSw)
   go_simp
   try (with_reducible rfl)
  (try simp only[Act.put,sq])
  refine rdH 2 rfl fun K hK=> ?_
  go_simp
  refine (h.expr HP.out (by omega)).mono ?_
  rintro e wc (⟨x2,k2,cs2,hr,hk1,hk2,rfl,hn,hx,hu⟩ | ⟨hr,rfl,hu⟩)
  rotate_left
  ·exact⟨rfl,.inr ⟨HR.out.trans (Pars.and_no hr),rfl,HU.out.trans hu⟩⟩
  have hlt2:=got_lt hr rfl
  replace HR:=hid (HR.out.trans (Pars.and_some hr))
  have HN2:Hid (NodeAt _ (fun g=>W0.heap.size≤g) x2 cs2):=hid (hn.weak (fun g hg=>by have:=HZW.out;omega))
  have hcs2:(Tryz.prog.info? 24).map (·.size)=some cs2.size:=by rw[NodeAt.size hn];exact info_nod
  have h42:(4:Nat)=cs2.size:=(NodeAt.size hn).symm
  have hone2:=NodeAt.one hn
  have HCS2:=hid hcs2
  have H42:=hid h42
  have HONE2:=hid hone2
  replace RB:=bg RB hu
  replace EB1:=bg EB1 hu
  replace HN1:=hid (HN1.out.upd hu (fun g hg=>by first | omega | (simp only at hg;omega)))
  replace HP:=hid (HP.out.upd hx hu (by omega))
  replace HU:=hid (HU.out.trans hu)
  replace HZW:=hid (Nat.le_trans HZW.out hu.size)
  clear hr hn hx hu hcs2 h42 hone2
  obtain⟨v2,hlit,hvo⟩:=NodeAt.lit HN2.out
  rw[hlit] at HN2 HCS2 H42 HONE2 ⊢
  have HVO2:=hid hvo
  clear hlit hvo
  go_wp2_with fail
  refine hK.out _ _ ⟨EB1.out,trivial⟩ (fun hHeld=> ?_)
  clear hK K
  (try simp only[Act.put,sq])
  refine rdH 3 rfl fun K hK=> ?_
  go_simp
  have bxB:=Box.new wc 24 #[.int .i64 x1.kind,.int .i64 x1.num,.string (byt x1.text),v1,.int .i64 x2.kind,.int .i64 x2.num,.string (byt x2.text),v2]
  have hb:Below wc.heap.size wc (wc.alloc (.cells #[.int .i64 x1.kind,.int .i64 x1.num,.string (byt x1.text),v1,.int .i64 x2.kind,.int .i64 x2.num,.string (byt x2.text),v2] 24)):=below1 wc _
  obtain⟨wb,hwb⟩:∃wb,(wc.alloc (.cells #[.int .i64 x1.kind,.int .i64 x1.num,.string (byt x1.text),v1,.int .i64 x2.kind,.int .i64 x2.num,.string (byt x2.text),v2] 24))=wb:=⟨_,rfl⟩
  rw[hwb] at bxB hb
  rw[hwb]
  clear hwb
  have hgB:W0.heap.size≤wc.heap.size:=HZW.out
  replace RB:=bl RB hb
  replace EB1:=bl EB1 hb
  replace HN1:=hid (HN1.out.below hb)
  replace HN2:=hid (HN2.out.below hb)
  replace HP:=hid (HP.out.below hb)
  replace HU:=hid (HU.out.step hb)
  replace HZW:=hid (Nat.le_trans HZW.out hb.size)
  have BXB:=hid bxB
  refine hK.out _ _ ⟨EB1.out,trivial⟩ (fun hHeld=> ?_)
  clear hK K hb bxB
  (try simp only[Act.put,sq])
  refine tH (i:=4) (v:= ?_) rfl ?_ (by assumption) ?_
  rotate_left
  ·intro w hSw
   (try dsimp only at hSw)
   go_simp
   try (with_reducible rfl)
  (try simp only[Act.put,sq])
  refine rdH 5 rfl fun K hK=> ?_
  refine step_store_box rfl 24 (.tmp 2) (.tmp 28) rfl (w.heap.size) #[.int .i64 19,.int .i64 0,.string ⟨#[]⟩,.slice (some ⟨wc.heap.size,0,none⟩) 2 2] rfl rfl 24 _ RB.out info_nod rfl (nz_one _ _ _ _ _ _) ?_
  intro wz hxz huz hzz
  have HZZ:=hid hzz
  refine hK.out _ _ ⟨Box.grown EB1.out huz (by intro h;injection h with h;omega),trivial⟩ (fun hHeld=> ?_)
  clear hK K
  (try simp only[Act.put,sq])
  refine wpAnyH_done (by kernel_rfl) ?_ _
  go_wp2
  refine bodyPost_ret (results_box rfl _ _ w.heap.size 24 _ _ rfl hxz Tryz.underlying24 rfl info_nod) rfl ?_
  have hnb:NodeAt wb (fun g=>W0.heap.size≤g) (.mk 19 0 [] [x1,x2]) #[.int .i64 19,.int .i64 0,.string ⟨#[]⟩,.slice (some ⟨wc.heap.size,0,none⟩) 2 2]:=NodeAt.build (css:=[#[.int .i64 x1.kind,.int .i64 x1.num,.string (byt x1.text),v1], #[.int .i64 x2.kind,.int .i64 x2.num,.string (byt x2.text),v2]]) 19 0 [] BXB.out hgB ⟨HN1.out,HN2.out,trivial⟩
  exact .inl ⟨_,_,_,HR.out,by omega,HP.out.kle,rfl,(hnb.upd huz (fun g hg=>by (try simp only at hg);omega)).weak (fun g hg=>by (try simp only at hg);omega),Box.grown HP.out.box huz (by intro h;injection h with h;omega),Upd.fresh HU.out huz (Nat.le_refl _)⟩
 have g3:(KD==13)=false:=bn y3
 replace HR:=hid (HR.out.trans (if_neg (by rw[HKD.out];simp only[not_or];exact⟨y1,y2,y3⟩)))
 clear y1 y2 y3
 go_wp2_with fail
 refine (within_any false _).mono ?_
 rintro e w4 ⟨he,rfl⟩
 subst he
 exact⟨rfl,.inr ⟨HR.out,rfl,HU.out⟩⟩
end Go.Proofs.YtflmjbmdmoifhaaGreatDoor
namespace Go.Proofs.YtflmjbmdmoifhaaGreatDoor
open Go.Lib (hid)
open Go.RowKit
theorem all_zero:All 0:=by
 constructor
 all_goals (intros;rename_i hm;exact absurd hm (Nat.not_lt_zero _))
theorem all_le:∀n m,m≤n→All m
 | 0,m,h=>by
  have:m=0:=by omega
  subst this
  exact all_zero
 | n+1,m,h=>by
  have ih:=all_le n
  have hn:=ih n (Nat.le_refl n)
  by_cases e:m≤n
  ·exact ih m e
  ·have:m=n+1:=by omega
   subst this
   exact {
    block:=block_step ih
    stmt:=stmt_step hn
    expr:=expr_step hn
    cond:=cond_step hn
    un:=un_step ih
    first:=first_step ih
    inner:=inner_step hn
    ifs:=ifs_step hn
    loops:=loops_step hn
    tries:=tries_step hn
    bin:=bin_step ih
    body:=body_step hn
    func:=func_step ih}
theorem all_any (n:Nat):All n:=all_le n n (Nat.le_refl n)
end Go.Proofs.YtflmjbmdmoifhaaGreatDoor
namespace Go.Proofs.YtflmjbmdmoifhaaGreatDoor
open Go.Lib (hid)
open Go.RowKit
set_option maxRecDepth 100000 in
set_option maxHeartbeats 4000000 in
theorem catch_slip (nb kb:Nat) (w:World) (old:Array Value) (ho:old.size=4) (t:Bool) (hn:Box w nb 24 old) (hk:Box w kb 4 #[.bool t]) (hne:nb≠kb):
  CallsD Tryz.prog 52 #[.pointer (some ⟨nb,0,none⟩),.pointer (some ⟨kb,0,none⟩)] (.panicking slipped) w fun e u' w'=>
   e= .returned (.tuple #[])∧u'= .panicking [{v:=SL,recovered:=true}]∧Box w' nb 24 #[.int .i64 0,.int .i64 0,.string ⟨#[]⟩,.slice none 0 0]∧Box w' kb 4 #[.bool false]∧∀B,B≤nb→B≤kb→Below B w w':=by
 refine callsD_of_wpS Tryz.func52 rfl fun c₀ cs hu=> ?_
 unfold slipped at hu
 apply wpS_seq
 apply wpS_region
 simp[wpOpsS,go_sem,recoverD,hu,Tryz.ntmps52,Exit.thenS]
 refine wpS_of_wp ?_
 change Code.wp _ _ _ {tmps:= #[.pointer (some ⟨nb,0,none⟩),.pointer (some ⟨kb,0,none⟩),SL,undef,undef,SL,undef,undef,undef,undef,undef,undef,undef,undef,undef,undef,undef],defers:=[]} _
 unfold SL
 generalize hQ:(fun e a' w'=>bodyPostS _ _ _ _ _ e a' _ w')=Q
 have HQ:=hid hQ
 clear hQ
 have hta:∀w,(Instr.typeAssert (.iface 104 (.agg #[])) 20 104 true).run Tryz.prog w= .ok (.tuple #[.agg #[],.bool true]) w:=fun _=>by kernel_rfl
 have HN:=hid (hn.alloc (.cells #[] 104))
 have HK:=hid (hk.alloc (.cells #[] 104))
 have hnl:=hn.lt
 have hkl:=hk.lt
 clear hn hk
 go_wp2_with (refine wpList_store_box rfl 24 (.tmp 0) (.tmp 16) rfl nb #[.int .i64 0,.int .i64 0,.string ⟨#[]⟩,.slice none 0 0] rfl rfl 24 old HN.out info_nod ho (nz_one _ _ _ _ _ _) ?_;intro w2 hx hu hz;have HK2:=hid (Box.grown HK.out hu (by intro h;injection h with h;exact hne h.symm));have HX:=hid hx;have HU:=hid hu;have k0:=HK2.out.cell 0;have kf:w2.frozen? ⟨kb,0,none⟩=false:=HK2.out.frozen 0;simp at k0;clear hx hu hz)
 have HX2:=HX.out.far (p:=⟨kb,0,none⟩) hne (.bool false)
 have HK3:=HK2.out.set 0 (.bool false)
 rw[←HQ.out]
 refine⟨rfl,_,rfl,_,results_none rfl _ _ _,rfl,rfl,HX2,HK3,fun B h1 h2=> ?_⟩
 have hb1:Below w.heap.size w (w.alloc (.cells #[] 104)):=below1 w _
 exact ((hb1.mono (by omega)).trans (HU.out.own h1 (by have:=hb1.size;omega))).trans (((Upd.refl w2 kb).set (p:=⟨kb,0,none⟩) (.inl rfl) (.bool false)).own h2 (by have:=HU.out.size;have:=hb1.size;omega))
set_option maxRecDepth 100000 in
set_option maxHeartbeats 4000000 in
theorem catch_none (nb kb:Nat) (w:World):
  CallsD Tryz.prog 52 #[.pointer (some ⟨nb,0,none⟩),.pointer (some ⟨kb,0,none⟩)] .returning w fun e u' w'=>e= .returned (.tuple #[])∧u'= .returning∧w'=w:=by
 refine callsD_of_wpS Tryz.func52 rfl fun c₀ cs hu=> ?_
 apply wpS_seq
 apply wpS_region
 simp[wpOpsS,go_sem,recoverD,hu,Tryz.ntmps52,Exit.thenS]
 refine wpS_of_wp ?_
 change Code.wp _ _ _ {tmps:= #[.pointer (some ⟨nb,0,none⟩),.pointer (some ⟨kb,0,none⟩),.nilIface,undef,undef,.nilIface,undef,undef,undef,undef,undef,undef,undef,undef,undef,undef,undef],defers:=[]} _
 generalize hQ:(fun e a' w'=>bodyPostS _ _ _ _ _ e a' _ w')=Q
 have HQ:=hid hQ
 clear hQ
 go_wp2
 rw[←HQ.out]
 refine⟨rfl,_,?_,_,results_none rfl _ _ _,rfl,rfl,rfl⟩
 cases c₀
 simp_all
end Go.Proofs.YtflmjbmdmoifhaaGreatDoor

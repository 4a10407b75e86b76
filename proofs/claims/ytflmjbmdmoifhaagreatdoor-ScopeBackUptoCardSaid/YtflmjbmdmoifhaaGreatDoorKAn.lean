/-
  Texts that the law leans on: JlG, JlH, JlI, JlJ, JlK, JlL. Conditions: as each says.
-/
import Derived.Test.YtflmjbmdmoifhaaGreatDoorKAm
import Derived.Laws.IdiomStrings
import Derived.Test.YtflmjbmdmoifhaaGreatDoorKAa
import Derived.OwnWalk
import Derived.Deep.RegionLaw
import Derived.Deep.AppendLies
import Derived.RegionTactic
import Derived.BigRegion
set_option linter.unusedSimpArgs false
set_option linter.unusedVariables false
namespace Go.Proofs.YtflmjbmdmoifhaaGreatDoor.Jl
open Go.Lib (hid)
open Go.RowKit
def Out (w:World) (b:Nat) (s:ByteArray) (k:Nat) (o:Value) (r:Lexy.Res (Lexy.Tk×Nat)) (e:Ending) (w':World):Prop:=
 match r with
 | .ok (t,n)=>e= .returned (.tuple #[tokV t 0 0,.int .i64 0])∧Rd w' b s (k+n) o∧Upd w w' b
 | .err n=>e= .returned (.tuple #[tokV ⟨0,[],0⟩ 0 0,.int .i64 (n:Int)])∧Upd w w' b
theorem words_sg (w:World) (g:Nat) (hg:w.heap.size=g) (he:Env w):
  Calls Tryz.prog 71 #[.string (bytes sgText)] w fun e w'=>e= .returned (.slice (some ⟨g,0,none⟩) 26 26)∧Box w' g 9 (wordCells Lexy.signs)∧Below g w w':=by
 subst hg
 refine (fields_sg w he).mono fun e w' ⟨h1,h2⟩=> ?_
 subst h2
 exact⟨h1,Box.new _ _ _,(Below.refl _ _).alloc (Nat.le_refl _) _⟩
theorem Rd.below {w w1:World} {b k:Nat} {s:ByteArray} {o:Value} (h:Rd w b s k o) {B:Nat} (hb:Below B w w1) (hB:b<B):Rd w1 b s k o:=Box.below h hb hB
theorem Rd.alloc {w:World} {b k:Nat} {s:ByteArray} {o:Value} (h:Rd w b s k o) (x:Obj):Rd (w.alloc x) b s k o:=Box.alloc h x
theorem i2a:∀w,(Instr.index 125 (.agg #[.int .i64 2,.int .i64 1]) (.int .i64 0)).run Tryz.prog w= .ok (.int .i64 2) w:=fun _=>by kernel_rfl
theorem i2b:∀w,(Instr.index 125 (.agg #[.int .i64 2,.int .i64 1]) (.int .i64 1)).run Tryz.prog w= .ok (.int .i64 1) w:=fun _=>by kernel_rfl
set_option maxRecDepth 100000 in
set_option maxHeartbeats 1000000 in
theorem sign_two (b:Nat) (s:ByteArray) (k:Nat) (o:Value) (w:World) (h:Rd w b s k o) (he:Env w) (hb:4≤b) (hm:s.size≤1000000)
  (h2:k+2≤s.size) (hw:(s.data.toList.drop k).take 2∈Lexy.signs):
  Calls Tryz.prog 51 #[.pointer (some ⟨b,0,none⟩)] w fun e w'=>Out w b s k o (.ok (⟨4,(s.data.toList.drop k).take 2,0⟩,2)) e w':=by
 obtain⟨x,hx⟩:∃x,s.extract k (k+2)=x:=⟨_,rfl⟩
 have hxl:(s.data.toList.drop k).take 2=x.data.toList:=by rw[←hx];simp
 rw[hxl] at hw ⊢
 have hbx:bytes x.data.toList=x:=by cases x;simp[bytes]
 have HBX:=hid hbx
 have HC:Hid (∀(w:World) (g:Nat),Box w g 9 (wordCells Lexy.signs)→Calls Tryz.prog 13 #[.slice (some ⟨g,0,none⟩) 26 26,.string x] w fun e w'=>e= .returned (.bool true)∧w=w'):=by
  intro w g hc
  have:=contains_words Lexy.signs 26 rfl (by omega) x g w hc
  rwa [show decide (x.data.toList∈Lexy.signs)=true by simpa using hw] at this
 have hi0:=i2a
 have hsl:∀w,(Instr.slice 9 (.string s) (some (.int .i64 (k:Int))) (some (.int .i64 ((k:Int)+2))) none).run Tryz.prog w= .ok (.string x) w:=by
  intro w
  have:=run_slice_string (P:=Tryz.prog) w 9 s .i64 .i64 (k:Int) ((k:Int)+2) Tryz.underlying9 (by omega) (by omega) (by omega)
  rw[show ((k:Int)+2).toNat=k+2 by omega,Int.toNat_natCast,hx] at this
  exact this
 have ht1:decide ((s.size:Int)<(k:Int)+2)=false:=by simp;omega
 have hs0:=h.text;have hp0:=h.place;have hlt:=Box.lt h
 clear hw hx hxl hbx
 go_enter Tryz.func51,Tryz.ntmps51
 go_wp2
 refine wp_loop_rounds 3 ?_
 rw[rounds_succ]
 go_wp2
 go_quiet (fail)
 go_wp2
 go_quiet (fail)
 go_wp2_with fail
 refine (words_sg _ (w.heap.size+1) (by simp) ((he.alloc (by omega) _).drewN _)).mono ?_
 rintro e w2 ⟨rfl,hbx2,hbl2⟩
 go_wp2_with fail
 refine (HC.out _ _ hbx2).mono ?_
 rintro e w3 ⟨rfl,rfl⟩
 have hr2:Rd w2 b s k o:=Rd.below ((h.alloc _).drewN _) hbl2 (by omega)
 have htk:Box w2 w.heap.size 58 #[.int .i64 0,.int .i64 0,.int .i64 0,.string ⟨#[]⟩,.int .i64 0]:=Box.below ((Box.new w _ _).drewN _) hbl2 (by omega)
 have hu2:Upd w w2 b:=Upd.below (((Below.refl _ w).alloc (Nat.le_refl _) _).trans ((below_drewN (Below.refl _ _) _).trans (hbl2.mono (by omega)))) b
 have hsz2:w.heap.size<w2.heap.size:=htk.lt
 clear hs0 hp0
 have hp2:=hr2.place;have hf2:=hr2.free 1
 go_wp2_with (refine wpList_store_box rfl 58 (.tmp 2) (.tmp 50) rfl w.heap.size #[.int .i64 _,.int .i64 0,.int .i64 0,.string x,.int .i64 0] rfl rfl 58 _ (htk.far (by simp;omega) _) info_tok5 rfl (tok_one _ _ _ _ _) ?_;intro w4 hx4 hu4 hz4)
 refine bodyPost_ret (results_box_tmp rfl _ _ w.heap.size 58 _ _ rfl hx4 Tryz.underlying58 rfl info_tok5) rfl ?_
 refine⟨?_,?_,?_⟩
 ·unfold tokV;rw[HBX.out];rfl
 ·exact Box.grown (hr2.moveI _ (k+2) (by omega)) hu4 (by simp;omega)
 ·exact (hu2.set (.inl rfl) _).far hu4 (Nat.le_refl _)
set_option maxRecDepth 100000 in
set_option maxHeartbeats 1000000 in
theorem sign_one2 (b:Nat) (s:ByteArray) (k:Nat) (o:Value) (w:World) (h:Rd w b s k o) (he:Env w) (hb:4≤b) (hm:s.size≤1000000)
  (h2:k+2≤s.size) (hw:¬(s.data.toList.drop k).take 2∈Lexy.signs) (hv:(s.data.toList.drop k).take 1∈Lexy.signs):
  Calls Tryz.prog 51 #[.pointer (some ⟨b,0,none⟩)] w fun e w'=>Out w b s k o (.ok (⟨4,(s.data.toList.drop k).take 1,0⟩,1)) e w':=by
 obtain⟨x,hx⟩:∃x,s.extract k (k+2)=x:=⟨_,rfl⟩
 have hxl:(s.data.toList.drop k).take 2=x.data.toList:=by rw[←hx];simp
 rw[hxl] at hw
 have HC2:Hid (∀(w:World) (g:Nat),Box w g 9 (wordCells Lexy.signs)→Calls Tryz.prog 13 #[.slice (some ⟨g,0,none⟩) 26 26,.string x] w fun e w'=>e= .returned (.bool false)∧w=w'):=by
  intro w g hc
  have:=contains_words Lexy.signs 26 rfl (by omega) x g w hc
  rwa [show decide (x.data.toList∈Lexy.signs)=false by simpa using hw] at this
 have hsl:∀w,(Instr.slice 9 (.string s) (some (.int .i64 (k:Int))) (some (.int .i64 ((k:Int)+2))) none).run Tryz.prog w= .ok (.string x) w:=by
  intro w
  have:=run_slice_string (P:=Tryz.prog) w 9 s .i64 .i64 (k:Int) ((k:Int)+2) Tryz.underlying9 (by omega) (by omega) (by omega)
  rw[show ((k:Int)+2).toNat=k+2 by omega,Int.toNat_natCast,hx] at this
  exact this
 have ht1:decide ((s.size:Int)<(k:Int)+2)=false:=by simp;omega
 clear hw hx hxl
 have ht2:decide ((s.size:Int)<(k:Int)+1)=false:=by simp;omega
 obtain⟨y,hy⟩:∃y,s.extract k (k+1)=y:=⟨_,rfl⟩
 have hyl:(s.data.toList.drop k).take 1=y.data.toList:=by rw[←hy];simp
 rw[hyl] at hv ⊢
 have hbx:bytes y.data.toList=y:=by cases y;simp[bytes]
 have HBX:=hid hbx
 have HC1:Hid (∀(w:World) (g:Nat),Box w g 9 (wordCells Lexy.signs)→Calls Tryz.prog 13 #[.slice (some ⟨g,0,none⟩) 26 26,.string y] w fun e w'=>e= .returned (.bool true)∧w=w'):=by
  intro w g hc
  have:=contains_words Lexy.signs 26 rfl (by omega) y g w hc
  rwa [show decide (y.data.toList∈Lexy.signs)=true by simpa using hv] at this
 have hi0:=i2a
 have hi1:=i2b
 have hsl1:∀w,(Instr.slice 9 (.string s) (some (.int .i64 (k:Int))) (some (.int .i64 ((k:Int)+1))) none).run Tryz.prog w= .ok (.string y) w:=by
  intro w
  have:=run_slice_string (P:=Tryz.prog) w 9 s .i64 .i64 (k:Int) ((k:Int)+1) Tryz.underlying9 (by omega) (by omega) (by omega)
  rw[show ((k:Int)+1).toNat=k+1 by omega,Int.toNat_natCast,hy] at this
  exact this
 have hs0:=h.text;have hp0:=h.place;have hlt:=Box.lt h
 clear hv hy hyl hbx
 go_enter Tryz.func51,Tryz.ntmps51
 go_wp2
 refine wp_loop_rounds 3 ?_
 rw[rounds_succ]
 go_wp2
 go_quiet (fail)
 go_wp2
 go_quiet (fail)
 go_wp2_with fail
 refine (words_sg _ (w.heap.size+1) (by simp) ((he.alloc (by omega) _).drewN _)).mono ?_
 rintro e w2 ⟨rfl,hbx2,hbl2⟩
 go_wp2_with fail
 refine (HC2.out _ _ hbx2).mono ?_
 rintro e w3 ⟨rfl,rfl⟩
 have he2:Env w2:=((he.alloc (by omega) _).drewN _).below hbl2 (by omega)
 have hr2:Rd w2 b s k o:=Rd.below ((h.alloc _).drewN _) hbl2 (by omega)
 have htk2:Box w2 w.heap.size 58 #[.int .i64 0,.int .i64 0,.int .i64 0,.string ⟨#[]⟩,.int .i64 0]:=Box.below ((Box.new w _ _).drewN _) hbl2 (by omega)
 have hu2:Upd w w2 b:=Upd.below (((Below.refl _ w).alloc (Nat.le_refl _) _).trans ((below_drewN (Below.refl _ _) _).trans (hbl2.mono (by omega)))) b
 have hsz2:w.heap.size<w2.heap.size:=htk2.lt
 have hlt2:b<w2.heap.size:=by omega
 clear hs0 hp0
 have hp2:=hr2.place;have hs2:=hr2.text
 go_wp2
 rw[rounds_succ]
 go_wp2
 go_quiet (fail)
 go_wp2
 go_quiet (fail)
 go_wp2_with fail
 refine (words_sg _ w2.heap.size (by simp) (he2.drewN _)).mono ?_
 rintro e w4 ⟨rfl,hbx4,hbl4⟩
 have hr4:Rd w4 b s k o:=Rd.below (hr2.drewN _) hbl4 (by omega)
 have htk4:Box w4 w.heap.size 58 #[.int .i64 0,.int .i64 0,.int .i64 0,.string ⟨#[]⟩,.int .i64 0]:=Box.below (htk2.drewN _) hbl4 (by omega)
 have hu4:Upd w w4 b:=hu2.trans (Upd.below ((below_drewN (Below.refl _ _) _).trans hbl4) b)
 clear hs2 hp2
 have hsz4:w.heap.size<w4.heap.size:=htk4.lt
 go_wp2_with fail
 refine (HC1.out _ _ hbx4).mono ?_
 rintro e w5 ⟨rfl,rfl⟩
 have hp4:=hr4.place;have hf4:=hr4.free 1
 go_wp2_with (refine wpList_store_box rfl 58 (.tmp 2) (.tmp 50) rfl w.heap.size #[.int .i64 _,.int .i64 0,.int .i64 0,.string y,.int .i64 0] rfl rfl 58 _ (htk4.far (by simp;omega) _) info_tok5 rfl (tok_one _ _ _ _ _) ?_;intro w6 hx6 hu6 hz6)
 refine bodyPost_ret (results_box_tmp rfl _ _ w.heap.size 58 _ _ rfl hx6 Tryz.underlying58 rfl info_tok5) rfl ?_
 refine⟨?_,?_,?_⟩
 ·unfold tokV;rw[HBX.out];rfl
 ·exact Box.grown (hr4.moveI _ (k+1) (by omega)) hu6 (by simp;omega)
 ·exact (hu4.set (.inl rfl) _).far hu6 (Nat.le_refl _)
set_option maxRecDepth 100000 in
set_option maxHeartbeats 1000000 in
theorem sign_one1 (b:Nat) (s:ByteArray) (k:Nat) (o:Value) (w:World) (h:Rd w b s k o) (he:Env w) (hb:4≤b) (hm:s.size≤1000000)
  (h1:k+1=s.size) (hv:(s.data.toList.drop k).take 1∈Lexy.signs):
  Calls Tryz.prog 51 #[.pointer (some ⟨b,0,none⟩)] w fun e w'=>Out w b s k o (.ok (⟨4,(s.data.toList.drop k).take 1,0⟩,1)) e w':=by
 have ht1:decide ((s.size:Int)<(k:Int)+2)=true:=by simp;omega
 have ht2:decide ((s.size:Int)<(k:Int)+1)=false:=by simp;omega
 obtain⟨y,hy⟩:∃y,s.extract k (k+1)=y:=⟨_,rfl⟩
 have hyl:(s.data.toList.drop k).take 1=y.data.toList:=by rw[←hy];simp
 rw[hyl] at hv ⊢
 have hbx:bytes y.data.toList=y:=by cases y;simp[bytes]
 have HBX:=hid hbx
 have HC1:Hid (∀(w:World) (g:Nat),Box w g 9 (wordCells Lexy.signs)→Calls Tryz.prog 13 #[.slice (some ⟨g,0,none⟩) 26 26,.string y] w fun e w'=>e= .returned (.bool true)∧w=w'):=by
  intro w g hc
  have:=contains_words Lexy.signs 26 rfl (by omega) y g w hc
  rwa [show decide (y.data.toList∈Lexy.signs)=true by simpa using hv] at this
 have hi0:=i2a
 have hi1:=i2b
 have hsl1:∀w,(Instr.slice 9 (.string s) (some (.int .i64 (k:Int))) (some (.int .i64 ((k:Int)+1))) none).run Tryz.prog w= .ok (.string y) w:=by
  intro w
  have:=run_slice_string (P:=Tryz.prog) w 9 s .i64 .i64 (k:Int) ((k:Int)+1) Tryz.underlying9 (by omega) (by omega) (by omega)
  rw[show ((k:Int)+1).toNat=k+1 by omega,Int.toNat_natCast,hy] at this
  exact this
 have hs0:=h.text;have hp0:=h.place;have hlt:=Box.lt h
 clear hv hy hyl hbx
 go_enter Tryz.func51,Tryz.ntmps51
 go_wp2
 refine wp_loop_rounds 3 ?_
 rw[rounds_succ]
 go_wp2
 go_quiet (fail)
 go_wp2
 rw[rounds_succ]
 go_wp2
 go_quiet (fail)
 go_wp2
 go_quiet (fail)
 go_wp2_with fail
 refine (words_sg _ (w.heap.size+1) (by simp) ((he.alloc (by omega) _).drewN _)).mono ?_
 rintro e w4 ⟨rfl,hbx4,hbl4⟩
 have hr4:Rd w4 b s k o:=Rd.below ((h.alloc _).drewN _) hbl4 (by omega)
 have htk4:Box w4 w.heap.size 58 #[.int .i64 0,.int .i64 0,.int .i64 0,.string ⟨#[]⟩,.int .i64 0]:=Box.below ((Box.new w _ _).drewN _) hbl4 (by omega)
 have hu4:Upd w w4 b:=Upd.below (((Below.refl _ w).alloc (Nat.le_refl _) _).trans ((below_drewN (Below.refl _ _) _).trans (hbl4.mono (by omega)))) b
 clear hs0 hp0
 have hsz4:w.heap.size<w4.heap.size:=htk4.lt
 go_wp2_with fail
 refine (HC1.out _ _ hbx4).mono ?_
 rintro e w5 ⟨rfl,rfl⟩
 have hp4:=hr4.place;have hf4:=hr4.free 1
 go_wp2_with (refine wpList_store_box rfl 58 (.tmp 2) (.tmp 50) rfl w.heap.size #[.int .i64 _,.int .i64 0,.int .i64 0,.string y,.int .i64 0] rfl rfl 58 _ (htk4.far (by simp;omega) _) info_tok5 rfl (tok_one _ _ _ _ _) ?_;intro w6 hx6 hu6 hz6)
 refine bodyPost_ret (results_box_tmp rfl _ _ w.heap.size 58 _ _ rfl hx6 Tryz.underlying58 rfl info_tok5) rfl ?_
 refine⟨?_,?_,?_⟩
 ·unfold tokV;rw[HBX.out];rfl
 ·exact Box.grown (hr4.moveI _ (k+1) (by omega)) hu6 (by simp;omega)
 ·exact (hu4.set (.inl rfl) _).far hu6 (Nat.le_refl _)
set_option maxRecDepth 100000 in
set_option maxHeartbeats 1000000 in
theorem sign_no2 (b:Nat) (s:ByteArray) (k:Nat) (o:Value) (w:World) (h:Rd w b s k o) (he:Env w) (hb:4≤b) (hm:s.size≤1000000)
  (h2:k+2≤s.size) (hw:¬(s.data.toList.drop k).take 2∈Lexy.signs) (hv:¬(s.data.toList.drop k).take 1∈Lexy.signs):
  Calls Tryz.prog 51 #[.pointer (some ⟨b,0,none⟩)] w fun e w'=>Out w b s k o (.err 4) e w':=by
 obtain⟨x,hx⟩:∃x,s.extract k (k+2)=x:=⟨_,rfl⟩
 have hxl:(s.data.toList.drop k).take 2=x.data.toList:=by rw[←hx];simp
 rw[hxl] at hw
 have HC2:Hid (∀(w:World) (g:Nat),Box w g 9 (wordCells Lexy.signs)→Calls Tryz.prog 13 #[.slice (some ⟨g,0,none⟩) 26 26,.string x] w fun e w'=>e= .returned (.bool false)∧w=w'):=by
  intro w g hc
  have:=contains_words Lexy.signs 26 rfl (by omega) x g w hc
  rwa [show decide (x.data.toList∈Lexy.signs)=false by simpa using hw] at this
 have hsl:∀w,(Instr.slice 9 (.string s) (some (.int .i64 (k:Int))) (some (.int .i64 ((k:Int)+2))) none).run Tryz.prog w= .ok (.string x) w:=by
  intro w
  have:=run_slice_string (P:=Tryz.prog) w 9 s .i64 .i64 (k:Int) ((k:Int)+2) Tryz.underlying9 (by omega) (by omega) (by omega)
  rw[show ((k:Int)+2).toNat=k+2 by omega,Int.toNat_natCast,hx] at this
  exact this
 have ht1:decide ((s.size:Int)<(k:Int)+2)=false:=by simp;omega
 clear hw hx hxl
 have ht2:decide ((s.size:Int)<(k:Int)+1)=false:=by simp;omega
 obtain⟨y,hy⟩:∃y,s.extract k (k+1)=y:=⟨_,rfl⟩
 have hyl:(s.data.toList.drop k).take 1=y.data.toList:=by rw[←hy];simp
 rw[hyl] at hv
 have HC1:Hid (∀(w:World) (g:Nat),Box w g 9 (wordCells Lexy.signs)→Calls Tryz.prog 13 #[.slice (some ⟨g,0,none⟩) 26 26,.string y] w fun e w'=>e= .returned (.bool false)∧w=w'):=by
  intro w g hc
  have:=contains_words Lexy.signs 26 rfl (by omega) y g w hc
  rwa [show decide (y.data.toList∈Lexy.signs)=false by simpa using hv] at this
 have hi0:=i2a
 have hi1:=i2b
 have hsl1:∀w,(Instr.slice 9 (.string s) (some (.int .i64 (k:Int))) (some (.int .i64 ((k:Int)+1))) none).run Tryz.prog w= .ok (.string y) w:=by
  intro w
  have:=run_slice_string (P:=Tryz.prog) w 9 s .i64 .i64 (k:Int) ((k:Int)+1) Tryz.underlying9 (by omega) (by omega) (by omega)
  rw[show ((k:Int)+1).toNat=k+1 by omega,Int.toNat_natCast,hy] at this
  exact this
 have hs0:=h.text;have hp0:=h.place;have hlt:=Box.lt h
 clear hv hy hyl
 go_enter Tryz.func51,Tryz.ntmps51
 go_wp2
 refine wp_loop_rounds 3 ?_
 rw[rounds_succ]
 go_wp2
 go_quiet (fail)
 go_wp2
 go_quiet (fail)
 go_wp2_with fail
 refine (words_sg _ (w.heap.size+1) (by simp) ((he.alloc (by omega) _).drewN _)).mono ?_
 rintro e w2 ⟨rfl,hbx2,hbl2⟩
 go_wp2_with fail
 refine (HC2.out _ _ hbx2).mono ?_
 rintro e w3 ⟨rfl,rfl⟩
 have he2:Env w2:=((he.alloc (by omega) _).drewN _).below hbl2 (by omega)
 have hr2:Rd w2 b s k o:=Rd.below ((h.alloc _).drewN _) hbl2 (by omega)
 have htk2:Box w2 w.heap.size 58 #[.int .i64 0,.int .i64 0,.int .i64 0,.string ⟨#[]⟩,.int .i64 0]:=Box.below ((Box.new w _ _).drewN _) hbl2 (by omega)
 have hu2:Upd w w2 b:=Upd.below (((Below.refl _ w).alloc (Nat.le_refl _) _).trans ((below_drewN (Below.refl _ _) _).trans (hbl2.mono (by omega)))) b
 have hsz2:w.heap.size<w2.heap.size:=htk2.lt
 have hlt2:b<w2.heap.size:=by omega
 clear hs0 hp0
 have hp2:=hr2.place;have hs2:=hr2.text
 go_wp2
 rw[rounds_succ]
 go_wp2
 go_quiet (fail)
 go_wp2
 go_quiet (fail)
 go_wp2_with fail
 refine (words_sg _ w2.heap.size (by simp) (he2.drewN _)).mono ?_
 rintro e w4 ⟨rfl,hbx4,hbl4⟩
 have hr4:Rd w4 b s k o:=Rd.below (hr2.drewN _) hbl4 (by omega)
 have htk4:Box w4 w.heap.size 58 #[.int .i64 0,.int .i64 0,.int .i64 0,.string ⟨#[]⟩,.int .i64 0]:=Box.below (htk2.drewN _) hbl4 (by omega)
 have hu4:Upd w w4 b:=hu2.trans (Upd.below ((below_drewN (Below.refl _ _) _).trans hbl4) b)
 clear hs2 hp2
 have hsz4:w.heap.size<w4.heap.size:=htk4.lt
 go_wp2_with fail
 refine (HC1.out _ _ hbx4).mono ?_
 rintro e w5 ⟨rfl,rfl⟩
 have hp4:=hr4.place;have hf4:=hr4.free 1
 go_wp2
 rw[rounds_succ]
 go_wp2_with (refine wpList_store_box rfl 58 (.tmp 2) (.tmp 52) rfl w.heap.size #[.int .i64 0,.int .i64 0,.int .i64 0,.string ⟨#[]⟩,.int .i64 0] rfl rfl 58 _ htk4 info_tok5 rfl (tok_one _ _ _ _ _) ?_;intro w6 hx6 hu6 hz6)
 refine bodyPost_ret (results_box_tmp rfl _ _ w.heap.size 58 _ _ rfl hx6 Tryz.underlying58 rfl info_tok5) rfl ?_
 exact⟨rfl,hu4.far hu6 (Nat.le_refl _)⟩
set_option maxRecDepth 100000 in
set_option maxHeartbeats 1000000 in
theorem sign_no1 (b:Nat) (s:ByteArray) (k:Nat) (o:Value) (w:World) (h:Rd w b s k o) (he:Env w) (hb:4≤b) (hm:s.size≤1000000)
  (h1:k+1=s.size) (hv:¬(s.data.toList.drop k).take 1∈Lexy.signs):
  Calls Tryz.prog 51 #[.pointer (some ⟨b,0,none⟩)] w fun e w'=>Out w b s k o (.err 4) e w':=by
 have ht1:decide ((s.size:Int)<(k:Int)+2)=true:=by simp;omega
 have ht2:decide ((s.size:Int)<(k:Int)+1)=false:=by simp;omega
 obtain⟨y,hy⟩:∃y,s.extract k (k+1)=y:=⟨_,rfl⟩
 have hyl:(s.data.toList.drop k).take 1=y.data.toList:=by rw[←hy];simp
 rw[hyl] at hv
 have HC1:Hid (∀(w:World) (g:Nat),Box w g 9 (wordCells Lexy.signs)→Calls Tryz.prog 13 #[.slice (some ⟨g,0,none⟩) 26 26,.string y] w fun e w'=>e= .returned (.bool false)∧w=w'):=by
  intro w g hc
  have:=contains_words Lexy.signs 26 rfl (by omega) y g w hc
  rwa [show decide (y.data.toList∈Lexy.signs)=false by simpa using hv] at this
 have hi0:=i2a
 have hi1:=i2b
 have hsl1:∀w,(Instr.slice 9 (.string s) (some (.int .i64 (k:Int))) (some (.int .i64 ((k:Int)+1))) none).run Tryz.prog w= .ok (.string y) w:=by
  intro w
  have:=run_slice_string (P:=Tryz.prog) w 9 s .i64 .i64 (k:Int) ((k:Int)+1) Tryz.underlying9 (by omega) (by omega) (by omega)
  rw[show ((k:Int)+1).toNat=k+1 by omega,Int.toNat_natCast,hy] at this
  exact this
 have hs0:=h.text;have hp0:=h.place;have hlt:=Box.lt h
 clear hv hy hyl
 go_enter Tryz.func51,Tryz.ntmps51
 go_wp2
 refine wp_loop_rounds 3 ?_
 rw[rounds_succ]
 go_wp2
 go_quiet (fail)
 go_wp2
 rw[rounds_succ]
 go_wp2
 go_quiet (fail)
 go_wp2
 go_quiet (fail)
 go_wp2_with fail
 refine (words_sg _ (w.heap.size+1) (by simp) ((he.alloc (by omega) _).drewN _)).mono ?_
 rintro e w4 ⟨rfl,hbx4,hbl4⟩
 have hr4:Rd w4 b s k o:=Rd.below ((h.alloc _).drewN _) hbl4 (by omega)
 have htk4:Box w4 w.heap.size 58 #[.int .i64 0,.int .i64 0,.int .i64 0,.string ⟨#[]⟩,.int .i64 0]:=Box.below ((Box.new w _ _).drewN _) hbl4 (by omega)
 have hu4:Upd w w4 b:=Upd.below (((Below.refl _ w).alloc (Nat.le_refl _) _).trans ((below_drewN (Below.refl _ _) _).trans (hbl4.mono (by omega)))) b
 clear hs0 hp0
 have hsz4:w.heap.size<w4.heap.size:=htk4.lt
 go_wp2_with fail
 refine (HC1.out _ _ hbx4).mono ?_
 rintro e w5 ⟨rfl,rfl⟩
 have hp4:=hr4.place;have hf4:=hr4.free 1
 go_wp2
 rw[rounds_succ]
 go_wp2_with (refine wpList_store_box rfl 58 (.tmp 2) (.tmp 52) rfl w.heap.size #[.int .i64 0,.int .i64 0,.int .i64 0,.string ⟨#[]⟩,.int .i64 0] rfl rfl 58 _ htk4 info_tok5 rfl (tok_one _ _ _ _ _) ?_;intro w6 hx6 hu6 hz6)
 refine bodyPost_ret (results_box_tmp rfl _ _ w.heap.size 58 _ _ rfl hx6 Tryz.underlying58 rfl info_tok5) rfl ?_
 exact⟨rfl,hu4.far hu6 (Nat.le_refl _)⟩
theorem sign_any (b:Nat) (s:ByteArray) (k:Nat) (o:Value) (w:World) (h:Rd w b s k o) (he:Env w) (hb:4≤b) (hm:s.size≤1000000) (hk:k<s.size):
  Calls Tryz.prog 51 #[.pointer (some ⟨b,0,none⟩)] w fun e w'=>Out w b s k o (Lexy.sign (s.data.toList.drop k)) e w':=by
 have hl:(s.data.toList.drop k).length=s.size - k:=by simp
 unfold Lexy.sign
 rw[hl]
 by_cases h2:k+2≤s.size
 ·by_cases hw:(s.data.toList.drop k).take 2∈Lexy.signs
  ·rw[if_pos ⟨by omega,hw⟩]
   exact sign_two b s k o w h he hb hm h2 hw
  ·rw[if_neg (fun h=>hw h.2)]
   by_cases hv:(s.data.toList.drop k).take 1∈Lexy.signs
   ·rw[if_pos ⟨by omega,hv⟩]
    exact sign_one2 b s k o w h he hb hm h2 hw hv
   ·rw[if_neg (fun h=>hv h.2)]
    exact sign_no2 b s k o w h he hb hm h2 hw hv
 ·rw[if_neg (fun h=>by omega)]
  by_cases hv:(s.data.toList.drop k).take 1∈Lexy.signs
  ·rw[if_pos ⟨by omega,hv⟩]
   exact sign_one1 b s k o w h he hb hm (by omega) hv
  ·rw[if_neg (fun h=>hv h.2)]
   exact sign_no1 b s k o w h he hb hm (by omega) hv
end Go.Proofs.YtflmjbmdmoifhaaGreatDoor.Jl
namespace Go.Proofs.YtflmjbmdmoifhaaGreatDoor.Jl
open Go.Lib (hid)
open Go.RowKit
theorem wpList_to_bytes {P:Program} {ops:Array Oper} {rest:List Oper} {o:Oper} {a:Act} {w:World} {Q:Exit→Act→World→Prop} (hgd:o.guard=none) (src dst e:TypeId) (x:Operand) (ho:o.op= .convert src dst x)
  (hs:P.underlying src=some .string) (hd:P.underlying dst=some (.slice e)) (he:P.underlying e=some (.int .u8)) (s:ByteArray) (hx:a.eval x= .string s)
  (h:∀(w':World) (cap:Nat),(∀(j:Nat) (c:UInt8),s.data.toList[j]? =some c→w'.cell? ⟨w.heap.size,j,none⟩=some (.int .u8 (c.toNat:Int)))→Below w.heap.size w w'→w.heap.size<w'.heap.size→
   wpList P ops Q rest (a.put o.dst (.slice (some ⟨w.heap.size,0,none⟩) s.size cap)) w'):wpList P ops Q (o :: rest) a w:=
 wpList_plain hgd fun _ hK=>by
  unfold Oper.wp execOp
  simp only[ho,hx,Sem.run_bind,run_bytes_of_string w src dst e s hs hd he,Result.andThen_ok,Sem.run_pure]
  refine hK _ _ (h _ _ ?_ ((Below.refl _ w).drew.alloc (Nat.le_refl _) _) (by simp))
  intro j c hc
  have:=World.cell?_alloc_mark w.drew (bytesRow s (grownCap w s.size 0 e)) e ((bytesRow s (grownCap w s.size 0 e)).size,(bytesRow s (grownCap w s.size 0 e)).size+1) j
  refine Eq.trans this ?_
  obtain⟨h1,h2⟩:=List.getElem?_eq_some_iff.1 hc
  have h3:j<s.data.size:=by simpa using h1
  unfold bytesRow
  rw[Array.getElem?_append_left (by simpa using h3)]
  simp
  exact⟨c,by simpa using hc,rfl⟩
theorem all_dig (l:Lexy.Bs) (m:Nat) (hm:Lexy.digLen l=m):∀(j:Nat) (c:UInt8),(l.take m)[j]? =some c→48≤c.toNat∧c.toNat≤57:=by
 intro j c hc
 have h1:=Lexy.take_tw Lexy.isDigit l
 have:m=(l.takeWhile Lexy.isDigit).length:=hm.symm
 rw[this,h1] at hc
 have:=Lexy.all_tw Lexy.isDigit l c (List.mem_of_getElem? hc)
 simpa [Lexy.isDigit] using this
theorem head_letter (l:Lexy.Bs):(l.head?.map Lexy.isLetter).getD false=Lexy.isLetter ((l[0]?).getD 0):=by
 cases l with
 | nil=>decide
 | cons c r=>simp
set_option maxRecDepth 100000 in
set_option maxHeartbeats 1000000 in
theorem number_any (b:Nat) (s:ByteArray) (k:Nat) (o:Value) (w:World) (h:Rd w b s k o) (hk:k≤s.size) (hm:s.size≤1000000):
  Calls Tryz.prog 49 #[.pointer (some ⟨b,0,none⟩)] w fun e w'=>
   Out w b s k o (match Lexy.numF 0 ((s.data.toList.drop k).take (Lexy.digLen (s.data.toList.drop k))) with
    | none=> .err 2
    | some n=>if (((s.data.toList.drop k).drop (Lexy.digLen (s.data.toList.drop k))).head?.map Lexy.isLetter).getD false then .err 4 else .ok (⟨2,[],n⟩,Lexy.digLen (s.data.toList.drop k))) e w':=by
 have hlt:=Box.lt h
 have hrun:=hid (fun w (h:Rd w b s k o)=>run_digit b s k o w h hk hm)
 obtain⟨m,hm'⟩:∃m,Lexy.digLen (s.data.toList.drop k)=m:=⟨_,rfl⟩
 have hmm:((s.data.toList.drop k).takeWhile Lexy.isDigit).length=m:=hm'
 have hdig:=all_dig _ _ hm'
 have hml:k+m≤s.size:=by
  have:=tw_len Lexy.isDigit (s.data.toList.drop k);rw[hmm,List.length_drop] at this;simp at this;omega
 rw[hmm] at hrun
 rw[hm']
 obtain⟨x,hx⟩:∃x,s.extract k (k+m)=x:=⟨_,rfl⟩
 have hxl:(s.data.toList.drop k).take m=x.data.toList:=by rw[←hx];simp
 have hxs:x.size=m:=by rw[←hx];simp;omega
 rw[hx] at hrun
 rw[hxl] at hdig ⊢
 have hd2:(s.data.toList.drop k).drop m=s.data.toList.drop (k+m):=by rw[List.drop_drop]
 rw[hd2]
 obtain⟨D,hD⟩:∃D,x.data.toList=D:=⟨_,rfl⟩
 have hDl:D.length=m:=by rw[←hD, ←hxs];simp
 rw[hD] at hdig ⊢
 obtain⟨F,hF⟩:∃F:Lexy.Res (Lexy.Tk×Nat),(match Lexy.numF 0 D with
    | none=>Lexy.Res.err 2
    | some n=>if ((s.data.toList.drop (k+m)).head?.map Lexy.isLetter).getD false then .err 4 else .ok (⟨2,[],n⟩,m))=F:=⟨_,rfl⟩
 rw[hF]
 have HF:=hid hF
 have hxm:x.size≤1000000:=by omega
 have HXS:=hid hxs
 have HDL:=hid hDl
 have HDD:=hid hD
 have HDG:=hid hdig
 clear hF hxs hDl hD hdig hd2 hx hxl hmm hm'
 go_enter Tryz.func49,Tryz.ntmps49
 go_wp2_with fail
 refine (hrun.out _ (h.alloc _)).mono ?_
 rintro e w1 ⟨rfl,hr1,hu1⟩
 have hsz:=h1size hu1
 have hx1:Box w1 w.heap.size 58 #[.int .i64 0,.int .i64 0,.int .i64 0,.string ⟨#[]⟩,.int .i64 0]:=Box.grown (Box.new w _ _) hu1 (by simp;omega)
 have hup1:Upd w w1 b:=((Upd.refl w b).alloc _).trans hu1
 go_wp2_with (refine wpList_to_bytes rfl 9 83 5 (.tmp 8) rfl Tryz.underlying9 Tryz.underlying83 Tryz.underlying5 x rfl ?_;intro w2 cap hc2 hbl2 hsz2)
 have hr2:Rd w2 b s (k+m) o:=Rd.below hr1 hbl2 (by omega)
 have hx2:Box w2 w.heap.size 58 #[.int .i64 0,.int .i64 0,.int .i64 0,.string ⟨#[]⟩,.int .i64 0]:=Box.below hx1 hbl2 (by omega)
 have hup2:Upd w w2 b:=hup1.step hbl2
 have HC2:=hid hc2
 clear hc2
 go_loop [4,11] (fun v i=>∃(j n:Nat),j≤x.size∧n≤9007199254740992∧i= .int .i64 (j:Int)∧v= .int .i64 (n:Int)∧Hid (Lexy.numF n (D.drop j)=Lexy.numF 0 D)) (fun _ i=>x.size - (intOf i).toNat)
 case atStart=>exact⟨0,0,Nat.zero_le _,by omega,rfl,rfl,hid (by simp)⟩
 case round=>
  obtain⟨j,n,hj,hn,rfl,rfl,H⟩:=hrel
  by_cases hjx:j<x.size
  ·obtain⟨c,hc⟩:∃c,D[j]? =some c:=⟨_,List.getElem?_eq_getElem (by rw[HDL.out, ←HXS.out];exact hjx)⟩
   obtain⟨c0,c9⟩:=HDG.out j c hc
   have hcell:w2.cell? ⟨w1.heap.size,j,none⟩=some (.int .u8 (c.toNat:Int)):=HC2.out j c (by rw[HDD.out];exact hc)
   have hl1:decide ((j:Int)<(x.size:Int))=true:=by simp;omega
   have hd:D.drop j=c :: D.drop (j+1):=by
    obtain⟨h1,h2⟩:=List.getElem?_eq_some_iff.1 hc
    rw[List.drop_eq_getElem_cons h1,h2]
   have hstep:=H.out
   rw[hd] at hstep
   simp only[Lexy.numF] at hstep
   have d0:(48:Int)≤(c.toNat:Int):=by omega
   have d9:(c.toNat:Int)≤57:=by omega
   clear hd hc c0 c9
   by_cases hov:9007199254740992<10 * n+(c.toNat - 48)
   ·rw[if_pos hov] at hstep
    have hFe:Hid (F= .err 2):=by rw[←HF.out, ←hstep];exact hid rfl
    have ht:decide ((9007199254740992:Int)<10 * (n:Int)+((c.toNat:Int) - 48))=true:=by simp;omega
    clear hstep
    go_wp2_with (refine wpList_store_box rfl 58 (.tmp 2) (.tmp 23) rfl w.heap.size #[.int .i64 0,.int .i64 0,.int .i64 0,.string ⟨#[]⟩,.int .i64 0] rfl rfl 58 _ hx2 info_tok5 rfl (tok_one _ _ _ _ _) ?_;intro w6 hx6 hu6 hz6)
    refine bodyPost_ret (results_box_tmp rfl _ _ w.heap.size 58 _ _ rfl hx6 Tryz.underlying58 rfl info_tok5) rfl ?_
    rw[hFe.out]
    exact⟨rfl,hup2.far hu6 (Nat.le_refl _)⟩
   ·rw[if_neg hov] at hstep
    have HST:=hid hstep
    have ht:decide ((9007199254740992:Int)<10 * (n:Int)+((c.toNat:Int) - 48))=false:=by simp;omega
    clear hstep
    go_wp2
    go_round
    case rel=>
     have e:(10 * (n:Int)+((c.toNat:Int) - 48))=((10 * n+(c.toNat - 48):Nat):Int):=by omega
     rw[e]
     exact⟨j+1,10 * n+(c.toNat - 48),by omega,by omega,by go_num,rfl,HST⟩
    case measure=>simp[intOf];omega
  ·have hl1:decide ((j:Int)<(x.size:Int))=false:=by simp;omega
   have hstep:=H.out
   rw[List.drop_eq_nil_of_le (by rw[HDL.out, ←HXS.out];omega)] at hstep
   simp only[Lexy.numF] at hstep
   have hFF:=HF.out
   rw[←hstep] at hFF
   simp only[head_letter] at hFF
   have P0:=hid (fun w (h:Rd w b s (k+m) o)=>peek_any b s (k+m) 0 o w h hml hm (by omega))
   obtain⟨d,hd⟩:∃d,((s.data.toList.drop (k+m))[0]?).getD 0=d:=⟨_,rfl⟩
   rw[hd] at P0 hFF
   have HLt:=hid (fun w=>letter_any d w)
   cases hld:Lexy.isLetter d with
   | true=>
    rw[hld] at HLt hFF
    have HFF:=hid hFF
    clear hFF hstep hld hd
    go_wp2_with fail
    refine (P0.out _ hr2).mono ?_
    rintro e w3 ⟨rfl,n3,rfl⟩
    go_wp2_with fail
    refine (HLt.out _).mono ?_
    rintro e w3 ⟨rfl,rfl⟩
    go_wp2_with (refine wpList_store_box rfl 58 (.tmp 2) (.tmp 28) rfl w.heap.size #[.int .i64 0,.int .i64 0,.int .i64 0,.string ⟨#[]⟩,.int .i64 0] rfl rfl 58 _ (hx2.drewN _) info_tok5 rfl (tok_one _ _ _ _ _) ?_;intro w6 hx6 hu6 hz6)
    refine bodyPost_ret (results_box_tmp rfl _ _ w.heap.size 58 _ _ rfl hx6 Tryz.underlying58 rfl info_tok5) rfl ?_
    rw[←HFF.out]
    exact⟨rfl,(hup2.drewN _).far hu6 (Nat.le_refl _)⟩
   | false=>
    rw[hld] at HLt hFF
    have HFF:=hid hFF
    clear hFF hstep hld hd
    go_wp2_with fail
    refine (P0.out _ hr2).mono ?_
    rintro e w3 ⟨rfl,n3,rfl⟩
    go_wp2_with fail
    refine (HLt.out _).mono ?_
    rintro e w3 ⟨rfl,rfl⟩
    go_wp2_with (refine wpList_store_box rfl 58 (.tmp 2) (.tmp 30) rfl w.heap.size #[.int .i64 _,.int .i64 0,.int .i64 0,.string ⟨#[]⟩,.int .i64 _] rfl rfl 58 _ (hx2.drewN _) info_tok5 rfl (tok_one _ _ _ _ _) ?_;intro w6 hx6 hu6 hz6)
    refine bodyPost_ret (results_box_tmp rfl _ _ w.heap.size 58 _ _ rfl hx6 Tryz.underlying58 rfl info_tok5) rfl ?_
    rw[←HFF.out]
    exact⟨rfl,Box.grown (hr2.drewN _) hu6 (by simp;omega),(hup2.drewN _).far hu6 (Nat.le_refl _)⟩
end Go.Proofs.YtflmjbmdmoifhaaGreatDoor.Jl
namespace Go.Proofs.YtflmjbmdmoifhaaGreatDoor.Jl
open Go.Lib (hid)
open Go.RowKit
def byteCells (acc:Lexy.Bs):List Value:=acc.map fun c=>Value.int .u8 (c.toNat:Int)
theorem wpList_of_bytes {P:Program} {ops:Array Oper} {rest:List Oper} {o:Oper} {a:Act} {w:World} {Q:Exit→Act→World→Prop} (hgd:o.guard=none) (src dst e:TypeId) (x:Operand) (ho:o.op= .convert src dst x)
  (hs:P.underlying src=some (.slice e)) (he:P.underlying e=some (.int .u8)) (hd:P.underlying dst=some .string) (v:Value) (hx:a.eval x=v) (base:Nat) (acc:Lexy.Bs)
  (hown:w.ownsRow base e 1 v acc.length (byteCells acc)) (h:wpList P ops Q rest (a.put o.dst (.string ⟨acc.toArray⟩)) w):wpList P ops Q (o :: rest) a w:=by
 have hrun:(convert src dst v).run P w= .ok (.string ⟨acc.toArray⟩) w:=by
  rcases hown.2 with⟨rfl,hn⟩ | ⟨g,cap,cur,rfl,hb,hg,rest⟩
  ·have:acc=[]:=by cases acc with | nil=>rfl | cons c r=>simp at hn
   subst this
   rw[run_convert_bytes_string w src dst e none 0 0 hs he hd]
   rfl
  ·have hcells:=hown.cells (g:=g) rfl
   have:=run_convert_bytes_back (P:=P) w src dst e ⟨g,0,none⟩ cap acc hs he hd (fun j hj=>hcells j _ (by simp[byteCells,hj]))
   exact this
 refine wpList_plain hgd fun _ hK=> ?_
 unfold Oper.wp execOp
 simp only[ho,hx,Sem.run_bind,hrun,Result.andThen_ok,Sem.run_pure]
 exact hK _ _ h
theorem info_u8:(Tryz.prog.info? 5).map (fun i=>(i.zero,i.size,i.bytes))=some (some (.int .u8 0),1,1):=by kernel_rfl
theorem own_far {w w':World} {base b:Nat} {e:TypeId} {size:Nat} {v:Value} {n:Nat} {xs:List Value} (h:w.ownsRow base e size v n xs) (hu:Upd w w' b) (hb:b<base):w'.ownsRow base e size v n xs:=
 h.kept hu (by
  cases hv:v.ownBlock with
  | none=>exact .inl rfl
  | some g=>refine .inr ?_;have:=(h.lt g hv).1;simp;omega)
theorem _root_.Go.Proofs.YtflmjbmdmoifhaaGreatDoor.Upd.thenB {a w w1:World} {b:Nat} (h:Upd a w b) (k:Below a.heap.size w w1):Upd a w1 b:=
 ⟨k.os.trans h.os,k.tape.trans h.tape,k.output.trans h.output,Nat.le_trans h.size k.size,fun i hi hn=>(k.block i hi).trans (h.block i hi hn)⟩
theorem one_new (w:World) (x:Value) (t:TypeId) (g:Nat) (hg:w.heap.size=g):∀(j:Nat) (u:Value),[x][j]? =some u→(w.alloc (.cells #[x] t)).cell? ((⟨g,0,none⟩:Addr).add j)=some u:=by
 subst hg
 intro j u hj
 cases j with
 | zero=>
  simp at hj
  subst hj
  have h:=(Box.new w t #[x]).cell 0
  exact h
 | succ j=>simp at hj
theorem one_cell (n:Int):∀u∈[Value.int .u8 n],u.oneCell'=true:=by intro u hu;simp at hu;subst hu;rfl
def tres (k:Nat):Option (Lexy.Bs×Nat)→Lexy.Res (Lexy.Tk×Nat)
 | none=> .err 4
 | some (t,p)=> .ok (⟨3,t,0⟩,p - k)
set_option maxRecDepth 100000 in
set_option maxHeartbeats 2000000 in
theorem text_any (b:Nat) (s:ByteArray) (k:Nat) (o:Value) (w:World) (h:Rd w b s k o) (hk:k<s.size) (hm:s.size≤1000000):
  Calls Tryz.prog 50 #[.pointer (some ⟨b,0,none⟩)] w fun e w'=>
   Out w b s k o (match Lexy.txt (s.data.toList.drop (k+1)) with
    | none=> .err 4
    | some (t,m)=> .ok (⟨3,t,0⟩,1+m)) e w':=by
 have hlt:=Box.lt h
 obtain⟨l,hl⟩:∃l,s.data.toList=l:=⟨_,rfl⟩
 have hsz:l.length=s.size:=by rw[←hl];simp
 obtain⟨F,hF⟩:∃F,Lexy.fin [] (k+1) (l.drop (k+1))=F:=⟨_,rfl⟩
 obtain⟨R,hR⟩:∃R:Lexy.Res (Lexy.Tk×Nat),tres k F=R:=⟨_,rfl⟩
 have hgoal:(match Lexy.txt (s.data.toList.drop (k+1)) with
    | none=>(.err 4:Lexy.Res (Lexy.Tk×Nat))
    | some (t,m)=> .ok (⟨3,t,0⟩,1+m))=R:=by
  rw[←hR, ←hF,hl]
  unfold Lexy.fin
  cases Lexy.txt (l.drop (k+1)) with
  | none=>rfl
  | some x=>simp[tres];omega
 rw[hgoal]
 have HL:=hid hl
 have HS:=hid hsz
 have HF:=hid hF
 have HR:=hid hR
 have HEsc:=hid (fun (k':Nat) w (h:Rd w b s k' o) (hk:k'≤s.size)=>escape_any b s k' o w h hk hm)
 clear hl hsz hF hR hgoal
 obtain⟨i0,hi0,hz0,hz1,hz2⟩:=info_parts info_u8
 have hs0:=h.text;have hp0:=h.place;have hf0:=h.free 1
 go_enter Tryz.func50,Tryz.ntmps50
 go_wp2
 clear hs0 hp0 hf0
 go_loopg [4] (s.size - (k+1)) (fun g v wr=>∃(k':Nat) (acc:Lexy.Bs),k+1≤k'∧k'≤s.size∧g=s.size - k'∧acc.length≤k'∧Rd wr b s k' o∧Box wr w.heap.size 58 #[.int .i64 0,.int .i64 0,.int .i64 0,.string ⟨#[]⟩,.int .i64 0]∧Upd w wr b∧
  wr.ownsRow (w.heap.size+1) 5 1 v acc.length (byteCells acc)∧Hid (Lexy.fin acc k' (l.drop k')=F))
 case atStart=>
  exact⟨k+1,[],Nat.le_refl _,hk,rfl,Nat.zero_le _,(h.moveI _ (k+1) (by omega)).alloc _,by simpa using Box.new (w.setCell ⟨b,1,none⟩ (.int .i64 ((k:Int)+1))) 58 #[.int .i64 0,.int .i64 0,.int .i64 0,.string ⟨#[]⟩,.int .i64 0],((Upd.refl w b).set (.inl rfl) _).alloc _,World.ownsRow_nil _ _ _ _,HF⟩
 case round=>
  obtain⟨k',acc,hkk,hks,hg,hal,hr,hx,hu,hown,H⟩:=hrel
  have HG:=hid hg;clear hg
  have hwz:w.heap.size<wr.heap.size:=hx.lt
  have hs0:=hr.text;have hp0:=hr.place;have hf:=hr.free 1
  by_cases hlt':k'<s.size
  ·obtain⟨c,hc⟩:∃c,l[k']? =some c:=⟨_,List.getElem?_eq_getElem (by rw[HS.out];exact hlt')⟩
   have hl1:decide ((k':Int)<s.size)=true:=by simp;omega
   have hi:=fun w=>run_at s c (k':Int) (by omega) (by rw[HL.out];exact hc) w
   have hd:l.drop k'=c :: l.drop (k'+1):=by
    obtain⟨h1,h2⟩:=List.getElem?_eq_some_iff.1 hc
    rw[List.drop_eq_getElem_cons h1,h2]
   have HD:=hid hd
   clear hc hd
   by_cases h34:c=34
   ·subst h34
    have HFn:Hid (F=some (acc,k'+1)):=by rw[←H.out,HD.out];exact hid (Lexy.fin_quote acc k' _)
    go_wp2
    go_quiet (fail)
    go_wp2
    go_quiet (fail)
    go_wp2_with (first | (refine wpList_of_bytes rfl 83 9 5 (.tmp 44) rfl Tryz.underlying83 Tryz.underlying5 Tryz.underlying9 u4 rfl (w.heap.size+1) acc (ownsRow_setCell_below hown (a:=⟨b,1,none⟩) (by simp;omega) _) ?_) | (refine wpList_store_box rfl 58 (.tmp 2) (.tmp 46) rfl w.heap.size #[.int .i64 _,.int .i64 0,.int .i64 0,.string ⟨acc.toArray⟩,.int .i64 0] rfl rfl 58 _ ((hx.drewN _).far (by simp;omega) _) info_tok5 rfl (tok_one _ _ _ _ _) ?_;intro w6 hx6 hu6 hz6))
    refine bodyPost_ret (results_box_tmp rfl _ _ w.heap.size 58 _ _ rfl hx6 Tryz.underlying58 rfl info_tok5) rfl ?_
    rw[←HR.out,HFn.out]
    refine⟨rfl,?_,((hu.drewN _).set (.inl rfl) _).far hu6 (Nat.le_refl _)⟩
    rw[show k+(k'+1 - k)=k'+1 by omega]
    exact Box.grown ((hr.drewN _).moveI _ (k'+1) (by omega)) hu6 (by simp;omega)
   ·have n34:((c.toNat:Int)==34)=false:=byte_ne (d:=34) h34
    by_cases hlow:c.toNat<32
    ·have HFn:Hid (F=none):=by rw[←H.out,HD.out];exact hid (Lexy.fin_low acc k' _ hlow)
     have e32:decide ((c.toNat:Int)<32)=true:=by simp;omega
     clear hlow
     go_wp2
     go_quiet (fail)
     go_wp2
     go_quiet (fail)
     go_wp2_with (refine wpList_store_box rfl 58 (.tmp 2) (.tmp 50) rfl w.heap.size #[.int .i64 0,.int .i64 0,.int .i64 0,.string ⟨#[]⟩,.int .i64 0] rfl rfl 58 _ ((hx.drewN _).far (by simp;omega) _) info_tok5 rfl (tok_one _ _ _ _ _) ?_;intro w6 hx6 hu6 hz6)
     refine bodyPost_ret (results_box_tmp rfl _ _ w.heap.size 58 _ _ rfl hx6 Tryz.underlying58 rfl info_tok5) rfl ?_
     rw[←HR.out,HFn.out]
     exact⟨rfl,((hu.drewN _).set (.inl rfl) _).far hu6 (Nat.le_refl _)⟩
    ·have e32:decide ((c.toNat:Int)<32)=false:=by simp;omega
     by_cases h92:c=92
     ·subst h92
      clear n34 e32 h34 hlow
      have hesc:=HEsc.out (k'+1)
      rw[HL.out] at hesc
      cases hes:Lexy.esc (l.drop (k'+1)) with
      | none=>
       have HFn:Hid (F=none):=by rw[←H.out,HD.out];exact hid (Lexy.fin_bad acc k' _ hes)
       rw[show escV (l.drop (k'+1))=(0,0) by unfold escV;rw[hes];rfl] at hesc
       have HE:=hid hesc
       clear hesc hes
       go_wp2
       go_quiet (fail)
       go_wp2
       go_quiet (fail)
       go_wp2_with fail
       refine (HE.out _ ((hr.drewN _).moveI _ (k'+1) (by omega)) (by omega)).mono ?_
       rintro e w3 ⟨rfl,n3,rfl⟩
       go_wp2_with (refine wpList_store_box rfl 58 (.tmp 2) (.tmp 61) rfl w.heap.size #[.int .i64 0,.int .i64 0,.int .i64 0,.string ⟨#[]⟩,.int .i64 0] rfl rfl 58 _ (((hx.drewN _).far (by simp;omega) _).drewN _) info_tok5 rfl (tok_one _ _ _ _ _) ?_;intro w6 hx6 hu6 hz6)
       refine bodyPost_ret (results_box_tmp rfl _ _ w.heap.size 58 _ _ rfl hx6 Tryz.underlying58 rfl info_tok5) rfl ?_
       rw[←HR.out,HFn.out]
       exact⟨rfl,(((hu.drewN _).set (.inl rfl) _).drewN _).far hu6 (Nat.le_refl _)⟩
      | some dn=>
       obtain⟨d,n⟩:=dn
       obtain⟨_,hn1,hn0⟩:=Lexy.esc_app (z:=[]) hes
       rw[List.length_drop,HS.out] at hn1
       have HN:Hid (Lexy.fin (acc++[d]) (k'+1+n) (l.drop (k'+1+n))=F):=by
        rw[←H.out,HD.out,Lexy.fin_esc acc k' _ hes,List.drop_drop];exact hid rfl
       rw[show escV (l.drop (k'+1))=(d,n) by unfold escV;rw[hes];rfl] at hesc
       have HE:=hid hesc
       have hn00:((n:Int)==0)=false:=by simp;omega
       clear hesc hes
       go_wp2
       go_quiet (fail)
       go_wp2
       go_quiet (fail)
       go_wp2_with fail
       refine (HE.out _ ((hr.drewN _).moveI _ (k'+1) (by omega)) (by omega)).mono ?_
       rintro e w3 ⟨rfl,n3,rfl⟩
       go_wp2_with (at_builtin;refine wpList_append_own _ rfl (.tmp 71) (.tmp 73) 83 rfl (w.heap.size+1) 5 i0 (.int .u8 0) 1 1 Tryz.underlying83 hi0 hz0 hz1 hz2 rfl (by decide) u4 acc.length (byteCells acc) rfl ((ownsRow_setCell_below (ownsRow_setCell_below hown (a:=⟨b,1,none⟩) (by simp;omega) _) (a:=⟨b,1,none⟩) (by simp;omega) _).alloc _) ⟨wr.heap.size,0,none⟩ 1 1 [.int .u8 (d.toNat:Int)] rfl rfl (one_new _ _ _ _ (by simp)) (one_cell _) (by unfold maxLen;omega) (by omega) (by simp;omega) ?_;intro v2 w7 hown7 hgrow7 hnil7)
       have hb7:Below (w.heap.size+1) _ w7:=below_grown hgrow7 (by simp;omega) (fun g hg=>(hown.lt g hg).1)
       go_wp2
       go_roundg (s.size - (k'+1+n))
       case measure=>rw[HG.out];omega
       case rel=>exact⟨k'+1+n,acc++[d],by omega,by omega,rfl,by simp;omega,Rd.below ((Rd.moveI (((hr.drewN _).moveI _ (k'+1) (by omega)).drewN _) _ (k'+1+n) (by omega)).alloc _) hb7 (by omega),Box.below (((((hx.drewN _).far (by simp;omega) _).drewN _).far (by simp;omega) _).alloc _) hb7 (by omega),(((((hu.drewN _).set (.inl rfl) _).drewN _).set (.inl rfl) _).alloc _).thenB (hb7.mono (by omega)),by simpa [byteCells] using hown7,HN⟩
     ·have n92:((c.toNat:Int)==92)=false:=byte_ne (d:=92) h92
      have HN:Hid (Lexy.fin (acc++[c]) (k'+1) (l.drop (k'+1))=F):=by
       rw[←H.out,HD.out];exact hid (Lexy.fin_byte acc k' _ h34 hlow h92).symm
      clear h34 hlow h92
      go_wp2
      go_quiet (fail)
      go_wp2
      go_quiet (fail)
      go_wp2_with (at_builtin;refine wpList_append_own _ rfl (.tmp 71) (.tmp 73) 83 rfl (w.heap.size+1) 5 i0 (.int .u8 0) 1 1 Tryz.underlying83 hi0 hz0 hz1 hz2 rfl (by decide) u4 acc.length (byteCells acc) rfl ((ownsRow_setCell_below hown (a:=⟨b,1,none⟩) (by simp;omega) _).alloc _) ⟨wr.heap.size,0,none⟩ 1 1 [.int .u8 (c.toNat:Int)] rfl rfl (one_new _ _ _ _ (by simp)) (one_cell _) (by unfold maxLen;omega) (by omega) (by simp;omega) ?_;intro v2 w7 hown7 hgrow7 hnil7)
      have hb7:Below (w.heap.size+1) _ w7:=below_grown hgrow7 (by simp;omega) (fun g hg=>(hown.lt g hg).1)
      go_wp2
      go_roundg (s.size - (k'+1))
      case measure=>rw[HG.out];omega
      case rel=>exact⟨k'+1,acc++[c],by omega,by omega,rfl,by simp;omega,Rd.below (((hr.drewN _).moveI _ (k'+1) (by omega)).alloc _) hb7 (by omega),Box.below (((hx.drewN _).far (by simp;omega) _).alloc _) hb7 (by omega),(((hu.drewN _).set (.inl rfl) _).alloc _).thenB (hb7.mono (by omega)),by simpa [byteCells] using hown7,HN⟩
  ·have hl1:decide ((k':Int)<s.size)=false:=by simp;omega
   have HFn:Hid (F=none):=by rw[←H.out,List.drop_eq_nil_of_le (by rw[HS.out];omega)];exact hid (Lexy.fin_nil acc k')
   go_wp2
   go_quiet (fail)
   go_wp2_with (refine wpList_store_box rfl 58 (.tmp 2) (.tmp 75) rfl w.heap.size #[.int .i64 0,.int .i64 0,.int .i64 0,.string ⟨#[]⟩,.int .i64 0] rfl rfl 58 _ (hx.drewN _) info_tok5 rfl (tok_one _ _ _ _ _) ?_;intro w6 hx6 hu6 hz6)
   refine bodyPost_ret (results_box_tmp rfl _ _ w.heap.size 58 _ _ rfl hx6 Tryz.underlying58 rfl info_tok5) rfl ?_
   rw[←HR.out,HFn.out]
   exact⟨rfl,(hu.drewN _).far hu6 (Nat.le_refl _)⟩
end Go.Proofs.YtflmjbmdmoifhaaGreatDoor.Jl
namespace Go.Proofs.YtflmjbmdmoifhaaGreatDoor.Jl
open Go.Lib (hid)
open Go.RowKit
def tokC (t:Lexy.Tk) (lo hi:Nat):Array Value:= #[.int .i64 (t.kind:Int),.int .i64 (lo:Int),.int .i64 (hi:Int),.string (bytes t.text),.int .i64 (t.num:Int)]
theorem tokC_one (t:Lexy.Tk) (lo hi:Nat):(tokC t lo hi).all (·.oneCell')=true:=tok_one _ _ _ _ _
theorem letter_is (c:UInt8) (p:Bool) (h:Lexy.isLetter c=p) (w:World):Calls Tryz.prog 46 #[.int .u8 (c.toNat:Int)] w fun e w'=>e= .returned (.bool p)∧w=w':=by
 rw[←h];exact letter_any c w
theorem digit_is (c:UInt8) (p:Bool) (h:Lexy.isDigit c=p) (w:World):Calls Tryz.prog 48 #[.int .u8 (c.toNat:Int)] w fun e w'=>e= .returned (.bool p)∧w=w':=by
 rw[←h];exact digit_any c w
set_option maxRecDepth 100000 in
set_option maxHeartbeats 1000000 in
theorem next_number (b:Nat) (s:ByteArray) (k:Nat) (o:Value) (w:World) (h:Rd w b s k o) (hk:k≤s.size) (hm:s.size≤1000000) (c:UInt8) (hc:((s.data.toList.drop k)[0]?).getD 0=c) (hl:Lexy.isLetter c=false) (hd:Lexy.isDigit c=true)
  (r:Lexy.Res (Lexy.Tk×Nat)) (H:∀w1,Below w.heap.size w w1→Rd w1 b s k o→Calls Tryz.prog 49 #[.pointer (some ⟨b,0,none⟩)] w1 fun e w'=>Out w1 b s k o r e w'):
  Calls Tryz.prog 29 #[.pointer (some ⟨b,0,none⟩)] w fun e w'=>Out w b s k o r e w':=by
 have P0:Hid (∀w,Rd w b s k o→Calls Tryz.prog 44 #[.pointer (some ⟨b,0,none⟩),.int .i64 0] w fun e w'=>e= .returned (.int .u8 (c.toNat:Int))∧∃n,w'=w.drewN n):=by
  intro w h
  have:=peek_any b s k 0 o w h hk hm (by omega)
  rw[hc] at this
  exact this
 have HH:=hid H
 have hlt:=Box.lt h
 clear H hc
 have HLt:=hid (fun w=>letter_is c false hl w)
 clear hl
 have HDg:=hid (fun w=>digit_is c true hd w)
 clear hd
 cases r with
 | err n=>
  go_enter Tryz.func29,Tryz.ntmps29
  go_wp2_with fail
  refine (P0.out _ (h.alloc _)).mono ?_
  rintro e w1 ⟨rfl,m1,rfl⟩
  go_wp2_with fail
  refine (HLt.out _).mono ?_
  rintro e w1 ⟨rfl,rfl⟩
  go_wp2_with fail
  refine (HDg.out _).mono ?_
  rintro e w1 ⟨rfl,rfl⟩
  go_wp2_with fail
  refine (HH.out _ (below_drewN ((Below.refl _ w).alloc (Nat.le_refl _) _) _) ((h.alloc _).drewN _)).mono ?_
  rintro e w2 ⟨rfl,hu2⟩
  have htk:Box w2 w.heap.size 58 #[.int .i64 0,.int .i64 0,.int .i64 0,.string ⟨#[]⟩,.int .i64 0]:=Box.grown ((Box.new w _ _).drewN _) hu2 (by simp;omega)
  have hup:Upd w w2 b:=(((Upd.refl w b).alloc _).drewN _).trans hu2
  go_wp2_with (refine wpList_store_box rfl 58 (.tmp 2) (.tmp 17) rfl w.heap.size (tokC ⟨0,[],0⟩ 0 0) rfl rfl 58 _ htk info_tok5 rfl (tokC_one _ _ _) ?_;intro w6 hx6 hu6 hz6)
  refine bodyPost_ret (results_box_tmp rfl _ _ w.heap.size 58 _ _ rfl hx6 Tryz.underlying58 rfl info_tok5) rfl ?_
  exact⟨rfl,hup.far hu6 (Nat.le_refl _)⟩
 | ok tn=>
  obtain⟨t,n⟩:=tn
  go_enter Tryz.func29,Tryz.ntmps29
  go_wp2_with fail
  refine (P0.out _ (h.alloc _)).mono ?_
  rintro e w1 ⟨rfl,m1,rfl⟩
  go_wp2_with fail
  refine (HLt.out _).mono ?_
  rintro e w1 ⟨rfl,rfl⟩
  go_wp2_with fail
  refine (HDg.out _).mono ?_
  rintro e w1 ⟨rfl,rfl⟩
  go_wp2_with fail
  refine (HH.out _ (below_drewN ((Below.refl _ w).alloc (Nat.le_refl _) _) _) ((h.alloc _).drewN _)).mono ?_
  rintro e w2 ⟨rfl,hr2,hu2⟩
  have htk:Box w2 w.heap.size 58 #[.int .i64 0,.int .i64 0,.int .i64 0,.string ⟨#[]⟩,.int .i64 0]:=Box.grown ((Box.new w _ _).drewN _) hu2 (by simp;omega)
  have hup:Upd w w2 b:=(((Upd.refl w b).alloc _).drewN _).trans hu2
  go_wp2_with (refine wpList_store_box rfl 58 (.tmp 2) (.tmp 17) rfl w.heap.size (tokC t 0 0) rfl rfl 58 _ htk info_tok5 rfl (tokC_one _ _ _) ?_;intro w6 hx6 hu6 hz6)
  refine bodyPost_ret (results_box_tmp rfl _ _ w.heap.size 58 _ _ rfl hx6 Tryz.underlying58 rfl info_tok5) rfl ?_
  exact⟨rfl,Box.grown hr2 hu6 (by simp;omega),hup.far hu6 (Nat.le_refl _)⟩
set_option maxRecDepth 100000 in
set_option maxHeartbeats 1000000 in
theorem next_text (b:Nat) (s:ByteArray) (k:Nat) (o:Value) (w:World) (h:Rd w b s k o) (hk:k≤s.size) (hm:s.size≤1000000) (c:UInt8) (hc:((s.data.toList.drop k)[0]?).getD 0=c) (hl:Lexy.isLetter c=false) (hd:Lexy.isDigit c=false) (hq:((c.toNat:Int)==34)=true)
  (r:Lexy.Res (Lexy.Tk×Nat)) (H:∀w1,Below w.heap.size w w1→Rd w1 b s k o→Calls Tryz.prog 50 #[.pointer (some ⟨b,0,none⟩)] w1 fun e w'=>Out w1 b s k o r e w'):
  Calls Tryz.prog 29 #[.pointer (some ⟨b,0,none⟩)] w fun e w'=>Out w b s k o r e w':=by
 have P0:Hid (∀w,Rd w b s k o→Calls Tryz.prog 44 #[.pointer (some ⟨b,0,none⟩),.int .i64 0] w fun e w'=>e= .returned (.int .u8 (c.toNat:Int))∧∃n,w'=w.drewN n):=by
  intro w h
  have:=peek_any b s k 0 o w h hk hm (by omega)
  rw[hc] at this
  exact this
 have HH:=hid H
 have hlt:=Box.lt h
 clear H hc
 have HLt:=hid (fun w=>letter_is c false hl w)
 clear hl
 have HDg:=hid (fun w=>digit_is c false hd w)
 clear hd
 cases r with
 | err n=>
  go_enter Tryz.func29,Tryz.ntmps29
  go_wp2_with fail
  refine (P0.out _ (h.alloc _)).mono ?_
  rintro e w1 ⟨rfl,m1,rfl⟩
  go_wp2_with fail
  refine (HLt.out _).mono ?_
  rintro e w1 ⟨rfl,rfl⟩
  go_wp2_with fail
  refine (HDg.out _).mono ?_
  rintro e w1 ⟨rfl,rfl⟩
  go_wp2_with fail
  refine (HH.out _ (below_drewN ((Below.refl _ w).alloc (Nat.le_refl _) _) _) ((h.alloc _).drewN _)).mono ?_
  rintro e w2 ⟨rfl,hu2⟩
  have htk:Box w2 w.heap.size 58 #[.int .i64 0,.int .i64 0,.int .i64 0,.string ⟨#[]⟩,.int .i64 0]:=Box.grown ((Box.new w _ _).drewN _) hu2 (by simp;omega)
  have hup:Upd w w2 b:=(((Upd.refl w b).alloc _).drewN _).trans hu2
  go_wp2_with (refine wpList_store_box rfl 58 (.tmp 2) (.tmp 24) rfl w.heap.size (tokC ⟨0,[],0⟩ 0 0) rfl rfl 58 _ htk info_tok5 rfl (tokC_one _ _ _) ?_;intro w6 hx6 hu6 hz6)
  refine bodyPost_ret (results_box_tmp rfl _ _ w.heap.size 58 _ _ rfl hx6 Tryz.underlying58 rfl info_tok5) rfl ?_
  exact⟨rfl,hup.far hu6 (Nat.le_refl _)⟩
 | ok tn=>
  obtain⟨t,n⟩:=tn
  go_enter Tryz.func29,Tryz.ntmps29
  go_wp2_with fail
  refine (P0.out _ (h.alloc _)).mono ?_
  rintro e w1 ⟨rfl,m1,rfl⟩
  go_wp2_with fail
  refine (HLt.out _).mono ?_
  rintro e w1 ⟨rfl,rfl⟩
  go_wp2_with fail
  refine (HDg.out _).mono ?_
  rintro e w1 ⟨rfl,rfl⟩
  go_wp2_with fail
  refine (HH.out _ (below_drewN ((Below.refl _ w).alloc (Nat.le_refl _) _) _) ((h.alloc _).drewN _)).mono ?_
  rintro e w2 ⟨rfl,hr2,hu2⟩
  have htk:Box w2 w.heap.size 58 #[.int .i64 0,.int .i64 0,.int .i64 0,.string ⟨#[]⟩,.int .i64 0]:=Box.grown ((Box.new w _ _).drewN _) hu2 (by simp;omega)
  have hup:Upd w w2 b:=(((Upd.refl w b).alloc _).drewN _).trans hu2
  go_wp2_with (refine wpList_store_box rfl 58 (.tmp 2) (.tmp 24) rfl w.heap.size (tokC t 0 0) rfl rfl 58 _ htk info_tok5 rfl (tokC_one _ _ _) ?_;intro w6 hx6 hu6 hz6)
  refine bodyPost_ret (results_box_tmp rfl _ _ w.heap.size 58 _ _ rfl hx6 Tryz.underlying58 rfl info_tok5) rfl ?_
  exact⟨rfl,Box.grown hr2 hu6 (by simp;omega),hup.far hu6 (Nat.le_refl _)⟩
set_option maxRecDepth 100000 in
set_option maxHeartbeats 1000000 in
theorem next_sign (b:Nat) (s:ByteArray) (k:Nat) (o:Value) (w:World) (h:Rd w b s k o) (hk:k≤s.size) (hm:s.size≤1000000) (c:UInt8) (hc:((s.data.toList.drop k)[0]?).getD 0=c) (hl:Lexy.isLetter c=false) (hd:Lexy.isDigit c=false) (hq:((c.toNat:Int)==34)=false)
  (r:Lexy.Res (Lexy.Tk×Nat)) (H:∀w1,Below w.heap.size w w1→Rd w1 b s k o→Calls Tryz.prog 51 #[.pointer (some ⟨b,0,none⟩)] w1 fun e w'=>Out w1 b s k o r e w'):
  Calls Tryz.prog 29 #[.pointer (some ⟨b,0,none⟩)] w fun e w'=>Out w b s k o r e w':=by
 have P0:Hid (∀w,Rd w b s k o→Calls Tryz.prog 44 #[.pointer (some ⟨b,0,none⟩),.int .i64 0] w fun e w'=>e= .returned (.int .u8 (c.toNat:Int))∧∃n,w'=w.drewN n):=by
  intro w h
  have:=peek_any b s k 0 o w h hk hm (by omega)
  rw[hc] at this
  exact this
 have HH:=hid H
 have hlt:=Box.lt h
 clear H hc
 have HLt:=hid (fun w=>letter_is c false hl w)
 clear hl
 have HDg:=hid (fun w=>digit_is c false hd w)
 clear hd
 cases r with
 | err n=>
  go_enter Tryz.func29,Tryz.ntmps29
  go_wp2_with fail
  refine (P0.out _ (h.alloc _)).mono ?_
  rintro e w1 ⟨rfl,m1,rfl⟩
  go_wp2_with fail
  refine (HLt.out _).mono ?_
  rintro e w1 ⟨rfl,rfl⟩
  go_wp2_with fail
  refine (HDg.out _).mono ?_
  rintro e w1 ⟨rfl,rfl⟩
  go_wp2_with fail
  refine (HH.out _ (below_drewN ((Below.refl _ w).alloc (Nat.le_refl _) _) _) ((h.alloc _).drewN _)).mono ?_
  rintro e w2 ⟨rfl,hu2⟩
  have htk:Box w2 w.heap.size 58 #[.int .i64 0,.int .i64 0,.int .i64 0,.string ⟨#[]⟩,.int .i64 0]:=Box.grown ((Box.new w _ _).drewN _) hu2 (by simp;omega)
  have hup:Upd w w2 b:=(((Upd.refl w b).alloc _).drewN _).trans hu2
  go_wp2_with (refine wpList_store_box rfl 58 (.tmp 2) (.tmp 28) rfl w.heap.size (tokC ⟨0,[],0⟩ 0 0) rfl rfl 58 _ htk info_tok5 rfl (tokC_one _ _ _) ?_;intro w6 hx6 hu6 hz6)
  refine bodyPost_ret (results_box_tmp rfl _ _ w.heap.size 58 _ _ rfl hx6 Tryz.underlying58 rfl info_tok5) rfl ?_
  exact⟨rfl,hup.far hu6 (Nat.le_refl _)⟩
 | ok tn=>
  obtain⟨t,n⟩:=tn
  go_enter Tryz.func29,Tryz.ntmps29
  go_wp2_with fail
  refine (P0.out _ (h.alloc _)).mono ?_
  rintro e w1 ⟨rfl,m1,rfl⟩
  go_wp2_with fail
  refine (HLt.out _).mono ?_
  rintro e w1 ⟨rfl,rfl⟩
  go_wp2_with fail
  refine (HDg.out _).mono ?_
  rintro e w1 ⟨rfl,rfl⟩
  go_wp2_with fail
  refine (HH.out _ (below_drewN ((Below.refl _ w).alloc (Nat.le_refl _) _) _) ((h.alloc _).drewN _)).mono ?_
  rintro e w2 ⟨rfl,hr2,hu2⟩
  have htk:Box w2 w.heap.size 58 #[.int .i64 0,.int .i64 0,.int .i64 0,.string ⟨#[]⟩,.int .i64 0]:=Box.grown ((Box.new w _ _).drewN _) hu2 (by simp;omega)
  have hup:Upd w w2 b:=(((Upd.refl w b).alloc _).drewN _).trans hu2
  go_wp2_with (refine wpList_store_box rfl 58 (.tmp 2) (.tmp 28) rfl w.heap.size (tokC t 0 0) rfl rfl 58 _ htk info_tok5 rfl (tokC_one _ _ _) ?_;intro w6 hx6 hu6 hz6)
  refine bodyPost_ret (results_box_tmp rfl _ _ w.heap.size 58 _ _ rfl hx6 Tryz.underlying58 rfl info_tok5) rfl ?_
  exact⟨rfl,Box.grown hr2 hu6 (by simp;omega),hup.far hu6 (Nat.le_refl _)⟩
set_option maxRecDepth 100000 in
set_option maxHeartbeats 1000000 in
theorem next_name (b:Nat) (s:ByteArray) (k:Nat) (o:Value) (w:World) (h:Rd w b s k o) (he:Env w) (hb:4≤b) (hk:k≤s.size) (hm:s.size≤1000000) (c:UInt8) (hc:((s.data.toList.drop k)[0]?).getD 0=c) (hl:Lexy.isLetter c=true):
  Calls Tryz.prog 29 #[.pointer (some ⟨b,0,none⟩)] w fun e w'=>Out w b s k o (.ok (⟨if (s.data.toList.drop k).take (Lexy.nameLen (s.data.toList.drop k))∈Lexy.kws then 5 else 1,(s.data.toList.drop k).take (Lexy.nameLen (s.data.toList.drop k)),0⟩,Lexy.nameLen (s.data.toList.drop k))) e w':=by
 have P0:Hid (∀w,Rd w b s k o→Calls Tryz.prog 44 #[.pointer (some ⟨b,0,none⟩),.int .i64 0] w fun e w'=>e= .returned (.int .u8 (c.toNat:Int))∧∃n,w'=w.drewN n):=by
  intro w h
  have:=peek_any b s k 0 o w h hk hm (by omega)
  rw[hc] at this
  exact this
 have HN:=hid (fun w (h:Rd w b s k o) (he:Env w)=>name_any b s k o w h he hb hk hm)
 obtain⟨t,ht⟩:∃t:Lexy.Tk,(⟨if (s.data.toList.drop k).take (Lexy.nameLen (s.data.toList.drop k))∈Lexy.kws then 5 else 1,(s.data.toList.drop k).take (Lexy.nameLen (s.data.toList.drop k)),0⟩:Lexy.Tk)=t:=⟨_,rfl⟩
 rw[ht] at HN ⊢
 obtain⟨n,hn⟩:∃n,Lexy.nameLen (s.data.toList.drop k)=n:=⟨_,rfl⟩
 rw[hn] at HN ⊢
 have hlt:=Box.lt h
 have HLt:=hid (fun w=>letter_is c true hl w)
 clear hl hc ht hn
 go_enter Tryz.func29,Tryz.ntmps29
 go_wp2_with fail
 refine (P0.out _ (h.alloc _)).mono ?_
 rintro e w1 ⟨rfl,m1,rfl⟩
 go_wp2_with fail
 refine (HLt.out _).mono ?_
 rintro e w1 ⟨rfl,rfl⟩
 go_wp2_with fail
 refine (HN.out _ ((h.alloc _).drewN _) ((he.alloc (by omega) _).drewN _)).mono ?_
 rintro e w2 ⟨rfl,hr2,hu2⟩
 have htk:Box w2 w.heap.size 58 #[.int .i64 0,.int .i64 0,.int .i64 0,.string ⟨#[]⟩,.int .i64 0]:=Box.grown ((Box.new w _ _).drewN _) hu2 (by simp;omega)
 have hup:Upd w w2 b:=(((Upd.refl w b).alloc _).drewN _).trans hu2
 go_wp2_with (refine wpList_store_box rfl 58 (.tmp 2) (.tmp 11) rfl w.heap.size (tokC t 0 0) rfl rfl 58 _ htk info_tok5 rfl (tokC_one _ _ _) ?_;intro w6 hx6 hu6 hz6)
 refine bodyPost_ret (results_box_tmp rfl _ _ w.heap.size 58 _ _ rfl hx6 Tryz.underlying58 rfl info_tok5) rfl ?_
 exact⟨rfl,Box.grown hr2 hu6 (by simp;omega),hup.far hu6 (Nat.le_refl _)⟩
theorem next_any (b:Nat) (s:ByteArray) (k:Nat) (o:Value) (w:World) (h:Rd w b s k o) (he:Env w) (hb:4≤b) (hm:s.size≤1000000) (hk:k<s.size):
  Calls Tryz.prog 29 #[.pointer (some ⟨b,0,none⟩)] w fun e w'=>Out w b s k o (Lexy.next (s.data.toList.drop k)) e w':=by
 have hx:k<s.data.toList.length:=by simpa using hk
 have hd:s.data.toList.drop k=s.data.toList[k] :: s.data.toList.drop (k+1):=List.drop_eq_getElem_cons hx
 obtain⟨c,hc⟩:∃c,s.data.toList[k]=c:=⟨_,rfl⟩
 rw[hc] at hd
 have hc0:((s.data.toList.drop k)[0]?).getD 0=c:=by rw[hd];rfl
 cases hl:Lexy.isLetter c with
 | true=>
  have:=next_name b s k o w h he hb (by omega) hm c hc0 hl
  have e:Lexy.next (s.data.toList.drop k)= .ok (⟨if (s.data.toList.drop k).take (Lexy.nameLen (s.data.toList.drop k))∈Lexy.kws then 5 else 1,(s.data.toList.drop k).take (Lexy.nameLen (s.data.toList.drop k)),0⟩,Lexy.nameLen (s.data.toList.drop k)):=by
   rw[hd];simp only[Lexy.next,hl,if_true]
  rw[e]
  exact this
 | false=>
  cases hdg:Lexy.isDigit c with
  | true=>
   refine next_number b s k o w h (by omega) hm c hc0 hl hdg _ (fun w1 _ hr=> ?_)
   have:=number_any b s k o w1 hr (by omega) hm
   have e:Lexy.next (s.data.toList.drop k)=(match Lexy.numF 0 ((s.data.toList.drop k).take (Lexy.digLen (s.data.toList.drop k))) with
    | none=> .err 2
    | some n=>if (((s.data.toList.drop k).drop (Lexy.digLen (s.data.toList.drop k))).head?.map Lexy.isLetter).getD false then .err 4 else .ok (⟨2,[],n⟩,Lexy.digLen (s.data.toList.drop k))):=by
    rw[hd];simp only[Lexy.next,hl,hdg,if_true];rfl
   rw[e]
   exact this
  | false=>
   by_cases hq:c=34
   ·refine next_text b s k o w h (by omega) hm c hc0 hl hdg (by subst hq;decide) _ (fun w1 _ hr=> ?_)
    have:=text_any b s k o w1 hr hk hm
    have e:Lexy.next (s.data.toList.drop k)=(match Lexy.txt (s.data.toList.drop (k+1)) with
     | none=> .err 4
     | some (t,m)=> .ok (⟨3,t,0⟩,1+m)):=by
     rw[hd];simp only[Lexy.next,hq];rfl
    rw[e]
    exact this
   ·refine next_sign b s k o w h (by omega) hm c hc0 hl hdg (byte_ne (d:=34) hq) _ (fun w1 hbl hr=> ?_)
    have:=sign_any b s k o w1 hr (he.below hbl (by have:=Box.lt h;omega)) hb hm hk
    have e:Lexy.next (s.data.toList.drop k)=Lexy.sign (s.data.toList.drop k):=by
     rw[hd];simp only[Lexy.next,hl,hdg];simp[hq]
    rw[e]
    exact this
end Go.Proofs.YtflmjbmdmoifhaaGreatDoor.Jl
namespace Go.Proofs.YtflmjbmdmoifhaaGreatDoor.Jl
open Go.Lib (hid)
open Go.RowKit
def tokCells (ts:List Lexy.Tok):List Value:=ts.flatMap fun t=>(tokC t.toTk t.lo t.hi).toList
theorem tokCells_len (ts:List Lexy.Tok):(tokCells ts).length=ts.length * 5:=by
 induction ts with
 | nil=>rfl
 | cons t ts ih=>simp only[tokCells,List.flatMap_cons,List.length_append,List.length_cons] at ih ⊢;rw[ih];simp[tokC];omega
def TokOut (w:World) (r:Lexy.Res (List Lexy.Tok)) (e:Ending) (w':World):Prop:=
 match r with
 | .err n=>e= .returned (.tuple #[.slice none 0 0,.int .i64 (n:Int)])∧Below w.heap.size w w'
 | .ok ts=>∃(A:Option Addr) (cap:Nat),e= .returned (.tuple #[.slice A ts.length cap,.int .i64 0])∧w'.ownsRow w.heap.size 58 5 (.slice A ts.length cap) ts.length (tokCells ts)∧Below w.heap.size w w'
theorem own_below {w w':World} {base:Nat} {e:TypeId} {size:Nat} {v:Value} {n:Nat} {xs:List Value} (h:w.ownsRow base e size v n xs) (hb:Below w.heap.size w w'):w'.ownsRow base e size v n xs:=
 h.kept (row:=none) ⟨hb.os,hb.tape,hb.output,hb.size,fun k hk _=>hb.block k hk⟩ (by
  cases hv:v.ownBlock with
  | none=>exact .inl rfl
  | some g=>exact .inr (by simp))
theorem tokL_one (t:Lexy.Tk) (lo hi:Nat):∀u∈(tokC t lo hi).toList,u.oneCell'=true:=by
 intro u hu
 simp[tokC] at hu
 rcases hu with rfl | rfl | rfl | rfl | rfl<;>rfl
theorem own_base {w:World} {base B:Nat} {e:TypeId} {size:Nat} {v:Value} {n:Nat} {xs:List Value} (h:w.ownsRow base e size v n xs) (hB:B≤base):w.ownsRow B e size v n xs:=by
 refine⟨h.1,?_⟩
 rcases h.2 with h0 | ⟨g,cap,cur,hv,hb,rest⟩
 ·exact .inl h0
 ·exact .inr ⟨g,cap,cur,hv,by omega,rest⟩
theorem next_err {l:Lexy.Bs} {n:Nat} (h:Lexy.next l= .err n):n=2∨n=4:=by
 cases l with
 | nil=>simp[Lexy.next] at h;exact .inr h.symm
 | cons c r=>
  simp only[Lexy.next] at h
  split at h
  ·cases h
  ·split at h
   ·split at h
    ·simp at h;omega
    ·split at h
     ·simp at h;omega
     ·cases h
   ·split at h
    ·split at h
     ·simp at h;omega
     ·cases h
    ·unfold Lexy.sign at h
     split at h
     ·cases h
     ·split at h
      ·cases h
      ·simp at h;omega
theorem toksR_skip (rem p:Nat) (l:Lexy.Bs):Lexy.toksR rem (p+Lexy.skp false l) (l.drop (Lexy.skp false l))=Lexy.toksR rem p l:=by
 rw[Lexy.toksR_eq,Lexy.toksR_eq rem p l,Lexy.skp_idem]
 simp only[List.drop_zero,Nat.add_zero]
def join (acc:List Lexy.Tok):Lexy.Res (List Lexy.Tok)→Lexy.Res (List Lexy.Tok)
 | .err e=> .err e
 | .ok ts=> .ok (acc++ts)
theorem join_join (acc:List Lexy.Tok) (x:Lexy.Tok) (r:Lexy.Res (List Lexy.Tok)):join acc (join [x] r)=join (acc++[x]) r:=by
 cases r<;>simp[join]
theorem step_ok (rem k:Nat) (l:Lexy.Bs) (t:Lexy.Tk) (n:Nat) (hz:Lexy.skp false l=0) (hne:l≠[]) (hn:Lexy.next l= .ok (t,n)):
  Lexy.toksR (rem+1) k l=join [⟨t,k,k+n⟩] (Lexy.toksR rem (k+n+Lexy.skp false (l.drop n)) ((l.drop n).drop (Lexy.skp false (l.drop n)))):=by
 rw[toksR_skip,Lexy.toksR_eq,hz]
 cases l with
 | nil=>exact absurd rfl hne
 | cons c r=>
  simp only[List.drop_zero,hn,Nat.add_zero]
  cases Lexy.toksR rem (k+n) ((c :: r).drop n)<;>rfl
theorem step_full (k:Nat) (l:Lexy.Bs) (t:Lexy.Tk) (n:Nat) (hz:Lexy.skp false l=0) (hne:l≠[]) (hn:Lexy.next l= .ok (t,n)):Lexy.toksR 0 k l= .err 2:=by
 rw[Lexy.toksR_eq,hz]
 cases l with
 | nil=>exact absurd rfl hne
 | cons c r=>simp only[List.drop_zero,hn]
theorem step_err (rem k:Nat) (l:Lexy.Bs) (n:Nat) (hz:Lexy.skp false l=0) (hne:l≠[]) (hn:Lexy.next l= .err n):Lexy.toksR rem k l= .err n:=by
 rw[Lexy.toksR_eq,hz]
 cases l with
 | nil=>exact absurd rfl hne
 | cons c r=>simp only[List.drop_zero,hn]
theorem step_done (rem k:Nat):Lexy.toksR rem k []= .ok []:=by
 rw[Lexy.toksR_eq];simp
theorem Rd.tell {w:World} {b k:Nat} {s:ByteArray} {o:Value} (h:Rd w b s k o) (v:Value):Rd (w.setCell ⟨b,2,none⟩ v) b s k v:=by
 have:=Box.set h 2 v;simpa [Rd] using this
theorem tokCells_snoc (acc:List Lexy.Tok) (x:Lexy.Tok):tokCells (acc++[x])=tokCells acc++(tokC x.toTk x.lo x.hi).toList:=by simp[tokCells]
theorem info_tokz:(Tryz.prog.info? 58).map (fun i=>(i.zero,i.size,i.bytes))=some (some (.agg #[.int .i64 0,.int .i64 0,.int .i64 0,.string ⟨#[]⟩,.int .i64 0]),5,48):=by kernel_rfl
set_option maxRecDepth 100000 in
set_option maxHeartbeats 1000000 in
theorem tokens_small (s:ByteArray) (w:World) (he:Env w) (h4:4≤w.heap.size) (hm:s.size≤2000):
  Calls Tryz.prog 18 #[.string s] w fun e w'=>TokOut w (Lexy.toksR 1000 0 s.data.toList) e w':=by
 obtain⟨l,hl⟩:∃l,s.data.toList=l:=⟨_,rfl⟩
 have hsz:l.length=s.size:=by rw[←hl];simp
 have HSK:=hid (fun (k:Nat) (o:Value) (w1:World) (h:Rd w1 w.heap.size s k o) (hk:k≤s.size)=>skip_any w.heap.size s k o w1 h hk (by omega))
 have HNX:=hid (fun (k:Nat) (o:Value) (w1:World) (h:Rd w1 w.heap.size s k o) (he:Env w1) (hk:k<s.size)=>next_any w.heap.size s k o w1 h he h4 (by omega) hk)
 rw[hl] at HSK HNX ⊢
 obtain⟨R,hR⟩:∃R,Lexy.toksR 1000 0 l=R:=⟨_,rfl⟩
 rw[hR]
 have HL:=hid hl
 have HS:=hid hsz
 have HR:Hid (join [] (Lexy.toksR 1000 (0+Lexy.skp false l) (l.drop (Lexy.skp false l)))=R):=by
  rw[toksR_skip,hR];cases R<;>exact hid rfl
 have hk0:Lexy.skp false l≤s.size:=by have:=Lexy.skp_le false l;omega
 clear hl hsz hR
 have ht0:decide ((2000:Int)<(s.size:Int))=false:=by simp;omega
 obtain⟨i0,hi0,hz0,hz1,hz2⟩:=info_parts info_tokz
 go_enter Tryz.func18,Tryz.ntmps18
 go_wp2_with fail
 refine (HSK.out 0 (.slice none 0 0) _ (Box.new w _ _) (by omega)).mono ?_
 rintro e w1 ⟨rfl,hr1,hu1⟩
 go_wp2_with fail
 go_loopg [] (s.size - Lexy.skp false l) (fun g wr=>∃(k:Nat) (acc:List Lexy.Tok) (A:Option Addr) (cap:Nat),k≤s.size∧g=s.size - k∧acc.length≤1000∧Rd wr w.heap.size s k (.slice A acc.length cap)∧Below w.heap.size w wr∧
  wr.ownsRow (w.heap.size+1) 58 5 (.slice A acc.length cap) acc.length (tokCells acc)∧Hid (join acc (Lexy.toksR (1000 - acc.length) k (l.drop k))=R)∧Hid (Lexy.skp false (l.drop k)=0))
 case atStart=>
  refine⟨Lexy.skp false l,[],none,0,hk0,rfl,by simp,by simpa using hr1,?_,World.ownsRow_nil _ _ _ _,by simpa using HR,Lexy.skp_idem false l⟩
  exact ((Below.refl _ w).alloc (Nat.le_refl _) _).trans (hu1.own (Nat.le_refl _) (by simp))
 case round=>
  obtain⟨k,acc,A,cap,hk,hg,hacc,hr,hbl,hown,H,HK⟩:=hrel
  have HG:=hid hg;clear hg
  have hwz:=Box.lt hr
  have hp0:=hr.place
  by_cases hlt:k<s.size
  ·have hl1:decide ((k:Int)<s.size)=true:=by simp;omega
   have hdz:l.drop k≠[]:=by intro e;have:=congrArg List.length e;rw[List.length_drop,HS.out] at this;simp at this;omega
   have hcall:=HNX.out k (.slice A acc.length cap) wr hr (he.below hbl h4) hlt
   cases hr':Lexy.next (l.drop k) with
   | err n=>
    rw[hr'] at hcall
    have hn0:((n:Int)==0)=false:=by rcases next_err hr' with rfl | rfl<;>rfl
    have HC:=hid hcall
    have HRn:Hid (R= .err n):=by
     rw[←H.out,step_err _ _ _ n HK.out hdz hr'];exact hid rfl
    clear hcall hr'
    go_wp2_with fail
    refine (HC.out).mono ?_
    rintro e w2 ⟨rfl,hu2⟩
    go_wp2_with (refine wpList_store_box rfl 58 (.tmp 6) (.tmp 32) rfl w2.heap.size (tokC ⟨0,[],0⟩ 0 0) rfl rfl 58 _ (Box.new w2 _ _) info_tok5 rfl (tokC_one _ _ _) ?_;intro w4 hx4 hu4 hz4)
    go_ret2
    rw[HRn.out]
    refine⟨rfl,?_⟩
    exact ((hbl.trans (hu2.own (Nat.le_refl _) (by omega))).alloc (by have:=hu2.size;omega) _).trans (hu4.own (by have:=hu2.size;omega) (by have:=hu2.size;simp;omega))
   | ok tn=>
    obtain⟨t,n⟩:=tn
    rw[hr'] at hcall
    have HC:=hid hcall
    clear hcall
    by_cases hfull:acc.length=1000
    ·have hnf:((acc.length:Int)==1000)=true:=by simp;omega
     have HRn:Hid (R= .err 2):=by
      rw[←H.out,show 1000 - acc.length=0 by omega,step_full _ _ t n HK.out hdz hr'];exact hid rfl
     clear hr' hfull
     go_wp2_with fail
     refine (HC.out).mono ?_
     rintro e w2 ⟨rfl,hr2,hu2⟩
     have htd2:=hr2.told
     have hlt2:=Box.lt hr2
     go_wp2_with (refine wpList_store_box rfl 58 (.tmp 6) (.tmp 32) rfl w2.heap.size (tokC t 0 0) rfl rfl 58 _ (Box.new w2 _ _) info_tok5 rfl (tokC_one _ _ _) ?_;intro w4 hx4 hu4 hz4;have hr4:Rd w4 w.heap.size s (k+n) (.slice A acc.length cap):=Box.grown (Box.alloc hr2 _) hu4 (by simp;omega);have htd4:=hr4.told)
     go_ret2
     rw[HRn.out]
     refine⟨rfl,?_⟩
     exact ((hbl.trans (hu2.own (Nat.le_refl _) (by omega))).alloc (by have:=hu2.size;omega) _).trans (hu4.own (by have:=hu2.size;omega) (by have:=hu2.size;simp;omega))
    ·have hnf:((acc.length:Int)==1000)=false:=by simp;omega
     have hsplit:=Lexy.next_split hr'
     have hnl:=Lexy.next_len hr'
     have hn1:0<n:=hsplit.2.2.1
     rw[List.length_drop,HS.out] at hnl
     have hsk:=Lexy.skp_le false (l.drop (k+n))
     rw[List.length_drop,HS.out] at hsk
     obtain⟨k2,hk2⟩:∃k2,k+n+Lexy.skp false (l.drop (k+n))=k2:=⟨_,rfl⟩
     have HN:Hid (join (acc++[⟨t,k,k+n⟩]) (Lexy.toksR (1000 - (acc.length+1)) k2 (l.drop k2))=R):=by
      rw[←H.out,show 1000 - acc.length=(1000 - (acc.length+1))+1 by omega,step_ok _ _ _ t n HK.out hdz hr',join_join,List.drop_drop,List.drop_drop,hk2];exact hid rfl
     have HZ:Hid (Lexy.skp false (l.drop k2)=0):=by
      have:=Lexy.skp_idem false (l.drop (k+n));rw[List.drop_drop,hk2] at this;exact this
     have HSK2:=HSK.out (k+n) 
     rw[hk2] at HSK2
     have HK2:=hid HSK2
     have hk2b:k2≤s.size:=by omega
     have hk2a:k<k2:=by omega
     clear hsplit hk2 hsk HSK2
     clear hr'
     go_wp2_with fail
     refine (HC.out).mono ?_
     rintro e w2 ⟨rfl,hr2,hu2⟩
     have htd2:=hr2.told
     have hlt2:=Box.lt hr2
     go_wp2_with (refine wpList_store_box rfl 58 (.tmp 6) (.tmp 32) rfl w2.heap.size (tokC t 0 0) rfl rfl 58 _ (Box.new w2 _ _) info_tok5 rfl (tokC_one _ _ _) ?_;intro w4 hx4 hu4 hz4;have hr4:Rd w4 w.heap.size s (k+n) (.slice A acc.length cap):=Box.grown (Box.alloc hr2 _) hu4 (by simp;omega);have htd4:=hr4.told;have hpl4:=hr4.place;have hfr4:=hr4.free 2;have g1:=hx4.cell 1;have g2:=hx4.cell 2;have f1:=hx4.frozen 1;have f2:=hx4.frozen 2;simp[tokC] at g1 g2)
     go_region
     go_wp2
     have hx5:Box (((w4.setCell ⟨w2.heap.size,1,none⟩ (.int .i64 (k:Int))).setCell ⟨w2.heap.size,2,none⟩ (.int .i64 ((k:Int)+(n:Int)))).drew) w2.heap.size 58 (tokC t k (k+n)):=by
      have:=(Box.set (Box.set hx4 1 (.int .i64 (k:Int))) 2 (.int .i64 ((k:Int)+(n:Int))))
      have h2:Box ((w4.setCell ⟨w2.heap.size,1,none⟩ (.int .i64 (k:Int))).setCell ⟨w2.heap.size,2,none⟩ (.int .i64 ((k:Int)+(n:Int)))) w2.heap.size 58 (tokC t k (k+n)):=by simpa [tokC] using this
      exact h2
     have hr5:Rd (((w4.setCell ⟨w2.heap.size,1,none⟩ (.int .i64 (k:Int))).setCell ⟨w2.heap.size,2,none⟩ (.int .i64 ((k:Int)+(n:Int)))).drew) w.heap.size s (k+n) (.slice A acc.length cap):=
      (Box.far (Box.far hr4 (by simp;omega) _) (by simp;omega) _)
     have hu5:Upd (w2.alloc (.cells #[.int .i64 0,.int .i64 0,.int .i64 0,.string ⟨#[]⟩,.int .i64 0] 58)) (((w4.setCell ⟨w2.heap.size,1,none⟩ (.int .i64 (k:Int))).setCell ⟨w2.heap.size,2,none⟩ (.int .i64 ((k:Int)+(n:Int)))).drew) w2.heap.size:=((hu4.set (.inl rfl) _).set (.inl rfl) _).drew
     obtain⟨w5,hw5⟩:∃w5,(((w4.setCell ⟨w2.heap.size,1,none⟩ (.int .i64 (k:Int))).setCell ⟨w2.heap.size,2,none⟩ (.int .i64 ((k:Int)+(n:Int)))).drew)=w5:=⟨_,rfl⟩
     rw[hw5] at hx5 hr5 hu5
     rw[hw5]
     clear hw5
     have hwz5:w2.heap.size<w5.heap.size:=hx5.lt
     have hown2:w2.ownsRow (w.heap.size+1) 58 5 (.slice A acc.length cap) acc.length (tokCells acc):=own_far hown hu2 (by omega)
     have hbl2:Below w.heap.size w w2:=hbl.trans (hu2.own (Nat.le_refl _) (by omega))
     have hwz2:wr.heap.size≤w2.heap.size:=hu2.size
     have hb5:Below w2.heap.size w2 w5:=((Below.refl _ w2).alloc (Nat.le_refl _) _).trans (hu5.own (Nat.le_refl _) (by simp))
     have hown5:w5.ownsRow (w.heap.size+1) 58 5 (.slice A acc.length cap) acc.length (tokCells acc):=own_below hown2 hb5
     have q0:=hx5.cell 0;have q1:=hx5.cell 1;have q2:=hx5.cell 2;have q3:=hx5.cell 3;have q4:=hx5.cell 4
     simp[tokC] at q0 q1 q2 q3 q4
     have htd5:=hr5.told;have hfr5:=hr5.free 2
     have hbw5:w.heap.size<w5.heap.size:=by omega
     have hcs:(tokCells acc).length=acc.length * 5:=tokCells_len acc
     have HCS:=hid hcs
     clear hcs g1 g2 f1 f2 htd4 hpl4 hfr4 hp0 htd2
     go_region_law (refine step_append_lies _ rfl (.tmp 58) (.tmp 60) 54 rfl (w.heap.size+1) 58 i0 _ 5 48 Tryz.underlying54 hi0 hz0 hz1 hz2 rfl (by decide) (.slice A acc.length cap) acc.length (tokCells acc) (by simp[Act.eval]) (by exact hown5.alloc _) ⟨w5.heap.size,0,none⟩ 1 1 (tokC t k (k+n)).toList (by simp[Act.eval]) rfl (by exact World.news_of_block (Box.new w5 _ (tokC t k (k+n)))) (tokL_one t k (k+n)) (by omega) (by unfold maxLen;omega) (by omega) (by simp;omega) (w5.heap.size+1) (by simp) ?_;intro g7 cap7 w7 hown7 hgrow7 hor7 hlt7;have hb7:Below (w.heap.size+1) w5 w7:=((Below.refl _ w5).alloc (by omega) _).drew.trans (below_grown hgrow7 (by simp;omega) (fun g hg=>(hown.lt g hg).1));have hr7:Rd w7 w.heap.size s (k+n) (.slice A acc.length cap):=Rd.below hr5 hb7 (by omega);have htd7:=hr7.told;have hfr7:=hr7.free 2)
     all_goals
      go_wp2_with fail
      refine (HK2.out _ _ (by exact (hr7.tell _)) (by omega)).mono ?_
      rintro e w8 ⟨rfl,hr8,hu8⟩
      go_wp2
      have hwz7:=Box.lt hr7
      have hb7s:Below w.heap.size w (w7.setCell ⟨w.heap.size,2,none⟩ (.slice (some ⟨g7,0,none⟩) (acc.length+1) cap7)):=((hbl2.trans (hb5.mono (by omega))).trans (hb7.mono (by omega))).setCell (by simp) _
      have hb8:Below w.heap.size w w8:=by
       refine Below.trans ?_ (hu8.own (Nat.le_refl _) (by simp;omega))
       first
       | exact hb7s
       | exact hb7s.drew
      have hown8:w8.ownsRow (w.heap.size+1) 58 5 (.slice (some ⟨g7,0,none⟩) (acc.length+1) cap7) (acc.length+1) (tokCells acc++(tokC t k (k+n)).toList):=
       own_far (by exact (ownsRow_setCell_below hown7 (a:=⟨w.heap.size,2,none⟩) (by simp) _)) hu8 (by omega)
      have hr9:Rd w8 w.heap.size s k2 (.slice (some ⟨g7,0,none⟩) (acc++[(⟨t,k,k+n⟩:Lexy.Tok)]).length cap7):=by simpa using hr8
      have hown9:w8.ownsRow (w.heap.size+1) 58 5 (.slice (some ⟨g7,0,none⟩) (acc++[(⟨t,k,k+n⟩:Lexy.Tok)]).length cap7) (acc++[(⟨t,k,k+n⟩:Lexy.Tok)]).length (tokCells (acc++[(⟨t,k,k+n⟩:Lexy.Tok)])):=by
       rw[tokCells_snoc];simpa using hown8
      have HN9:Hid (join (acc++[(⟨t,k,k+n⟩:Lexy.Tok)]) (Lexy.toksR (1000 - (acc++[(⟨t,k,k+n⟩:Lexy.Tok)]).length) k2 (l.drop k2))=R):=by
       rw[show (acc++[(⟨t,k,k+n⟩:Lexy.Tok)]).length=acc.length+1 by simp];exact HN
      go_roundg (s.size - k2)
      case measure=>rw[HG.out];omega
      case rel=>exact⟨k2,acc++[(⟨t,k,k+n⟩:Lexy.Tok)],some ⟨g7,0,none⟩,cap7,hk2b,rfl,by simp;omega,hr9,hb8,hown9,HN9,HZ⟩
  ·have hl1:decide ((k:Int)<s.size)=false:=by simp;omega
   have htd:=hr.told
   have HRn:Hid (R= .ok acc):=by
    rw[←H.out,List.drop_eq_nil_of_le (by rw[HS.out];omega),step_done];simp[join,Hid]
   go_wp2
   go_ret2
   rw[HRn.out]
   exact⟨A,cap,rfl,own_base hown (by omega),hbl⟩
end Go.Proofs.YtflmjbmdmoifhaaGreatDoor.Jl
namespace Go.Proofs.YtflmjbmdmoifhaaGreatDoor.Jl
open Go.Lib (hid)
open Go.RowKit
theorem tokens_any (s:ByteArray) (w:World) (he:Env w) (h4:4≤w.heap.size) (hm:s.size≤9223372036854775807):
  Calls Tryz.prog 18 #[.string s] w fun e w'=>TokOut w (Lexy.toks s.data.toList) e w':=by
 have hl:s.data.toList.length=s.size:=by simp
 unfold Lexy.toks
 rw[hl]
 by_cases hb:2000<s.size
 ·rw[if_pos hb]
  have ht0:decide ((2000:Int)<(s.size:Int))=true:=by simp;omega
  go_enter Tryz.func18,Tryz.ntmps18
  go_wp2
  go_ret2
  exact⟨rfl,Below.refl _ _⟩
 ·rw[if_neg hb]
  exact tokens_small s w he h4 (by omega)
end Go.Proofs.YtflmjbmdmoifhaaGreatDoor.Jl

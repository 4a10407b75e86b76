/-
  Entries in memory, and slices of them; clean and origin of a text. Conditions: as each says.
-/
import Derived.Test.YtdolmjeiakdfhaaGreatDoorUkS
import Derived.Test.YtdolmjeiakdfhaaGreatDoorUrM
import Derived.Test.YtdolmjeiakdfhaaGreatDoorTrl
import Derived.Test.YtdolmjeiakdfhaaGreatDoorGkM
import Derived.Test.YtdolmjeiakdfhaaGreatDoorCut
import Derived.BigQuiet
namespace Go.Proofs.YtdolmjeiakdfhaaGreatDoor
set_option linter.unusedSimpArgs false
set_option linter.unusedVariables false
open Go.RowKit

theorem beside_no0 {b : Urly.U} {r : List UInt8} {n : Nat} (h : Urly.beside b r = .error n) : n ≠ 0 := by
  unfold Urly.beside at h
  simp only at h
  split at h
  · split at h <;> cases h
  · injection h with h; omega
theorem resolve_no0 {base ref : List UInt8} {n : Nat} (h : Urly.resolve base ref = .error n) : n ≠ 0 := by
  have key : ∀ n, Urly.resolveU base ref = .error n → n ≠ 0 := by
    intro n h
    unfold Urly.resolveU at h
    cases hp : Urly.parse base with
    | error k => rw [hp] at h; injection h with h; subst h; exact parse_no0 hp
    | ok b =>
      rw [hp] at h
      simp only at h
      split at h
      · injection h with h; omega
      · split at h
        · exact parse_no0 h
        · split at h
          · exact parse_no0 h
          · exact beside_no0 h
  unfold Urly.resolve at h
  cases hu : Urly.resolveU base ref with
  | error k => rw [hu] at h; injection h with h; subst h; exact key _ hu
  | ok u =>
    rw [hu] at h
    simp only at h
    split at h
    · injection h with h; omega
    · cases h
theorem origin_no0 {s : List UInt8} {n : Nat} (h : Urly.originOf s = .error n) : n ≠ 0 := by
  unfold Urly.originOf at h
  cases hp : Urly.parse s with
  | error k => rw [hp] at h; injection h with h; subst h; exact parse_no0 hp
  | ok b => rw [hp] at h; cases h
/-- a text and an error, as told. -/
def Told (r : Except Nat (List UInt8)) (s : List UInt8) (m : Int) : Prop := (m = 0 ∧ r = .ok s) ∨ (m ≠ 0 ∧ s = [] ∧ ∃ n : Nat, r = .error n ∧ m = n)
theorem told_of {r : Except Nat (List UInt8)} {w w' : World} {e : Ending} (h0 : ∀ n, r = .error n → n ≠ 0) (h : WriteOut r w e w') : ∃ s m, e = .returned (.tuple #[.string (byt s), .int .i64 m]) ∧ Told r s m ∧ Below w.heap.size w w' := by
  unfold WriteOut at h
  cases hr : r with
  | ok s => rw [hr] at h; exact ⟨s, 0, h.1, .inl ⟨rfl, rfl⟩, h.2⟩
  | error n => rw [hr] at h; exact ⟨[], n, h.1, .inr ⟨by have := h0 n hr; omega, rfl, n, rfl, rfl⟩, h.2⟩
def ResC (base ref : List UInt8) (w : World) : Prop := Calls Tryz.prog 52 #[.string (byt base), .string (byt ref)] w fun e w' => ∃ s m, e = .returned (.tuple #[.string (byt s), .int .i64 m]) ∧ Told (Urly.resolve base ref) s m ∧ Below w.heap.size w w'
theorem resC (base ref : List UInt8) (w : World) (he : Env w) : ResC base ref w := (resolve_any base ref w he).mono fun _ _ h => told_of (fun _ => resolve_no0) h
def OriC (s : List UInt8) (w : World) : Prop := Calls Tryz.prog 9 #[.string (byt s)] w fun e w' => ∃ o m, e = .returned (.tuple #[.string (byt o), .int .i64 m]) ∧ Told (Urly.originOf s) o m ∧ Below w.heap.size w w'
theorem oriC (s : List UInt8) (w : World) (he : Env w) : OriC s w := (uorigin_any s w he).mono fun _ _ h => told_of (fun _ => origin_no0) h
theorem env_keep {w w1 : World} (he : Env w) : Below w.heap.size w w1 → Env w1 := fun h => he.below h
theorem told_ok {r : Except Nat (List UInt8)} {s t : List UInt8} {m : Int} (h : Told r s m) (hr : r = .ok t) : m = 0 ∧ s = t := by
  rcases h with ⟨h, h2⟩ | ⟨h, _, n, h2, _⟩
  · rw [hr] at h2; injection h2 with h2; exact ⟨h, h2.symm⟩
  · rw [hr] at h2; cases h2
theorem told_no {r : Except Nat (List UInt8)} {s : List UInt8} {m : Int} {n : Nat} (h : Told r s m) (hr : r = .error n) : m ≠ 0 ∧ m = n ∧ s = [] := by
  rcases h with ⟨h, h2⟩ | ⟨h, h1, k, h2, h3⟩
  · rw [hr] at h2; cases h2
  · rw [hr] at h2; injection h2 with h2; subst h2; exact ⟨h, h3, h1⟩
/-- two texts, compared as the walk compares them. -/
theorem same_yes (A : ByteArray) : (A.toList == A.toList) = true ∧ decide (A.toList = A.toList) = true := by simp
theorem same_no {A B : ByteArray} (h : A ≠ B) : (A.toList == B.toList) = false ∧ decide (A.toList = B.toList) = false ∧ decide (A = B) = false := by
  have h1 : ¬ A.toList = B.toList := fun e => h (by cases A; cases B; simpa [ByteArray.toList_eq] using e)
  exact ⟨by rw [beq_eq_false_iff_ne]; exact h1, decide_eq_false h1, decide_eq_false h⟩
theorem byt_ne {a b : List UInt8} (h : a ≠ b) : byt a ≠ byt b := fun e => h (byt_inj e)
end Go.Proofs.YtdolmjeiakdfhaaGreatDoor

namespace Go.Proofs.YtdolmjeiakdfhaaGreatDoor
set_option linter.unusedSimpArgs false
set_option linter.unusedVariables false
open Go.RowKit
open Traily (Ent T)

def ec (e : Ent) : Array Value := #[.string (byt e.url), .string (byt e.state), .int .i64 e.doc]
def tc (v : Value) (k : Int) : Array Value := #[v, .int .i64 k]
theorem ec_one (e : Ent) : (ec e).all (·.oneCell') = true := by simp [ec, Value.oneCell']
theorem info_ent : (Tryz.prog.info? 48).map (·.size) = some 3 := by kernel_rfl
theorem parts_ent : (Tryz.prog.info? 48).map (fun i => (i.zero, i.size, i.bytes)) = some (some (.agg #[.string ⟨#[]⟩, .string ⟨#[]⟩, .int .i64 0]), 3, 40) := by kernel_rfl
theorem info_trl : (Tryz.prog.info? 41).map (·.size) = some 2 := by kernel_rfl
set_option maxRecDepth 100000 in
set_option maxHeartbeats 4000000 in
theorem tclean_any (s : List UInt8) (w : World) (he : Env w) :
    Calls Tryz.prog 36 #[.string (byt s)] w (BoolOut (Traily.isClean s) w) := by
  have HR1 : Hid (ResC s s w) := Lib.hid (resC s s w he)
  clear he
  unfold ResC at HR1
  obtain ⟨S, hS⟩ : ∃ S, byt s = S := ⟨_, rfl⟩
  rw [hS] at HR1
  rw [hS]
  have HS := Lib.hid hS
  clear hS
  go_enter Tryz.func36, Tryz.ntmps36
  go_wp2_with (fail)
  refine HR1.out.mono ?_
  rintro e w1 ⟨t, m, rfl, ht, hw1⟩
  have HW1 := Lib.hid hw1
  clear hw1 HR1
  rcases ht with ⟨rfl, hr⟩ | ⟨hm, rfl, n, hr, hmn⟩
  · by_cases hts : t = s
    · have hb : Hid (Traily.isClean s = true) := Lib.hid (Traily.clean_iff.2 (by rw [hr, hts]))
      rw [hts, HS.out]
      obtain ⟨q1, q2⟩ := same_yes S
      clear hr hts
      go_wp2
      go_ret
      exact ⟨by rw [hb.out] <;> rfl, HW1.out⟩
    · have hb : Hid (Traily.isClean s = false) := Lib.hid (by unfold Traily.isClean; rw [hr]; exact decide_eq_false hts)
      have hne := byt_ne hts
      rw [HS.out] at hne
      obtain ⟨U, hU⟩ : ∃ U, byt t = U := ⟨_, rfl⟩
      rw [hU] at hne ⊢
      obtain ⟨q1, q2, q3⟩ := same_no hne
      have q4 := of_decide_eq_false q2
      clear hr hts hne hU
      go_wp2
      go_ret
      exact ⟨by rw [hb.out] <;> rfl, HW1.out⟩
  · have hb : Hid (Traily.isClean s = false) := Lib.hid (by unfold Traily.isClean; rw [hr])
    have q1 : (m == 0) = false := by rw [beq_eq_false_iff_ne]; exact hm
    clear hr hm hmn
    go_wp2
    go_ret
    exact ⟨by rw [hb.out] <;> rfl, HW1.out⟩
def TxtOut (s : List UInt8) (w : World) (e : Ending) (w' : World) : Prop := e = .returned (.string (byt s)) ∧ Below w.heap.size w w'
theorem told_org {s o : List UInt8} {m : Int} (h : Told (Urly.originOf s) o m) : o = Traily.org s := by
  unfold Traily.org
  rcases h with ⟨_, h2⟩ | ⟨_, h1, n, h2, _⟩
  · rw [h2]
  · rw [h2, h1]
set_option maxRecDepth 100000 in
set_option maxHeartbeats 4000000 in
theorem torigin_any (s : List UInt8) (w : World) (he : Env w) :
    Calls Tryz.prog 55 #[.string (byt s)] w (TxtOut (Traily.org s) w) := by
  have HR1 : Hid (OriC s w) := Lib.hid (oriC s w he)
  clear he
  unfold OriC at HR1
  go_enter Tryz.func55, Tryz.ntmps55
  go_wp2_with (fail)
  refine HR1.out.mono ?_
  rintro e w1 ⟨t, m, rfl, ht, hw1⟩
  have HW1 := Lib.hid hw1
  have HT := Lib.hid (told_org ht)
  clear hw1 HR1 ht
  go_wp2
  go_ret
  exact ⟨by rw [HT.out] <;> rfl, HW1.out⟩
/-- up to a number sign. -/
theorem bare_any (s : List UInt8) (w : World) (hs : s.length ≤ 9223372036854775807) :
    Calls Tryz.prog 28 #[.string (byt s)] w (TxtOut (Traily.bare s) w) := by
  have HC := Lib.hid (cut_any s 35 w hs)
  obtain ⟨a, b, t, hc⟩ : ∃ a b t, cutAt 35 s = (a, b, t) := ⟨_, _, _, rfl⟩
  have HB : Hid (Traily.bare s = a) := Lib.hid (by
    show (Urly.cut 35 s).1 = a
    rw [show Urly.cut 35 s = cutAt 35 s from rfl, hc])
  unfold CutOut at HC
  rw [hc] at HC
  obtain ⟨S, hS⟩ : ∃ S, byt s = S := ⟨_, rfl⟩
  rw [hS] at HC ⊢
  clear hS hc hs
  go_enter Tryz.func28, Tryz.ntmps28
  go_wp2_with (fail)
  refine HC.out.mono ?_
  rintro e w1 ⟨rfl, hw1⟩
  have HW1 := Lib.hid hw1
  clear hw1 HC
  go_wp2
  go_ret
  exact ⟨by rw [HB.out] <;> rfl, HW1.out⟩
theorem has_any (s : List UInt8) (w : World) :
    Calls Tryz.prog 27 #[.string (byt s), .string ⟨#[35]⟩] w fun e w' => e = .returned (.bool (s.contains 35)) ∧ w' = w := by
  have h := Tryz.strings_Contains_one (byt s) 35 w
  rw [byt_data] at h
  refine h.mono ?_
  rintro e w' ⟨rfl, hw⟩
  refine ⟨?_, hw⟩
  congr 2
  by_cases hm : (35 : UInt8) ∈ s
  · rw [show s.contains 35 = true by simpa using hm]
    refine decide_eq_true ?_
    obtain ⟨a, b, hab, hna⟩ : ∃ a b, s = a ++ 35 :: b ∧ (35 : UInt8) ∉ a := by
      rcases Urly.cut_form 35 s with ⟨_, h2⟩ | ⟨a, b, h2, h3, _⟩
      · exact absurd hm h2
      · exact ⟨a, b, h2, h3⟩
    rw [hab, ib_yes hna]
    omega
  · rw [show s.contains 35 = false by simpa using hm, ib_no hm]
    decide
theorem gen_world {P : Program} {c : Code} {Q : Exit → Act → World → Prop} {a : Act} {w0 : World} {F : World → Prop} (hf : F w0) (h : ∀ W, F W → Code.wp P c Q a W) : Code.wp P c Q a w0 := h w0 hf
end Go.Proofs.YtdolmjeiakdfhaaGreatDoor

namespace Go.Proofs.YtdolmjeiakdfhaaGreatDoor
set_option linter.unusedSimpArgs false
set_option linter.unusedVariables false
open Go.RowKit

theorem zero_ent (w : World) : (zeroValue 48).run Tryz.prog w = .ok (.agg #[.string ⟨#[]⟩, .string ⟨#[]⟩, .int .i64 0]) w := by kernel_rfl
set_option maxRecDepth 100000 in
theorem neq_of_eql {t : TypeId} {x y : Array Value} {b : Bool} {w : World} (h : (binOp .eql t (.agg x) (.agg y)).run Tryz.prog w = .ok (.bool b) w) : (binOp .neq t (.agg x) (.agg y)).run Tryz.prog w = .ok (.bool (!b)) w := by
  rw [run_eql_struct] at h
  rw [run_neq_struct]
  cases hr : (Op.equalIn 10000 t (.agg x) (.agg y)).run Tryz.prog w with
  | ok x w1 =>
    rw [hr] at h
    simp only [Result.andThen_ok] at h ⊢
    injection h with h1 h2
    injection h1 with h1
    rw [h1, h2]
  | halt x w1 => rw [hr] at h; simp [Result.andThen] at h
theorem ent_ext (a b : Traily.Ent) : decide (a = b) = (decide ((byt a.url).toList = (byt b.url).toList) && (decide ((byt a.state).toList = (byt b.state).toList) && decide (a.doc = b.doc))) := by
  obtain ⟨u, s, d⟩ := a
  obtain ⟨u', s', d'⟩ := b
  simp only [byt_list]
  rw [Bool.eq_iff_iff]
  simp
set_option maxHeartbeats 1000000 in
theorem eql_ent (a b : Traily.Ent) (w : World) : (binOp .eql 48 (.agg (ec a)) (.agg (ec b))).run Tryz.prog w = .ok (.bool (decide (a = b))) w := by
  have u3 := Tryz.underlying3
  have a3 := Tryz.isAgg3
  have z3 := Tryz.sizeOf3
  have u9 := Tryz.underlying9
  have a9 := Tryz.isAgg9
  have z9 := Tryz.sizeOf9
  have hS : Tryz.prog.underlying 48 = some (.struct (Tryz.prog.fieldsOf 48)) := by kernel_rfl
  have hp : Tryz.prog.stoodInHeld 48 = false := by kernel_rfl
  rw [ent_ext]
  unfold ec
  rw [run_eql_struct, show (10000 : Nat) = 9999 + 1 from rfl, run_equalIn_agg w 9999 48 _ _ hS hp]
  simp only [Program.fieldsOf, Tryz.underlying48]
  go_simp
  by_cases h1 : (byt a.url).toList = (byt b.url).toList <;> by_cases h2 : (byt a.state).toList = (byt b.state).toList <;> by_cases h3 : a.doc = b.doc <;> simp [h1, h2, h3]
theorem neq_ent (a b : Traily.Ent) (w : World) : (binOp .neq 48 (.agg (ec a)) (.agg (ec b))).run Tryz.prog w = .ok (.bool (!decide (a = b))) w := neq_of_eql (eql_ent a b w)
set_option maxHeartbeats 1000000 in
theorem index_ent (l : List Traily.Ent) (p : Traily.Ent → Bool) (g : Nat) (lb : Array Value) (v : Value) (w : World) (eg : ∀ args w, (callFunc g args).run Tryz.prog w = .ok (.enter g args) w)
    (hp : ∀ x ∈ l, ∀ w1, Below w.heap.size w w1 → Calls Tryz.prog g (#[.agg (ec x)] ++ lb) w1 fun e w' => e = .returned (.bool (p x)) ∧ Below w1.heap.size w1 w')
    (hR : RdL w 3 ec l v) (hl : l.length ≤ 1000000) :
    Calls Tryz.prog 56 #[v, .func (.func g) #[] lb] w fun e w' => e = .returned (.int .i64 (idx p l)) ∧ Below w.heap.size w w' := by
  obtain ⟨A, cap, rfl, hcap1, hcap2, hrow⟩ := hR
  have HP := Lib.hid hp
  have HR := Lib.hid hrow
  clear hp hrow
  go_enter Tryz.func56, Tryz.ntmps56
  go_wp2
  go_loopg [5, 8] l.length (fun gg _ s8 wr => ∃ kk : Nat, kk ≤ l.length ∧ l.length - kk ≤ gg ∧ s8 = .int .i64 (kk : Int) ∧ Hid (Below w.heap.size w wr) ∧ Hid (∀ j y, j < kk → l[j]? = some y → p y = false))
  case atStart => exact ⟨0, Nat.zero_le _, by omega, rfl, Below.refl _ w, fun j y hj => absurd hj (Nat.not_lt_zero _)⟩
  case round =>
    obtain ⟨kk, hkk, hg, rfl, BW, AA⟩ := hrel
    by_cases hlt : kk < l.length
    · have hltz : (kk : Int) < (l.length : Int) := by omega
      obtain ⟨y, hy⟩ : ∃ y, l[kk]? = some y := ⟨_, List.getElem?_eq_getElem hlt⟩
      obtain ⟨g0, o, rfl, hg0, hrg⟩ := HR.out (by omega)
      have hrange : Hid (wr.rangeAt g0 (o + kk * 3) (ec y).toList) := fun i u hu => by
        rw [BW.out.cell (p := ⟨g0, o + kk * 3 + i, none⟩) hg0]
        exact RdL.elem (f := ec) (fun _ => rfl) hrg hy i u hu
      have hcall0 := HP.out y (List.mem_of_getElem? hy) wr BW.out
      have HY := Lib.hid hy
      clear hy hrg
      cases hq : p y with
      | true =>
        rw [hq] at hcall0
        have hcall := Lib.hid hcall0
        clear hcall0
        go_wp2_with (refine wpList_load_mid rfl 48 (.tmp 14) rfl g0 (o + kk * 3) rfl (ec y).toList _ hrange.out Tryz.underlying48 rfl info_ent ?_)
        refine (hcall.out).mono ?_
        rintro e w1 ⟨rfl, hb'⟩
        go_wp2
        go_ret
        refine ⟨?_, BW.out.trans (hb'.mono BW.out.size)⟩
        rw [idx_hit p l kk y HY.out hq AA.out]; rfl
      | false =>
        rw [hq] at hcall0
        have hcall := Lib.hid hcall0
        clear hcall0
        go_wp2_with (refine wpList_load_mid rfl 48 (.tmp 14) rfl g0 (o + kk * 3) rfl (ec y).toList _ hrange.out Tryz.underlying48 rfl info_ent ?_)
        refine (hcall.out).mono ?_
        rintro e w1 ⟨rfl, hb'⟩
        go_wp2
        go_roundg (l.length - (kk + 1))
        case measure => omega
        case rel =>
          refine ⟨kk + 1, by omega, by omega, by go_num, BW.out.trans (hb'.mono BW.out.size), (show Hid _ from fun j z hj hz => ?_)⟩
          by_cases e : j = kk
          · subst e
            have := HY.out
            rw [hz] at this
            injection this with this
            rw [this]; exact hq
          · exact AA.out j z (by omega) hz
    · have hltz : ¬ (kk : Int) < (l.length : Int) := by omega
      go_wp2
      go_ret
      refine ⟨?_, BW.out⟩
      rw [idx_miss p l (fun j y hy => AA.out j y (by have := (List.getElem?_eq_some_iff.1 hy).1; omega) hy)]; rfl
set_option maxHeartbeats 1000000 in
theorem contains_ent (l : List Traily.Ent) (p : Traily.Ent → Bool) (g : Nat) (lb : Array Value) (v : Value) (w : World) (eg : ∀ args w, (callFunc g args).run Tryz.prog w = .ok (.enter g args) w)
    (hp : ∀ x ∈ l, ∀ w1, Below w.heap.size w w1 → Calls Tryz.prog g (#[.agg (ec x)] ++ lb) w1 fun e w' => e = .returned (.bool (p x)) ∧ Below w1.heap.size w1 w')
    (hR : RdL w 3 ec l v) (hl : l.length ≤ 1000000) :
    Calls Tryz.prog 33 #[v, .func (.func g) #[] lb] w fun e w' => e = .returned (.bool (l.any p)) ∧ Below w.heap.size w w' := by
  have H := Lib.hid (index_ent l p g lb v w eg hp hR hl)
  have HI := Lib.hid (idx_any p l)
  clear hp hR
  go_enter Tryz.func33, Tryz.ntmps33
  go_wp2_with (fail)
  refine (H.out).mono ?_
  rintro e w1 ⟨rfl, hb⟩
  go_wp2
  go_ret
  exact ⟨ret_bool (by simpa using HI.out), hb⟩
set_option maxRecDepth 100000 in
set_option maxHeartbeats 1000000 in
theorem clone_ent (l : List Traily.Ent) (v : Value) (w : World) (hR : RdL w 3 ec l v) (hl : l.length * 40 ≤ 140737488355328) :
    Calls Tryz.prog 32 #[v] w fun e w' => OwnOut w 48 3 l.length (flat ec l) e w' := by
  obtain ⟨A, cap, rfl, hcap1, hcap2, hrow⟩ := hR
  obtain ⟨i0, hi0, hz0, hz1, hz2⟩ := info_parts parts_ent
  have hlen := flat_len (f := ec) (k := 3) (fun _ => rfl) l
  have hone := Lib.hid (flat_one (f := ec) ec_one l)
  cases A with
  | none =>
    have h0 : l = [] := by
      cases l with
      | nil => rfl
      | cons x l => obtain ⟨_, _, h, _⟩ := hrow (by simp); cases h
    subst h0
    have hnil := fun w => Lib.run_eql_slice_nil (P := Tryz.prog) w 39 48 none 0 cap 0 0 Tryz.underlying39
    go_enter Tryz.func32, Tryz.ntmps32
    go_wp2
    go_ret
    exact ⟨_, rfl, World.ownsRow_nil _ _ _ _, Below.refl _ _⟩
  | some ad =>
    have hnil := fun w => Lib.run_eql_slice_nil (P := Tryz.prog) w 39 48 (some ad) l.length cap 0 0 Tryz.underlying39
    have hnews : Hid (∀ o j u, (flat ec l)[j]? = some u → (w.alloc o).cell? (ad.add j) = some u) := by
      intro o j u hu
      have hj : j < l.length * 3 := by rw [← hlen]; exact (List.getElem?_eq_some_iff.1 hu).1
      obtain ⟨g, o2, e, hg, hr⟩ := hrow (by omega)
      injection e with e
      subst e
      rw [Addr.add_mid]
      exact Lib.cell?_alloc_some o (hr j u hu)
    have HL := Lib.hid hlen
    clear hlen hrow
    go_enter Tryz.func32, Tryz.ntmps32
    go_wp2_with (at_builtin; refine wpList_append_own _ rfl (.tmp 5) (.tmp 6) 39 rfl w.heap.size 48 i0 _ 3 40 Tryz.underlying39 hi0 hz0 hz1 hz2 rfl (by decide) (.slice (some ⟨w.heap.size, 0, none⟩) 0 0) 0 [] rfl (World.ownsRow_made w #[] 0 (Nat.le_refl _) (by decide) rfl) ad l.length cap (flat ec l) rfl HL.out (hnews.out _) hone.out (by unfold maxLen; omega) (by omega) (by simp) ?_; intro v' w1 hown hgr _)
    go_ret
    refine ⟨v', rfl, by simpa using hown, ?_⟩
    refine Below.trans (below1 w _) (below_grown hgr (by simp) (fun k hk => ?_))
    simp [Value.ownBlock] at hk
    omega
theorem take_ne {α : Type} {l m : List α} {k : Nat} {x y : α} (hx : l[k]? = some x) (hy : m[k]? = some y) (h : x ≠ y) : l ≠ m := fun e => h (by rw [e, hy] at hx; injection hx with hx; exact hx.symm)
theorem take_all {α : Type} {l m : List α} (hl : l.length = m.length) (h : ∀ (j : Nat) (x y : α), j < l.length → l[j]? = some x → m[j]? = some y → x = y) : l = m := by
  apply List.ext_getElem hl
  intro i h1 h2
  exact h i _ _ h1 (List.getElem?_eq_getElem h1) (List.getElem?_eq_getElem h2)
set_option maxRecDepth 100000 in
set_option maxHeartbeats 2000000 in
theorem equal_ent (l m : List Traily.Ent) (v u : Value) (w : World) (hv : RdL w 3 ec l v) (hu : RdL w 3 ec m u) (hl : l.length ≤ 1000000) (hm : m.length ≤ 1000000) :
    Calls Tryz.prog 38 #[v, u] w fun e w' => e = .returned (.bool (decide (l = m))) ∧ Below w.heap.size w w' := by
  obtain ⟨A, cap, rfl, hcap1, hcap2, hrow⟩ := hv
  obtain ⟨A2, cap2, rfl, hcap3, hcap4, hrow2⟩ := hu
  have HR := Lib.hid hrow
  have HR2 := Lib.hid hrow2
  clear hrow hrow2
  go_enter Tryz.func38, Tryz.ntmps38
  by_cases hlm : l.length = m.length
  · have hne : ((l.length : Int) != (m.length : Int)) = false := by simp [hlm]
    have HLM := Lib.hid hlm
    clear hlm
    go_wp2
    go_loopg [5, 13] l.length (fun gg _ s13 wr => ∃ kk : Nat, kk ≤ l.length ∧ l.length - kk ≤ gg ∧ s13 = .int .i64 (kk : Int) ∧ Hid (Below w.heap.size w wr) ∧ Hid (∀ (j : Nat) (x y : Traily.Ent), j < kk → l[j]? = some x → m[j]? = some y → x = y))
    case atStart => exact ⟨0, Nat.zero_le _, by omega, rfl, Below.refl _ w, fun j x y hj => absurd hj (Nat.not_lt_zero _)⟩
    case round =>
      obtain ⟨kk, hkk, hg, rfl, BW, AA⟩ := hrel
      by_cases hlt : kk < l.length
      · have hltz : (kk : Int) < (l.length : Int) := by omega
        have hltz2 : (kk : Int) < (m.length : Int) := by have := HLM.out; omega
        obtain ⟨x, hx⟩ : ∃ x, l[kk]? = some x := ⟨_, List.getElem?_eq_getElem hlt⟩
        obtain ⟨y, hy⟩ : ∃ y, m[kk]? = some y := ⟨_, List.getElem?_eq_getElem (by have := HLM.out; omega)⟩
        obtain ⟨g0, o0, rfl, hg0, hrg⟩ := HR.out (by omega)
        obtain ⟨g1, o1, rfl, hg1, hrg1⟩ := HR2.out (by have := HLM.out; omega)
        have hr0 : Hid (wr.rangeAt g0 (o0 + kk * 3) (ec x).toList) := fun i u hu => by
          rw [BW.out.cell (p := ⟨g0, o0 + kk * 3 + i, none⟩) hg0]
          exact RdL.elem (f := ec) (fun _ => rfl) hrg hx i u hu
        have hr1 : Hid (wr.rangeAt g1 (o1 + kk * 3) (ec y).toList) := fun i u hu => by
          rw [BW.out.cell (p := ⟨g1, o1 + kk * 3 + i, none⟩) hg1]
          exact RdL.elem (f := ec) (fun _ => rfl) hrg1 hy i u hu
        have HX := Lib.hid hx
        have HY := Lib.hid hy
        clear hx hy hrg hrg1
        obtain ⟨b, hb⟩ : ∃ b, decide (x = y) = b := ⟨_, rfl⟩
        have hnq := fun w => neq_ent x y w
        rw [hb] at hnq
        have HB := Lib.hid hb
        clear hb
        cases b with
        | false =>
          go_upto_region 6 with (fail)
          refine wp_region_held_drew (S := fun w' => w'.rangeAt g0 (o0 + kk * 3) (ec x).toList ∧ w'.rangeAt g1 (o1 + kk * 3) (ec y).toList) (by kernel_rfl) ⟨hr0.out, hr1.out⟩ (fun hHeld => ?_)
          refine wpAnyH_take (i := 0) (v := ?_) rfl (by kernel_rfl) (by kernel_rfl) (by kernel_rfl) (fun _ _ _ h => h) (Or.inl ⟨by kernel_rfl, ?_⟩) (by assumption) ?_
          rotate_left
          · intro w hSw
            (try dsimp only at hSw)
            go_simp
            try (with_reducible rfl)
          (try simp only [Act.put, List.getElem_toArray, List.getElem_cons_zero, List.setIfInBounds_toArray, List.set_cons_zero, List.set_cons_succ])
          refine wpAnyH_take (i := 1) (v := ?_) rfl (by kernel_rfl) (by kernel_rfl) (by kernel_rfl) (fun _ _ _ h => h) (Or.inl ⟨by kernel_rfl, ?_⟩) (by assumption) ?_
          rotate_left
          · intro w hSw
            (try dsimp only at hSw)
            go_simp
            try (with_reducible rfl)
          (try simp only [Act.put, List.getElem_toArray, List.getElem_cons_succ, List.getElem_cons_zero, List.setIfInBounds_toArray, List.set_cons_zero, List.set_cons_succ])
          refine wpAnyH_take (i := 2) (v := ?_) rfl (by kernel_rfl) (by kernel_rfl) (by kernel_rfl) (fun _ _ _ h => h) (Or.inl ⟨by kernel_rfl, ?_⟩) (by assumption) ?_
          rotate_left
          · intro w hSw
            (try dsimp only at hSw)
            go_simp
            try (with_reducible rfl)
          (try simp only [Act.put, List.getElem_toArray, List.getElem_cons_succ, List.getElem_cons_zero, List.setIfInBounds_toArray, List.set_cons_zero, List.set_cons_succ])
          refine wpAnyH_take (i := 3) (v := _) rfl (by kernel_rfl) (by kernel_rfl) (by kernel_rfl) (fun _ _ _ h => h) (yieldsIf_load_mid (by kernel_rfl) 48 (.tmp 18) rfl (g0) (o0 + kk * 3) rfl ((ec x).toList) _ (fun _ h => h.1) Tryz.underlying48 rfl info_ent) (by assumption) ?_
          (try simp only [Act.put, List.getElem_toArray, List.getElem_cons_succ, List.getElem_cons_zero, List.setIfInBounds_toArray, List.set_cons_zero, List.set_cons_succ])
          refine wpAnyH_take (i := 4) (v := ?_) rfl (by kernel_rfl) (by kernel_rfl) (by kernel_rfl) (fun _ _ _ h => h) (Or.inl ⟨by kernel_rfl, ?_⟩) (by assumption) ?_
          rotate_left
          · intro w hSw
            (try dsimp only at hSw)
            go_simp
            try (with_reducible rfl)
          (try simp only [Act.put, List.getElem_toArray, List.getElem_cons_succ, List.getElem_cons_zero, List.setIfInBounds_toArray, List.set_cons_zero, List.set_cons_succ])
          refine wpAnyH_take (i := 5) (v := ?_) rfl (by kernel_rfl) (by kernel_rfl) (by kernel_rfl) (fun _ _ _ h => h) (Or.inl ⟨by kernel_rfl, ?_⟩) (by assumption) ?_
          rotate_left
          · intro w hSw
            (try dsimp only at hSw)
            go_simp
            try (with_reducible rfl)
          (try simp only [Act.put, List.getElem_toArray, List.getElem_cons_succ, List.getElem_cons_zero, List.setIfInBounds_toArray, List.set_cons_zero, List.set_cons_succ])
          refine wpAnyH_take (i := 6) (v := ?_) rfl (by kernel_rfl) (by kernel_rfl) (by kernel_rfl) (fun _ _ _ h => h) (Or.inl ⟨by kernel_rfl, ?_⟩) (by assumption) ?_
          rotate_left
          · intro w hSw
            (try dsimp only at hSw)
            go_simp
            try (with_reducible rfl)
          (try simp only [Act.put, List.getElem_toArray, List.getElem_cons_succ, List.getElem_cons_zero, List.setIfInBounds_toArray, List.set_cons_zero, List.set_cons_succ])
          refine wpAnyH_take (i := 7) (v := _) rfl (by kernel_rfl) (by kernel_rfl) (by kernel_rfl) (fun _ _ _ h => h) (yieldsIf_load_mid (by kernel_rfl) 48 (.tmp 22) rfl (g1) (o1 + kk * 3) rfl ((ec y).toList) _ (fun _ h => h.2) Tryz.underlying48 rfl info_ent) (by assumption) ?_
          (try simp only [Act.put, List.getElem_toArray, List.getElem_cons_succ, List.getElem_cons_zero, List.setIfInBounds_toArray, List.set_cons_zero, List.set_cons_succ])
          refine wpAnyH_take (i := 8) (v := ?_) rfl (by kernel_rfl) (by kernel_rfl) (by kernel_rfl) (fun _ _ _ h => h) (Or.inl ⟨by kernel_rfl, ?_⟩) (by assumption) ?_
          rotate_left
          · intro w hSw
            (try dsimp only at hSw)
            go_simp
            try (with_reducible rfl)
          (try simp only [Act.put, List.getElem_toArray, List.getElem_cons_succ, List.getElem_cons_zero, List.setIfInBounds_toArray, List.set_cons_zero, List.set_cons_succ])
          refine wpAnyH_done (by kernel_rfl) ?_ _
          go_wp2
          go_ret
          refine ⟨?_, BW.out.drew⟩
          rw [decide_eq_false (take_ne HX.out HY.out (of_decide_eq_false HB.out))]; rfl
        | true =>
          go_upto_region 6 with (fail)
          refine wp_region_held_drew (S := fun w' => w'.rangeAt g0 (o0 + kk * 3) (ec x).toList ∧ w'.rangeAt g1 (o1 + kk * 3) (ec y).toList) (by kernel_rfl) ⟨hr0.out, hr1.out⟩ (fun hHeld => ?_)
          refine wpAnyH_take (i := 0) (v := ?_) rfl (by kernel_rfl) (by kernel_rfl) (by kernel_rfl) (fun _ _ _ h => h) (Or.inl ⟨by kernel_rfl, ?_⟩) (by assumption) ?_
          rotate_left
          · intro w hSw
            (try dsimp only at hSw)
            go_simp
            try (with_reducible rfl)
          (try simp only [Act.put, List.getElem_toArray, List.getElem_cons_zero, List.setIfInBounds_toArray, List.set_cons_zero, List.set_cons_succ])
          refine wpAnyH_take (i := 1) (v := ?_) rfl (by kernel_rfl) (by kernel_rfl) (by kernel_rfl) (fun _ _ _ h => h) (Or.inl ⟨by kernel_rfl, ?_⟩) (by assumption) ?_
          rotate_left
          · intro w hSw
            (try dsimp only at hSw)
            go_simp
            try (with_reducible rfl)
          (try simp only [Act.put, List.getElem_toArray, List.getElem_cons_succ, List.getElem_cons_zero, List.setIfInBounds_toArray, List.set_cons_zero, List.set_cons_succ])
          refine wpAnyH_take (i := 2) (v := ?_) rfl (by kernel_rfl) (by kernel_rfl) (by kernel_rfl) (fun _ _ _ h => h) (Or.inl ⟨by kernel_rfl, ?_⟩) (by assumption) ?_
          rotate_left
          · intro w hSw
            (try dsimp only at hSw)
            go_simp
            try (with_reducible rfl)
          (try simp only [Act.put, List.getElem_toArray, List.getElem_cons_succ, List.getElem_cons_zero, List.setIfInBounds_toArray, List.set_cons_zero, List.set_cons_succ])
          refine wpAnyH_take (i := 3) (v := _) rfl (by kernel_rfl) (by kernel_rfl) (by kernel_rfl) (fun _ _ _ h => h) (yieldsIf_load_mid (by kernel_rfl) 48 (.tmp 18) rfl (g0) (o0 + kk * 3) rfl ((ec x).toList) _ (fun _ h => h.1) Tryz.underlying48 rfl info_ent) (by assumption) ?_
          (try simp only [Act.put, List.getElem_toArray, List.getElem_cons_succ, List.getElem_cons_zero, List.setIfInBounds_toArray, List.set_cons_zero, List.set_cons_succ])
          refine wpAnyH_take (i := 4) (v := ?_) rfl (by kernel_rfl) (by kernel_rfl) (by kernel_rfl) (fun _ _ _ h => h) (Or.inl ⟨by kernel_rfl, ?_⟩) (by assumption) ?_
          rotate_left
          · intro w hSw
            (try dsimp only at hSw)
            go_simp
            try (with_reducible rfl)
          (try simp only [Act.put, List.getElem_toArray, List.getElem_cons_succ, List.getElem_cons_zero, List.setIfInBounds_toArray, List.set_cons_zero, List.set_cons_succ])
          refine wpAnyH_take (i := 5) (v := ?_) rfl (by kernel_rfl) (by kernel_rfl) (by kernel_rfl) (fun _ _ _ h => h) (Or.inl ⟨by kernel_rfl, ?_⟩) (by assumption) ?_
          rotate_left
          · intro w hSw
            (try dsimp only at hSw)
            go_simp
            try (with_reducible rfl)
          (try simp only [Act.put, List.getElem_toArray, List.getElem_cons_succ, List.getElem_cons_zero, List.setIfInBounds_toArray, List.set_cons_zero, List.set_cons_succ])
          refine wpAnyH_take (i := 6) (v := ?_) rfl (by kernel_rfl) (by kernel_rfl) (by kernel_rfl) (fun _ _ _ h => h) (Or.inl ⟨by kernel_rfl, ?_⟩) (by assumption) ?_
          rotate_left
          · intro w hSw
            (try dsimp only at hSw)
            go_simp
            try (with_reducible rfl)
          (try simp only [Act.put, List.getElem_toArray, List.getElem_cons_succ, List.getElem_cons_zero, List.setIfInBounds_toArray, List.set_cons_zero, List.set_cons_succ])
          refine wpAnyH_take (i := 7) (v := _) rfl (by kernel_rfl) (by kernel_rfl) (by kernel_rfl) (fun _ _ _ h => h) (yieldsIf_load_mid (by kernel_rfl) 48 (.tmp 22) rfl (g1) (o1 + kk * 3) rfl ((ec y).toList) _ (fun _ h => h.2) Tryz.underlying48 rfl info_ent) (by assumption) ?_
          (try simp only [Act.put, List.getElem_toArray, List.getElem_cons_succ, List.getElem_cons_zero, List.setIfInBounds_toArray, List.set_cons_zero, List.set_cons_succ])
          refine wpAnyH_take (i := 8) (v := ?_) rfl (by kernel_rfl) (by kernel_rfl) (by kernel_rfl) (fun _ _ _ h => h) (Or.inl ⟨by kernel_rfl, ?_⟩) (by assumption) ?_
          rotate_left
          · intro w hSw
            (try dsimp only at hSw)
            go_simp
            try (with_reducible rfl)
          (try simp only [Act.put, List.getElem_toArray, List.getElem_cons_succ, List.getElem_cons_zero, List.setIfInBounds_toArray, List.set_cons_zero, List.set_cons_succ])
          refine wpAnyH_done (by kernel_rfl) ?_ _
          go_wp2
          go_roundg (l.length - (kk + 1))
          case measure => omega
          case rel =>
            refine ⟨kk + 1, by omega, by omega, by go_num, BW.out.drew, (show Hid _ from fun j x' y' hj hx' hy' => ?_)⟩
            by_cases e : j = kk
            · subst e
              have h1 := HX.out
              have h2 := HY.out
              rw [hx'] at h1
              rw [hy'] at h2
              injection h1 with h1
              injection h2 with h2
              rw [h1, h2]; exact of_decide_eq_true HB.out
            · exact AA.out j x' y' (by omega) hx' hy'
      · have hltz : ¬ (kk : Int) < (l.length : Int) := by omega
        go_wp2
        go_ret
        refine ⟨?_, BW.out⟩
        rw [decide_eq_true (take_all HLM.out (fun j x y hj h1 h2 => AA.out j x y (by omega) h1 h2))]; rfl
  · have hne : ((l.length : Int) != (m.length : Int)) = true := by simp; omega
    have HLM := Lib.hid hlm
    go_wp2
    go_ret
    refine ⟨?_, Below.refl _ w⟩
    rw [decide_eq_false (fun e => HLM.out (by rw [e]))]; rfl
end Go.Proofs.YtdolmjeiakdfhaaGreatDoor

/-
  A document's nodes in memory; which kinds have kids; what a bare node is. Conditions: none.
-/
import Derived.Test.YtdommcjlpibpeaaDoorGen
import Derived.Test.YtdommcjlpibpeaaDoorDom
namespace Go.Proofs.YtdommcjlpibpeaaDoor
set_option linter.unusedSimpArgs false
set_option linter.unusedVariables false
open Go.RowKit

/-- a node, and where its rows lie. -/
structure NodeV where
  n : Domy.Node
  A : Option Addr
  ca : Nat
  K : Option Addr
  ck : Nat
abbrev kc (a : Domy.Attr) : Array Value := #[.string (byt a.name), .string (byt a.value)]
abbrev ic (n : Int) : Array Value := #[.int .i64 n]
abbrev NodeV.as (x : NodeV) : Value := .slice x.A x.n.attrs.length x.ca
abbrev NodeV.ks (x : NodeV) : Value := .slice x.K x.n.kids.length x.ck
abbrev nc (x : NodeV) : Array Value := #[.int .i64 x.n.kind, .string (byt x.n.name), x.as, .string (byt x.n.text), .int .i64 x.n.parent, x.ks]
theorem kc_one (a : Domy.Attr) : (kc a).all (·.oneCell') = true := by simp [Value.oneCell']
theorem nc_one (x : NodeV) : (nc x).all (·.oneCell') = true := by simp [Value.oneCell']
theorem info_node : (Tryd.prog.info? 32).map (fun j => j.size) = some 6 := by kernel_rfl
theorem info_attr : (Tryd.prog.info? 81).map (fun j => j.size) = some 2 := by kernel_rfl
theorem info_doc : (Tryd.prog.info? 24).map (fun j => j.size) = some 2 := by kernel_rfl
structure NRd (w : World) (x : NodeV) : Prop where
  a : RdL w 2 kc x.n.attrs x.as
  k : RdL w 1 ic x.n.kids x.ks
theorem NRd.below {w w1 : World} {x : NodeV} (h : NRd w x) (hb : Below w.heap.size w w1) : NRd w1 x := ⟨h.a.below hb, h.k.below hb⟩
/-- a row of nodes reads as that. -/
structure DRd (w : World) (d : List NodeV) (v : Value) : Prop where
  r : RdL w 6 nc d v
  n : ∀ x ∈ d, NRd w x
theorem DRd.below {w w1 : World} {d : List NodeV} {v : Value} (h : DRd w d v) (hb : Below w.heap.size w w1) : DRd w1 d v := ⟨h.r.below hb, fun x hx => (h.n x hx).below hb⟩
abbrev dag (v : Value) (b : Bool) : Array Value := #[v, .bool b]
theorem kinds (k : Int) : k = 1 ∨ k = 2 ∨ k = 3 ∨ k = 4 ∨ k = 5 ∨ ((k == 1) = false ∧ (k == 2) = false ∧ (k == 3) = false ∧ (k == 4) = false ∧ (k == 5) = false) := by
  simp only [beq_eq_false_iff_ne]; omega
set_option maxHeartbeats 400000 in
theorem parent_any (k : Int) (w : World) :
    Calls Tryd.prog 40 #[.int .i64 k] w fun e w' => e = .returned (.bool (Domy.isParent k)) ∧ w' = w := by
  rcases kinds k with rfl | rfl | rfl | rfl | rfl | ⟨h1, h2, h3, h4, h5⟩
  all_goals
    go_enter Tryd.func40, Tryd.ntmps40
    go_wp2
    go_ret
    exact ⟨ret_bool (by simp_all [Domy.isParent]), rfl⟩
set_option maxRecDepth 100000 in
set_option maxHeartbeats 8000000 in
theorem bare_any (x : NodeV) (w : World) :
    Calls Tryd.prog 37 #[.agg (nc x)] w fun e w' => e = .returned (.bool (Domy.bare x.n)) ∧ Below w.heap.size w w' := by
  obtain ⟨⟨kind, name, attrs, text, parent, kids⟩, A, ca, K, ck⟩ := x
  rcases kinds kind with rfl | rfl | rfl | rfl | rfl | ⟨h1, h2, h3, h4, h5⟩
  · by_cases q : name = []
    · have en : (byt name).toList.isEmpty = true := by rw [byt_empty]; simp [q]
      have qn := Lib.hid q
      clear q
      by_cases q : attrs.length = 0
      · have ea : ((attrs.length : Int) == 0) = true := by simp [q]
        have eaN : (attrs.length == 0) = true := by simp [q]
        have qa := Lib.hid q
        clear q
        by_cases q : text = []
        · have et : (byt text).toList.isEmpty = true := by rw [byt_empty]; simp [q]
          have qt := Lib.hid q
          clear q
          go_enter Tryd.func37, Tryd.ntmps37
          go_upto_region 1 with (fail)
          go_quiet (fail)
          go_wp2_with (go_at_call 40; refine (parent_any _ _).mono ?_; rintro e w' ⟨rfl, hw⟩; subst hw)
          go_ret
          have rn := qn.out
          have ra := qa.out
          have rt := qt.out
          exact ⟨ret_bool (by simp_all [Domy.bare, Domy.isParent]), below_drewN (below1 _ _) _⟩
        · have et : (byt text).toList.isEmpty = false := by rw [byt_empty]; simp [q]
          have qt := Lib.hid q
          clear q
          go_enter Tryd.func37, Tryd.ntmps37
          go_upto_region 1 with (fail)
          go_quiet (fail)
          go_wp2_with (go_at_call 40; refine (parent_any _ _).mono ?_; rintro e w' ⟨rfl, hw⟩; subst hw)
          go_ret
          have rn := qn.out
          have ra := qa.out
          have rt := qt.out
          exact ⟨ret_bool (by simp_all [Domy.bare, Domy.isParent]), below_drewN (below1 _ _) _⟩
      · have ea : ((attrs.length : Int) == 0) = false := by rw [beq_eq_false_iff_ne]; omega
        have eaN : (attrs.length == 0) = false := by rw [beq_eq_false_iff_ne]; omega
        have qa := Lib.hid q
        clear q
        go_enter Tryd.func37, Tryd.ntmps37
        go_upto_region 1 with (fail)
        go_quiet (fail)
        go_wp2_with (go_at_call 40; refine (parent_any _ _).mono ?_; rintro e w' ⟨rfl, hw⟩; subst hw)
        go_ret
        have rn := qn.out
        have ra := qa.out
        exact ⟨ret_bool (by simp_all [Domy.bare, Domy.isParent]), below_drewN (below1 _ _) _⟩
    · have en : (byt name).toList.isEmpty = false := by rw [byt_empty]; simp [q]
      have qn := Lib.hid q
      clear q
      go_enter Tryd.func37, Tryd.ntmps37
      go_upto_region 1 with (fail)
      go_quiet (fail)
      go_wp2_with (go_at_call 40; refine (parent_any _ _).mono ?_; rintro e w' ⟨rfl, hw⟩; subst hw)
      go_ret
      have rn := qn.out
      exact ⟨ret_bool (by simp_all [Domy.bare, Domy.isParent]), below_drewN (below1 _ _) _⟩
  · by_cases q : text = []
    · have et : (byt text).toList.isEmpty = true := by rw [byt_empty]; simp [q]
      have qt := Lib.hid q
      clear q
      go_enter Tryd.func37, Tryd.ntmps37
      go_upto_region 1 with (fail)
      go_quiet (fail)
      go_wp2_with (go_at_call 40; refine (parent_any _ _).mono ?_; rintro e w' ⟨rfl, hw⟩; subst hw)
      go_ret
      have rt := qt.out
      exact ⟨ret_bool (by simp_all [Domy.bare, Domy.isParent]), below_drewN (below1 _ _) _⟩
    · have et : (byt text).toList.isEmpty = false := by rw [byt_empty]; simp [q]
      have qt := Lib.hid q
      clear q
      go_enter Tryd.func37, Tryd.ntmps37
      go_upto_region 1 with (fail)
      go_quiet (fail)
      go_wp2_with (go_at_call 40; refine (parent_any _ _).mono ?_; rintro e w' ⟨rfl, hw⟩; subst hw)
      go_ret
      have rt := qt.out
      exact ⟨ret_bool (by simp_all [Domy.bare, Domy.isParent]), below_drewN (below1 _ _) _⟩
  · by_cases q : name = []
    · have en : (byt name).toList.isEmpty = true := by rw [byt_empty]; simp [q]
      have qn := Lib.hid q
      clear q
      by_cases q : attrs.length = 0
      · have ea : ((attrs.length : Int) == 0) = true := by simp [q]
        have eaN : (attrs.length == 0) = true := by simp [q]
        have qa := Lib.hid q
        clear q
        by_cases q : kids.length = 0
        · have ek : ((kids.length : Int) == 0) = true := by simp [q]
          have ekN : (kids.length == 0) = true := by simp [q]
          have qk := Lib.hid q
          clear q
          go_enter Tryd.func37, Tryd.ntmps37
          go_upto_region 1 with (fail)
          go_quiet (fail)
          go_wp2_with (go_at_call 40; refine (parent_any _ _).mono ?_; rintro e w' ⟨rfl, hw⟩; subst hw)
          go_ret
          have rn := qn.out
          have ra := qa.out
          have rk := qk.out
          exact ⟨ret_bool (by simp_all [Domy.bare, Domy.isParent]), below_drewN (below1 _ _) _⟩
        · have ek : ((kids.length : Int) == 0) = false := by rw [beq_eq_false_iff_ne]; omega
          have ekN : (kids.length == 0) = false := by rw [beq_eq_false_iff_ne]; omega
          have qk := Lib.hid q
          clear q
          go_enter Tryd.func37, Tryd.ntmps37
          go_upto_region 1 with (fail)
          go_quiet (fail)
          go_wp2_with (go_at_call 40; refine (parent_any _ _).mono ?_; rintro e w' ⟨rfl, hw⟩; subst hw)
          go_ret
          have rn := qn.out
          have ra := qa.out
          have rk := qk.out
          exact ⟨ret_bool (by simp_all [Domy.bare, Domy.isParent]), below_drewN (below1 _ _) _⟩
      · have ea : ((attrs.length : Int) == 0) = false := by rw [beq_eq_false_iff_ne]; omega
        have eaN : (attrs.length == 0) = false := by rw [beq_eq_false_iff_ne]; omega
        have qa := Lib.hid q
        clear q
        go_enter Tryd.func37, Tryd.ntmps37
        go_upto_region 1 with (fail)
        go_quiet (fail)
        go_wp2_with (go_at_call 40; refine (parent_any _ _).mono ?_; rintro e w' ⟨rfl, hw⟩; subst hw)
        go_ret
        have rn := qn.out
        have ra := qa.out
        exact ⟨ret_bool (by simp_all [Domy.bare, Domy.isParent]), below_drewN (below1 _ _) _⟩
    · have en : (byt name).toList.isEmpty = false := by rw [byt_empty]; simp [q]
      have qn := Lib.hid q
      clear q
      go_enter Tryd.func37, Tryd.ntmps37
      go_upto_region 1 with (fail)
      go_quiet (fail)
      go_wp2_with (go_at_call 40; refine (parent_any _ _).mono ?_; rintro e w' ⟨rfl, hw⟩; subst hw)
      go_ret
      have rn := qn.out
      exact ⟨ret_bool (by simp_all [Domy.bare, Domy.isParent]), below_drewN (below1 _ _) _⟩
  · by_cases q : name = []
    · have en : (byt name).toList.isEmpty = true := by rw [byt_empty]; simp [q]
      have qn := Lib.hid q
      clear q
      by_cases q : attrs.length = 0
      · have ea : ((attrs.length : Int) == 0) = true := by simp [q]
        have eaN : (attrs.length == 0) = true := by simp [q]
        have qa := Lib.hid q
        clear q
        by_cases q : kids.length = 0
        · have ek : ((kids.length : Int) == 0) = true := by simp [q]
          have ekN : (kids.length == 0) = true := by simp [q]
          have qk := Lib.hid q
          clear q
          go_enter Tryd.func37, Tryd.ntmps37
          go_upto_region 1 with (fail)
          go_quiet (fail)
          go_wp2_with (go_at_call 40; refine (parent_any _ _).mono ?_; rintro e w' ⟨rfl, hw⟩; subst hw)
          go_ret
          have rn := qn.out
          have ra := qa.out
          have rk := qk.out
          exact ⟨ret_bool (by simp_all [Domy.bare, Domy.isParent]), below_drewN (below1 _ _) _⟩
        · have ek : ((kids.length : Int) == 0) = false := by rw [beq_eq_false_iff_ne]; omega
          have ekN : (kids.length == 0) = false := by rw [beq_eq_false_iff_ne]; omega
          have qk := Lib.hid q
          clear q
          go_enter Tryd.func37, Tryd.ntmps37
          go_upto_region 1 with (fail)
          go_quiet (fail)
          go_wp2_with (go_at_call 40; refine (parent_any _ _).mono ?_; rintro e w' ⟨rfl, hw⟩; subst hw)
          go_ret
          have rn := qn.out
          have ra := qa.out
          have rk := qk.out
          exact ⟨ret_bool (by simp_all [Domy.bare, Domy.isParent]), below_drewN (below1 _ _) _⟩
      · have ea : ((attrs.length : Int) == 0) = false := by rw [beq_eq_false_iff_ne]; omega
        have eaN : (attrs.length == 0) = false := by rw [beq_eq_false_iff_ne]; omega
        have qa := Lib.hid q
        clear q
        go_enter Tryd.func37, Tryd.ntmps37
        go_upto_region 1 with (fail)
        go_quiet (fail)
        go_wp2_with (go_at_call 40; refine (parent_any _ _).mono ?_; rintro e w' ⟨rfl, hw⟩; subst hw)
        go_ret
        have rn := qn.out
        have ra := qa.out
        exact ⟨ret_bool (by simp_all [Domy.bare, Domy.isParent]), below_drewN (below1 _ _) _⟩
    · have en : (byt name).toList.isEmpty = false := by rw [byt_empty]; simp [q]
      have qn := Lib.hid q
      clear q
      go_enter Tryd.func37, Tryd.ntmps37
      go_upto_region 1 with (fail)
      go_quiet (fail)
      go_wp2_with (go_at_call 40; refine (parent_any _ _).mono ?_; rintro e w' ⟨rfl, hw⟩; subst hw)
      go_ret
      have rn := qn.out
      exact ⟨ret_bool (by simp_all [Domy.bare, Domy.isParent]), below_drewN (below1 _ _) _⟩
  · by_cases q : attrs.length = 0
    · have ea : ((attrs.length : Int) == 0) = true := by simp [q]
      have eaN : (attrs.length == 0) = true := by simp [q]
      have qa := Lib.hid q
      clear q
      by_cases q : text = []
      · have et : (byt text).toList.isEmpty = true := by rw [byt_empty]; simp [q]
        have qt := Lib.hid q
        clear q
        by_cases q : kids.length = 0
        · have ek : ((kids.length : Int) == 0) = true := by simp [q]
          have ekN : (kids.length == 0) = true := by simp [q]
          have qk := Lib.hid q
          clear q
          go_enter Tryd.func37, Tryd.ntmps37
          go_upto_region 1 with (fail)
          go_quiet (fail)
          go_wp2_with (go_at_call 40; refine (parent_any _ _).mono ?_; rintro e w' ⟨rfl, hw⟩; subst hw)
          go_ret
          have ra := qa.out
          have rt := qt.out
          have rk := qk.out
          exact ⟨ret_bool (by simp_all [Domy.bare, Domy.isParent]), below_drewN (below1 _ _) _⟩
        · have ek : ((kids.length : Int) == 0) = false := by rw [beq_eq_false_iff_ne]; omega
          have ekN : (kids.length == 0) = false := by rw [beq_eq_false_iff_ne]; omega
          have qk := Lib.hid q
          clear q
          go_enter Tryd.func37, Tryd.ntmps37
          go_upto_region 1 with (fail)
          go_quiet (fail)
          go_wp2_with (go_at_call 40; refine (parent_any _ _).mono ?_; rintro e w' ⟨rfl, hw⟩; subst hw)
          go_ret
          have ra := qa.out
          have rt := qt.out
          have rk := qk.out
          exact ⟨ret_bool (by simp_all [Domy.bare, Domy.isParent]), below_drewN (below1 _ _) _⟩
      · have et : (byt text).toList.isEmpty = false := by rw [byt_empty]; simp [q]
        have qt := Lib.hid q
        clear q
        go_enter Tryd.func37, Tryd.ntmps37
        go_upto_region 1 with (fail)
        go_quiet (fail)
        go_wp2_with (go_at_call 40; refine (parent_any _ _).mono ?_; rintro e w' ⟨rfl, hw⟩; subst hw)
        go_ret
        have ra := qa.out
        have rt := qt.out
        exact ⟨ret_bool (by simp_all [Domy.bare, Domy.isParent]), below_drewN (below1 _ _) _⟩
    · have ea : ((attrs.length : Int) == 0) = false := by rw [beq_eq_false_iff_ne]; omega
      have eaN : (attrs.length == 0) = false := by rw [beq_eq_false_iff_ne]; omega
      have qa := Lib.hid q
      clear q
      go_enter Tryd.func37, Tryd.ntmps37
      go_upto_region 1 with (fail)
      go_quiet (fail)
      go_wp2_with (go_at_call 40; refine (parent_any _ _).mono ?_; rintro e w' ⟨rfl, hw⟩; subst hw)
      go_ret
      have ra := qa.out
      exact ⟨ret_bool (by simp_all [Domy.bare, Domy.isParent]), below_drewN (below1 _ _) _⟩
  · have hp : Domy.isParent kind = false := by simp_all [Domy.isParent]
    have PA : Hid (∀ w, Calls Tryd.prog 40 #[.int .i64 kind] w fun e w' => e = .returned (.bool false) ∧ w' = w) := fun w => by have := parent_any kind w; rw [hp] at this; exact this
    clear hp
    by_cases q : name = []
    · have en : (byt name).toList.isEmpty = true := by rw [byt_empty]; simp [q]
      have qn := Lib.hid q
      clear q
      by_cases q : attrs.length = 0
      · have ea : ((attrs.length : Int) == 0) = true := by simp [q]
        have eaN : (attrs.length == 0) = true := by simp [q]
        have qa := Lib.hid q
        clear q
        by_cases q : text = []
        · have et : (byt text).toList.isEmpty = true := by rw [byt_empty]; simp [q]
          have qt := Lib.hid q
          clear q
          by_cases q : kids.length = 0
          · have ek : ((kids.length : Int) == 0) = true := by simp [q]
            have ekN : (kids.length == 0) = true := by simp [q]
            have qk := Lib.hid q
            clear q
            go_enter Tryd.func37, Tryd.ntmps37
            go_upto_region 1 with (fail)
            go_quiet (fail)
            go_wp2_with (go_at_call 40; refine (PA.out _).mono ?_; rintro e w' ⟨rfl, hw⟩; subst hw)
            go_ret
            have rn := qn.out
            have ra := qa.out
            have rt := qt.out
            have rk := qk.out
            exact ⟨ret_bool (by simp_all [Domy.bare, Domy.isParent]), below_drewN (below1 _ _) _⟩
          · have ek : ((kids.length : Int) == 0) = false := by rw [beq_eq_false_iff_ne]; omega
            have ekN : (kids.length == 0) = false := by rw [beq_eq_false_iff_ne]; omega
            have qk := Lib.hid q
            clear q
            go_enter Tryd.func37, Tryd.ntmps37
            go_upto_region 1 with (fail)
            go_quiet (fail)
            go_wp2_with (go_at_call 40; refine (PA.out _).mono ?_; rintro e w' ⟨rfl, hw⟩; subst hw)
            go_ret
            have rn := qn.out
            have ra := qa.out
            have rt := qt.out
            have rk := qk.out
            exact ⟨ret_bool (by simp_all [Domy.bare, Domy.isParent]), below_drewN (below1 _ _) _⟩
        · have et : (byt text).toList.isEmpty = false := by rw [byt_empty]; simp [q]
          have qt := Lib.hid q
          clear q
          go_enter Tryd.func37, Tryd.ntmps37
          go_upto_region 1 with (fail)
          go_quiet (fail)
          go_wp2_with (go_at_call 40; refine (PA.out _).mono ?_; rintro e w' ⟨rfl, hw⟩; subst hw)
          go_ret
          have rn := qn.out
          have ra := qa.out
          have rt := qt.out
          exact ⟨ret_bool (by simp_all [Domy.bare, Domy.isParent]), below_drewN (below1 _ _) _⟩
      · have ea : ((attrs.length : Int) == 0) = false := by rw [beq_eq_false_iff_ne]; omega
        have eaN : (attrs.length == 0) = false := by rw [beq_eq_false_iff_ne]; omega
        have qa := Lib.hid q
        clear q
        go_enter Tryd.func37, Tryd.ntmps37
        go_upto_region 1 with (fail)
        go_quiet (fail)
        go_wp2_with (go_at_call 40; refine (PA.out _).mono ?_; rintro e w' ⟨rfl, hw⟩; subst hw)
        go_ret
        have rn := qn.out
        have ra := qa.out
        exact ⟨ret_bool (by simp_all [Domy.bare, Domy.isParent]), below_drewN (below1 _ _) _⟩
    · have en : (byt name).toList.isEmpty = false := by rw [byt_empty]; simp [q]
      have qn := Lib.hid q
      clear q
      go_enter Tryd.func37, Tryd.ntmps37
      go_upto_region 1 with (fail)
      go_quiet (fail)
      go_wp2_with (go_at_call 40; refine (PA.out _).mono ?_; rintro e w' ⟨rfl, hw⟩; subst hw)
      go_ret
      have rn := qn.out
      exact ⟨ret_bool (by simp_all [Domy.bare, Domy.isParent]), below_drewN (below1 _ _) _⟩
end Go.Proofs.YtdommcjlpibpeaaDoor

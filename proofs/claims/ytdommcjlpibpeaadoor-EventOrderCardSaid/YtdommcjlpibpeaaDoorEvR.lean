/-
  The order in which an event is heard, plain. Conditions: none.
-/
import Derived.Test.YtdommcjlpibpeaaDoorEvQ
import Derived.Test.YtdommcjlpibpeaaDoorGen
namespace Evy
open Domy Go.Proofs.YtdommcjlpibpeaaDoor
set_option linter.unusedSimpArgs false
set_option linter.unusedVariables false

/-- where on the path. -/
def on (p : List Int) (n : Int) : Int := idx (fun x => decide (x = n)) p
def who (l : List Lis) (w : Hrd) : Int := idx (fun x => decide (x.id = w.lis)) l
/-- its place on the whole way. -/
def place (l : List Lis) (p : List Int) (w : Hrd) : Int := match l[(who l w).toNat]? with
  | some x => if x.capture then on p w.node else 2 * (p.length : Int) - 1 - on p w.node
  | none => 0
/-- one hearing, looked at by itself. -/
structure Good (l : List Lis) (e : Ev) (p : List Int) (w : Hrd) : Prop where
  k : 0 ≤ who l w
  x : ∃ x, l[(who l w).toNat]? = some x ∧ x.node = w.node ∧ x.typ = e.typ ∧ (x.capture = false → on p w.node < (p.length : Int) - 1 → e.bubbles = true)
  at_ : 0 ≤ on p w.node ∧ on p w.node < p.length
  ph : decide (w.phase = 2) = decide (on p w.node = (p.length : Int) - 1)
structure StepOk (p : List Int) (b : Bool) (s : Stp) : Prop where
  at_ : 0 ≤ on p s.node ∧ on p s.node < p.length
  ph : decide (s.phase = 2) = decide (on p s.node = (p.length : Int) - 1)
  up : s.down = false → on p s.node < (p.length : Int) - 1 → b = true
/-- the place of a step. -/
def pl (p : List Int) (s : Stp) : Int := if s.down then on p s.node else 2 * (p.length : Int) - 1 - on p s.node
theorem on_at {p : List Int} (hi : ∀ (i j : Nat) (x : Int), p[i]? = some x → p[j]? = some x → i = j) {i : Nat} {x : Int} (h : p[i]? = some x) : on p x = i :=
  idx_hit _ p i x h (by simp) (fun j y hj hy => by
    rw [decide_eq_false_iff_not]
    rintro rfl
    have := hi i j _ h hy
    omega)
theorem phase_two {k L : Nat} {o : Int} (ho : o ≠ 2) : decide (phase L k o = 2) = decide (k = L) := by
  unfold phase
  by_cases h : k = L
  · simp [h]
  · rw [if_neg h]; simp [h, ho]
theorem downs_ok {p : List Int} {b : Bool} (hi : ∀ (i j : Nat) (x : Int), p[i]? = some x → p[j]? = some x → i = j) : ∀ (q : List Int) (k : Nat), (∀ j : Nat, q[j]? = p[k + j]?) →
    (downs (p.length - 1) k q).Pairwise (fun s t => pl p s < pl p t) ∧ ∀ s ∈ downs (p.length - 1) k q, StepOk p b s ∧ (k : Int) ≤ pl p s ∧ pl p s < p.length
  | [], _, _ => by simp [downs]
  | n :: q, k, h => by
    have h0 : p[k]? = some n := by have := h 0; simpa using this.symm
    have hk := (List.getElem?_eq_some_iff.1 h0).1
    have hon := on_at hi h0
    have ih := downs_ok (b := b) hi q (k + 1) (fun j => by have := h (j + 1); rw [List.getElem?_cons_succ] at this; rw [this]; congr 1; omega)
    rw [downs]
    refine ⟨List.pairwise_cons.2 ⟨fun t ht => ?_, ih.1⟩, fun s hs => ?_⟩
    · have := (ih.2 t ht).2.1
      show (if true = true then on p n else _) < _
      rw [if_pos rfl, hon]; omega
    · rcases List.mem_cons.1 hs with rfl | hs
      · refine ⟨⟨by rw [hon]; omega, ?_, fun h => by simp at h⟩, ?_⟩
        · rw [phase_two (by decide)]; show decide _ = decide (on p n = _); rw [hon]; apply decide_eq_decide.2; omega
        · show (k : Int) ≤ (if true = true then on p n else _) ∧ (if true = true then on p n else _) < _
          rw [if_pos rfl, hon]; omega
      · have := ih.2 s hs
        exact ⟨this.1, by omega, this.2.2⟩
theorem ups_ok {p : List Int} {b : Bool} (hi : ∀ (i j : Nat) (x : Int), p[i]? = some x → p[j]? = some x → i = j) : ∀ k : Nat, k < p.length →
    (ups p (p.length - 1) b k).Pairwise (fun s t => pl p s < pl p t) ∧ ∀ s ∈ ups p (p.length - 1) b k, StepOk p b s ∧ 2 * (p.length : Int) - 1 - k ≤ pl p s
  | 0, hk => by
    obtain ⟨n, hn⟩ : ∃ n, p[0]? = some n := ⟨_, List.getElem?_eq_getElem hk⟩
    have hon := on_at hi hn
    have hg : p.getD 0 0 = n := by simp [List.getD, hn]
    rw [ups]
    split
    · next hb =>
      refine ⟨List.pairwise_singleton .., fun s hs => ?_⟩
      rw [List.mem_singleton] at hs
      subst hs
      rw [hg]
      refine ⟨⟨by show 0 ≤ on p n ∧ on p n < _; rw [hon]; omega, ?_, fun _ h => ?_⟩, ?_⟩
      · rw [phase_two (by decide)]; show decide _ = decide (on p n = _); rw [hon]; apply decide_eq_decide.2; omega
      · have h : on p n < _ := h
        rw [hon] at h
        rw [Bool.or_eq_true] at hb
        rcases hb with hb | hb
        · exact hb
        · simp at hb; omega
      · show _ ≤ (if false = true then on p n else _)
        rw [if_neg (by simp)]
        show _ ≤ 2 * (p.length : Int) - 1 - on p n
        rw [hon]; omega
    · simp
  | k + 1, hk => by
    obtain ⟨n, hn⟩ : ∃ n, p[k + 1]? = some n := ⟨_, List.getElem?_eq_getElem hk⟩
    have hon := on_at hi hn
    have hg : p.getD (k + 1) 0 = n := by simp [List.getD, hn]
    have ih := ups_ok (b := b) hi k (by omega)
    rw [ups]
    split
    · next hb =>
      have hpl : pl p ⟨p.getD (k + 1) 0, phase (p.length - 1) (k + 1) 3, false⟩ = 2 * (p.length : Int) - 1 - (k + 1) := by
        show (if false = true then _ else 2 * (p.length : Int) - 1 - on p (p.getD (k + 1) 0)) = _
        rw [if_neg (by simp), hg, hon]; rfl
      refine ⟨List.pairwise_cons.2 ⟨fun t ht => ?_, ih.1⟩, fun s hs => ?_⟩
      · have := (ih.2 t ht).2
        rw [hpl]; omega
      · rcases List.mem_cons.1 hs with rfl | hs
        · refine ⟨⟨?_, ?_, fun _ h => ?_⟩, ?_⟩
          · show 0 ≤ on p (p.getD (k + 1) 0) ∧ on p (p.getD (k + 1) 0) < _; rw [hg, hon]; omega
          · rw [phase_two (by decide)]; show decide _ = decide (on p (p.getD (k + 1) 0) = _); rw [hg, hon]; apply decide_eq_decide.2; omega
          · have h : on p (p.getD (k + 1) 0) < _ := h
            rw [hg, hon] at h
            rw [Bool.or_eq_true] at hb
            rcases hb with hb | hb
            · exact hb
            · simp at hb; omega
          · rw [hpl]; omega
        · have := ih.2 s hs
          exact ⟨this.1, by omega⟩
    · simp
theorem steps_ok {p : List Int} {b : Bool} (h0 : 0 < p.length) (hi : ∀ (i j : Nat) (x : Int), p[i]? = some x → p[j]? = some x → i = j) :
    (steps p b).Pairwise (fun s t => pl p s < pl p t) ∧ ∀ s ∈ steps p b, StepOk p b s := by
  have hd := downs_ok (b := b) hi p 0 (fun j => by rw [Nat.zero_add])
  have hu := ups_ok (b := b) hi (p.length - 1) (by omega)
  unfold steps
  rw [if_neg (by intro e; rw [e] at h0; simp at h0)]
  refine ⟨List.pairwise_append.2 ⟨hd.1, hu.1, fun s hs t ht => ?_⟩, fun s hs => ?_⟩
  · have h1 := (hd.2 s hs).2.2
    have h2 := (hu.2 t ht).2
    omega
  · rcases List.mem_append.1 hs with hs | hs
    · exact (hd.2 s hs).1
    · exact (hu.2 s hs).1
theorem who_is {l : List Lis} (hi : (l.map (·.id)).Nodup) {x : Lis} (hx : x ∈ l) {w : Hrd} (hw : w.lis = x.id) : 0 ≤ who l w ∧ l[(who l w).toNat]? = some x := by
  obtain ⟨k, hk⟩ := List.getElem?_of_mem hx
  have : who l w = k := idx_hit _ l k x hk (by simp [hw]) (fun j y hj hy => by
    rw [decide_eq_false_iff_not]
    intro he
    have hl := (List.getElem?_eq_some_iff.1 hk).1
    have h1 : (l.map (·.id))[j]? = some x.id := by rw [List.getElem?_map, hy]; simp [he, hw]
    have h2 : (l.map (·.id))[k]? = some x.id := by rw [List.getElem?_map, hk]; rfl
    have := (List.getElem?_inj (i := j) (j := k) (by simp; omega) hi).1 (h1.trans h2.symm)
    omega)
  rw [this]
  exact ⟨by omega, by simpa using hk⟩
/-- all that would be heard, if nobody stopped it: each looked at by itself, and two of them beside each other. -/
theorem full_ok {l : List Lis} {e : Ev} {p : List Int} (hids : (l.map (·.id)).Nodup) (h0 : 0 < p.length) (hi : ∀ (i j : Nat) (x : Int), p[i]? = some x → p[j]? = some x → i = j) :
    (∀ w ∈ full e l (steps p e.bubbles), Good l e p w) ∧ (full e l (steps p e.bubbles)).Pairwise (fun v w => v.lis ≠ w.lis ∧ place l p v ≤ place l p w) := by
  have hs := steps_ok (b := e.bubbles) h0 hi
  have hp : ∀ a x, x ∈ l → mat e a x = true → place l p (told a x) = pl p a := by
    intro a x hx hm
    have hw := who_is hids hx (w := told a x) rfl
    simp only [mat, Bool.and_eq_true, decide_eq_true_eq, beq_iff_eq] at hm
    unfold place
    rw [hw.2]
    show (if x.capture = true then on p a.node else _ - on p a.node) = _
    rw [hm.2]; rfl
  constructor
  · intro w hw
    unfold full at hw
    rw [List.mem_flatMap] at hw
    obtain ⟨a, ha, hw⟩ := hw
    obtain ⟨x, hx, rfl⟩ := List.mem_map.1 hw
    rw [List.mem_filter] at hx
    have hm := hx.2
    simp only [mat, Bool.and_eq_true, decide_eq_true_eq, beq_iff_eq] at hm
    have hw := who_is hids hx.1 (w := told a x) rfl
    have hso := hs.2 a ha
    exact ⟨hw.1, ⟨x, hw.2, hm.1.1, hm.1.2, fun hc hlt => hso.up (by rw [← hm.2]; exact hc) hlt⟩, hso.at_, hso.ph⟩
  · unfold full
    rw [List.pairwise_flatMap]
    constructor
    · intro a ha
      rw [List.pairwise_map]
      have : (l.filter (mat e a)).Pairwise (fun x y => x.id ≠ y.id) := by
        have h1 : l.Pairwise (fun x y => x.id ≠ y.id) := by
          unfold List.Nodup at hids
          rw [List.pairwise_map] at hids
          exact hids
        exact h1.sublist List.filter_sublist
      rw [List.pairwise_iff_forall_sublist] at this ⊢
      intro x y hxy
      have hxm := List.mem_filter.1 (hxy.mem (List.mem_cons_self ..))
      have hym := List.mem_filter.1 (hxy.mem (List.mem_cons_of_mem _ (List.mem_cons_self ..)))
      refine ⟨this hxy, ?_⟩
      rw [hp a x hxm.1 hxm.2, hp a y hym.1 hym.2]; exact Int.le_refl _
    · refine hs.1.imp_of_mem ?_
      intro a c ha hc hlt v hv w hw
      obtain ⟨x, hx, rfl⟩ := List.mem_map.1 hv
      obtain ⟨y, hy, rfl⟩ := List.mem_map.1 hw
      rw [List.mem_filter] at hx hy
      have hpx := hp a x hx.1 hx.2
      have hpy := hp c y hy.1 hy.2
      refine ⟨fun he => ?_, by rw [hpx, hpy]; omega⟩
      have := ids_eq hids hx.1 hy.1 he
      subst this
      have hm1 := hx.2
      have hm2 := hy.2
      simp only [mat, Bool.and_eq_true, decide_eq_true_eq, beq_iff_eq] at hm1 hm2
      unfold pl at hlt
      rw [← hm1.2, ← hm2.2, ← hm1.1.1, ← hm2.1.1] at hlt
      omega
theorem idx_map {α β : Type} (f : α → β) (q : β → Bool) : ∀ l : List α, idx q (l.map f) = idx (fun x => q (f x)) l
  | [] => rfl
  | x :: l => by rw [List.map_cons, idx, idx, idx_map f q l]
theorem good_free {l : List Lis} {e : Ev} {p : List Int} {w : Hrd} (h : Good (l.map free) e p w) : Good l e p w ∧ place (l.map free) p w = place l p w := by
  have hw : who (l.map free) w = who l w := by unfold who; rw [idx_map]; rfl
  obtain ⟨h1, ⟨x, h2, h3⟩, h4, h5⟩ := h
  rw [hw] at h1 h2
  rw [List.getElem?_map] at h2
  cases hx : l[(who l w).toNat]? with
  | none => rw [hx] at h2; simp at h2
  | some y =>
    rw [hx, Option.map_some] at h2
    injection h2 with h2
    subst h2
    refine ⟨⟨h1, ⟨y, hx, h3⟩, h4, h5⟩, ?_⟩
    unfold place
    rw [hw, List.getElem?_map, hx]
    rfl
/-- what was heard: each looked at by itself, and two of them beside each other. -/
theorem sent_ok {d : List Node} {l : List Lis} {e : Ev} {p : List Int} (h : asked d l e = (p, 0)) :
    (∀ w ∈ (sent d l e).heard, Good l e p w) ∧ (sent d l e).heard.Pairwise (fun v w => v.lis ≠ w.lis ∧ place l p v ≤ place l p w) := by
  have ha := ask_of h
  have hpre := stopped d l e
  rw [sent_full (free_calm l), asked_free, h] at hpre
  have hf := full_ok (l := l.map free) (e := e) (p := p) (by rw [List.map_map]; exact ha.ids) ha.pa.pos (fun i j x => ha.pa.inj)
  have hg : ∀ w ∈ (sent d l e).heard, Good l e p w ∧ place (l.map free) p w = place l p w := fun w hw => good_free (hf.1 w (hpre.subset hw))
  refine ⟨fun w hw => (hg w hw).1, ?_⟩
  refine (hf.2.sublist hpre.sublist).imp_of_mem ?_
  intro v w hv hw hvw
  rw [(hg v hv).2, (hg w hw).2] at hvw
  exact hvw
end Evy

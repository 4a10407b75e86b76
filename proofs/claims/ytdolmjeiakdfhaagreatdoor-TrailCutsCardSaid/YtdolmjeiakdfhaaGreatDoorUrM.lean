/-
  The plain laws of addresses: resolved again, written and parsed, dots, here. Conditions: none.
-/
import Derived.Test.YtdolmjeiakdfhaaGreatDoorUrK
namespace Urly
set_option linter.unusedSimpArgs false
set_option linter.unusedVariables false
theorem resolve_form {base ref s : Bs} (e : resolve base ref = .ok s) : ∃ b u, parse base = .ok b ∧ resolveU base ref = .ok u ∧ Good u ∧ s = text u ∧ s.length ≤ 500 ∧ parse s = .ok u := by
  unfold resolve at e
  cases hr : resolveU base ref with
  | error k => rw [hr] at e; cases e
  | ok u =>
    rw [hr] at e
    simp only at e
    split at e
    · cases e
    · rename_i hl
      injection e with e
      subst e
      cases hb : parse base with
      | error k => unfold resolveU at hr; rw [hb] at hr; cases hr
      | ok b =>
        have hg : Good u := by
          unfold resolveU at hr
          rw [hb] at hr
          simp only at hr
          split at hr
          · cases hr
          · split at hr
            · exact (parse_good hr).1
            · split at hr
              · exact (parse_good hr).1
              · exact (beside_good (parse_good hb).1 hr).1
        exact ⟨b, u, rfl, rfl, hg, rfl, by omega, parse_text hg (by omega)⟩
theorem resolve_self {x : Bs} {b u : U} (hb : parse x = .ok b) (hg : Good u) (hl : (text u).length ≤ 500) : resolve x (text u) = .ok (text u) := by
  unfold resolve resolveU
  rw [hb]
  simp only [scheme_text hg, Option.isSome_some, if_true, parse_text hg hl]
  rw [if_neg (by omega)]
  simp only
  rw [if_neg (by omega)]
theorem resolve_fail {x r : Bs} {k : Nat} (hb : parse x = .error k) : resolve x r = .error k := by
  unfold resolve resolveU
  rw [hb]
/-- UrlAgain. -/
theorem again_law {base ref s : Bs} (e : resolve base ref = .ok s) : resolve base s = .ok s ∧ ∀ other t, resolve other s = .ok t → t = s := by
  obtain ⟨b, u, hb, hu, hg, rfl, hl, hp⟩ := resolve_form e
  refine ⟨resolve_self hb hg hl, fun other t h => ?_⟩
  cases ho : parse other with
  | error k => rw [resolve_fail ho] at h; cases h
  | ok b2 => rw [resolve_self ho hg hl] at h; injection h with h; exact h.symm
/-- UrlBack. -/
theorem back_law {s : Bs} {u : U} (e : parse s = .ok u) : (500 < (text u).length → check u = 2 ∧ write u = .error 2) ∧ ((text u).length ≤ 500 → check u = 0 ∧ write u = .ok (text u) ∧ parse (text u) = .ok u) := by
  refine ⟨fun h => ?_, fun h => ?_⟩
  · have : check u = 2 := by unfold check; rw [if_pos h]
    exact ⟨this, by unfold write; rw [this]; rfl⟩
  · have hp := parse_text (parse_good e).1 h
    have : check u = 0 := by unfold check; rw [if_neg (by omega), hp]; simp
    exact ⟨this, by unfold write; rw [this]; rfl, hp⟩
/-- UrlDots. -/
theorem dots_law {base ref s : Bs} (e : resolve base ref = .ok s) : ∃ u, parse s = .ok u ∧ u.path ≠ [] ∧ [46] ∉ u.path ∧ [46, 46] ∉ u.path := by
  obtain ⟨b, u, hb, hu, hg, rfl, hl, hp⟩ := resolve_form e
  exact ⟨u, hp, hg.pth, fun h => (hg.nod _ h).1 rfl, fun h => (hg.nod _ h).2 rfl⟩
theorem takeWhile_cut {α : Type} (p : α → Bool) {x : α} (b : List α) (hx : p x = false) : ∀ a : List α, (a ++ x :: b).takeWhile p = a.takeWhile p ∧ (a ++ x :: b).dropWhile p = a.dropWhile p ++ x :: b
  | [] => by simp [hx]
  | y :: a => by
    have ih := takeWhile_cut p b hx a
    cases hy : p y <;> simp [hy, ih.1, ih.2]
theorem mem_dropWhile {α : Type} (p : α → Bool) {x : α} : ∀ {a : List α}, x ∈ a.dropWhile p → x ∈ a
  | [], h => by simp at h
  | y :: a, h => by
    rw [List.dropWhile_cons] at h
    split at h
    · exact List.mem_cons_of_mem _ (mem_dropWhile p h)
    · exact h
def bareU (u : U) : U := { u with fragment := [], points := false }
theorem tail_hash {d : Bs} (f : Bs) (h : 35 ∉ d) : tail (d ++ 35 :: f) = { tail d with fragment := clean f, points := true } ∧ (tail d).fragment = some [] ∧ (tail d).points = false := by
  have e2 : tail d = { path := (cut 63 d).1, query := clean (cut 63 d).2.1, asks := (cut 63 d).2.2, fragment := clean [], points := false } := by
    unfold tail
    rw [cut_no h]
  have e1 : tail (d ++ 35 :: f) = { path := (cut 63 d).1, query := clean (cut 63 d).2.1, asks := (cut 63 d).2.2, fragment := clean f, points := true } := by
    unfold tail
    rw [cut_yes f h]
  rw [e1, e2]
  exact ⟨rfl, rfl, rfl⟩
theorem no_hash (u : Bs) (h : 35 ∉ u) : (tail u).points = false ∧ (tail u).fragment = some [] := by
  unfold tail
  rw [cut_no h]
  exact ⟨rfl, rfl⟩
theorem scheme_cut {a f sch rest : Bs} (ha : 35 ∉ a) (h : scheme (a ++ 35 :: f) = some (sch, rest)) : ∃ a', rest = a' ++ 35 :: f ∧ 35 ∉ a' ∧ scheme a = some (sch, a') := by
  obtain ⟨c, t, e, hc, ht, rfl⟩ := scheme_form h
  have hct : ∀ x ∈ c :: t, sc x = true := by
    intro x hx
    rcases List.mem_cons.1 hx with rfl | hx
    · exact ((lower_sc x).2.2.2.2.1 hc).1
    · exact ht x hx
  rcases List.append_eq_append_iff.1 e with ⟨z, h1, h2⟩ | ⟨z, h1, h2⟩
  · cases z with
    | nil => simp at h2
    | cons y z =>
      rw [List.cons_append] at h2
      injection h2 with h2 h3
      exfalso
      have := (lower_sc y).2.2.2.2.2 (hct y (by rw [h1]; simp))
      exact this.2.1 h2.symm
  · cases z with
    | nil => simp at h2
    | cons y z =>
      rw [List.cons_append] at h2
      injection h2 with h2 h3
      subst h2
      refine ⟨z, h3, fun hz => ha (by rw [h1]; simp [hz]), ?_⟩
      rw [h1]
      exact scheme_run z hc ht
theorem two_cut {a f rest : Bs} (h : twoOff (a ++ 35 :: f) = some rest) : ∃ a', rest = a' ++ 35 :: f ∧ twoOff a = some a' ∧ ∀ x, x ∉ a → x ∉ a' := by
  match a with
  | [] => cases f <;> simp [twoOff] at h
  | [x] => simp [twoOff] at h
  | x :: y :: a =>
    simp only [List.cons_append, twoOff] at h ⊢
    split at h
    · rename_i hxy
      injection h with h
      exact ⟨a, h.symm, by rw [if_pos hxy], fun z hz hm => hz (by simp [hm])⟩
    · cases h
theorem parse_front {base : Bs} {b : U} (e : parse base = .ok b) : parse (cut 35 base).1 = .ok (bareU b) ∧ (cut 35 base).1.length ≤ 500 ∧ (scheme (cut 35 base).1).isSome = true := by
  unfold parse at e
  split at e
  · cases e
  · rename_i hlen
    split at e
    · cases e
    · rename_i sch rest hsch
      split at e
      · cases e
      · rename_i rest' htwo
        split at e
        · cases e
        · rename_i h p hpl
          simp only at e
          split at e
          · rename_i q f l hq hf hl
            injection e with e
            subst e
            rcases cut_form 35 base with ⟨hc, hno⟩ | ⟨a, g, rfl, hno, hc⟩
            · rw [hc]
              refine ⟨?_, by simp only; omega, by simp only; rw [hsch]; rfl⟩
              have hr' : 35 ∉ rest'.dropWhile (fun c => !ends c) := by
                intro hm
                have h1 := mem_dropWhile _ hm
                obtain ⟨c, t, e1, _⟩ := scheme_form hsch
                apply hno
                rw [e1]
                unfold twoOff at htwo
                split at htwo
                · split at htwo
                  · injection htwo with htwo
                    subst htwo
                    simp [h1]
                  · cases htwo
                · cases htwo
              have hz := no_hash _ hr'
              unfold parse
              simp only
              rw [if_neg hlen, hsch]
              simp only [htwo, hpl, hq, hf, hl]
              rw [hz.2] at hf
              injection hf with hf
              subst hf
              unfold bareU
              rw [hz.1]
            · rw [hc]
              simp only
              obtain ⟨a1, r1, n1, s1⟩ := scheme_cut hno hsch
              subst r1
              obtain ⟨a2, r2, s2, n2⟩ := two_cut htwo
              subst r2
              have n2' := n2 35 n1
              obtain ⟨w1, w2⟩ := takeWhile_cut (fun c => !ends c) g (show (!ends 35) = false by decide) a2
              rw [w1] at hpl
              rw [w2] at hq hf hl
              have hd : 35 ∉ a2.dropWhile (fun c => !ends c) := fun hm => n2' (mem_dropWhile _ hm)
              obtain ⟨t1, t2, t3⟩ := tail_hash g hd
              rw [t1] at hq hf hl
              simp only at hq hf hl
              refine ⟨?_, by simp at hlen; omega, by rw [s1]; rfl⟩
              unfold parse
              rw [if_neg (by simp at hlen; omega), s1]
              simp only [s2, hpl, hq, hl, t2]
              unfold bareU
              simp only [w2, t1, t3]
          · cases e
theorem here_empty {base : Bs} {b : U} (hb : parse base = .ok b) : resolveU base [] = .ok (bareU b) := by
  unfold resolveU
  rw [hb]
  have h1 : (scheme ([] : Bs)).isSome = false := rfl
  have h2 : (twoOff ([] : Bs)).isSome = false := rfl
  simp only [List.length_nil, h1, h2]
  rw [if_neg (by omega)]
  simp only [Bool.false_eq_true, if_false]
  have ht : tail [] = ⟨[], some [], false, some [], false⟩ := rfl
  have hs : segments (bare ([] : Bs)) = some [[]] := rfl
  unfold beside
  simp only [ht, hs]
  simp [bareU]
/-- UrlHere: an empty text. -/
theorem here_law {base here : Bs} {b : U} (hb : parse base = .ok b) (e : resolve base [] = .ok here) : resolve (cut 35 base).1 (cut 35 base).1 = .ok here := by
  obtain ⟨f1, f2, f3⟩ := parse_front hb
  unfold resolve at e ⊢
  rw [here_empty hb] at e
  have : resolveU (cut 35 base).1 (cut 35 base).1 = .ok (bareU b) := by
    unfold resolveU
    rw [f1]
    simp only
    rw [if_neg (by omega), if_pos f3]
  rw [this]
  exact e
/-- UrlHere: what tells no scheme and no host. -/
theorem stay_law {base ref s : Bs} {b : U} (hb : parse base = .ok b) (e : resolve base ref = .ok s) (h58 : 58 ∉ ref) (h2 : twoOff ref = none) : originOf s = .ok (origin b) ∧ ∃ r, s = origin b ++ 47 :: r := by
  obtain ⟨b2, u, hb2, hu, hg, rfl, hl, hp⟩ := resolve_form e
  unfold resolveU at hu
  rw [hb] at hu
  simp only at hu
  have hs : scheme ref = none := by
    cases hr : scheme ref with
    | none => rfl
    | some x =>
      obtain ⟨y, z⟩ := x
      obtain ⟨c, t, e1, _⟩ := scheme_form hr
      exact absurd (by rw [e1]; simp) h58
  rw [hs, h2] at hu
  split at hu
  · cases hu
  · simp only [Option.isSome_none, Bool.false_eq_true, if_false] at hu
    obtain ⟨_, g1, g2, g3⟩ := beside_good (parse_good hb).1 hu
    have ho : origin u = origin b := by rw [origin_eq, origin_eq]; unfold origin'; rw [g1, g2, g3]
    refine ⟨by unfold originOf; rw [hp]; simp only [ho], ?_⟩
    obtain ⟨r, er, _⟩ := path_first hg.pth
    refine ⟨r ++ (if u.asks then 63 :: u.query else []) ++ (if u.points then 35 :: u.fragment else []), ?_⟩
    rw [text_eq, ← origin_eq, ho]
    unfold tailText
    rw [er]
    simp
theorem origin_fail {base : Bs} {k : Nat} (h : parse base = .error k) : originOf base = .error k := by unfold originOf; rw [h]
theorem origin_ok {base : Bs} {b : U} (h : parse base = .ok b) : originOf base = .ok (origin b) := by unfold originOf; rw [h]
end Urly

/-
  The laws of sending, plain. Conditions: none.
-/
import Derived.Test.YtdommcjlpibpeaaDoorEvP
namespace Evy
open Domy
set_option linter.unusedSimpArgs false
set_option linter.unusedVariables false

def mat (e : Ev) (a : Stp) (x : Lis) : Bool := decide (x.node = a.node) && decide (x.typ = e.typ) && (x.capture == a.down)
def told (a : Stp) (x : Lis) : Hrd := ⟨x.id, a.node, a.phase⟩
/-- what is heard where nobody stops it. -/
def full (e : Ev) (l : List Lis) (ss : List Stp) : List Hrd := ss.flatMap fun a => (l.filter (mat e a)).map (told a)
def Calm (l : List Lis) : Prop := ∀ x ∈ l, x.stops = false ∧ x.all = false
def free (x : Lis) : Lis := ⟨x.id, x.node, x.typ, x.capture, x.once, false, false, x.prevents⟩
def heardBy (h : List Hrd) (y : Lis) : Bool := h.any fun w => decide (w.lis = y.id)
theorem hears_mat (e : Ev) (s : St) (x : Lis) (a : Stp) : hears e s x a = (!s.all && mat e a x) := by
  unfold hears mat; simp [Bool.and_assoc]
theorem hear_heard (e : Ev) (s : St) (x : Lis) (a : Stp) : (hear e s x a).heard = s.heard ++ [told a x] := rfl
/-- whatever one more hearing keeps holds in the end. -/
theorem all_ind {e : Ev} {a : Stp} {P : St → Prop} : ∀ (l : List Lis) (s : St), (∀ s x, x ∈ l → mat e a x = true → P s → P (hear e s x a)) → P s → P (doAll e l s a)
  | [], s, _, h => h
  | x :: l, s, hp, h => by
    unfold doAll
    rw [List.foldl_cons]
    refine all_ind l _ (fun s y hy => hp s y (List.mem_cons_of_mem _ hy)) ?_
    unfold doOne
    rw [hears_mat]
    split
    · next hm => exact hp s x (List.mem_cons_self ..) (by simp at hm; exact hm.2) h
    · exact h
theorem goes_ind {e : Ev} {l : List Lis} {P : St → Prop} : ∀ (ss : List Stp) (s : St), (∀ s x a, x ∈ l → a ∈ ss → mat e a x = true → P s → P (hear e s x a)) → P s → P (ss.foldl (goes e l) s)
  | [], s, _, h => h
  | a :: ss, s, hp, h => by
    rw [List.foldl_cons]
    refine goes_ind ss _ (fun s x b hx hb => hp s x b hx (List.mem_cons_of_mem _ hb)) ?_
    unfold goes
    split
    · exact all_ind l s (fun s x hx => hp s x a hx (List.mem_cons_self ..)) h
    · exact h
theorem sent_ind {d : List Node} {l : List Lis} {e : Ev} {P : St → Prop} (h0 : P st0) (h : ∀ s x a, x ∈ l → a ∈ steps (asked d l e).1 e.bubbles → mat e a x = true → P s → P (hear e s x a)) : P (sent d l e) :=
  goes_ind _ _ h h0
theorem doOne_mat (e : Ev) (a : Stp) (s : St) (x : Lis) : doOne e a s x = if (!s.all && mat e a x) = true then hear e s x a else s := by unfold doOne; rw [hears_mat]
theorem all_calm {e : Ev} {a : Stp} : ∀ (l : List Lis) (s : St), Calm l → s.all = false → (doAll e l s a).heard = s.heard ++ (l.filter (mat e a)).map (told a) ∧ (doAll e l s a).stops = s.stops ∧ (doAll e l s a).all = false
  | [], s, _, h => ⟨by simp [doAll], rfl, h⟩
  | x :: l, s, hc, h => by
    have hx := hc x (List.mem_cons_self ..)
    have hl : Calm l := fun y hy => hc y (List.mem_cons_of_mem _ hy)
    unfold doAll
    rw [List.foldl_cons, doOne_mat, h]
    cases hm : mat e a x with
    | false =>
      have := all_calm (e := e) (a := a) l s hl h
      unfold doAll at this
      simpa [hm] using this
    | true =>
      have := all_calm (e := e) (a := a) l (hear e s x a) hl (by simp [hear, hx, h])
      unfold doAll at this
      simp only [Bool.not_false, Bool.and_self, if_true]
      refine ⟨?_, ?_, this.2.2⟩
      · rw [this.1, hear_heard, List.filter_cons, if_pos hm]; simp
      · rw [this.2.1]; simp [hear, hx]
theorem sent_calm {e : Ev} {l : List Lis} (hc : Calm l) : ∀ (ss : List Stp) (s : St), s.stops = false → s.all = false → (ss.foldl (goes e l) s).heard = s.heard ++ full e l ss
  | [], s, _, _ => by simp [full]
  | a :: ss, s, h1, h2 => by
    have h3 := all_calm (e := e) (a := a) l s hc h2
    rw [List.foldl_cons, show goes e l s a = doAll e l s a by unfold goes; simp [h1, h2]]
    rw [sent_calm hc ss (doAll e l s a) (by rw [h3.2.1]; exact h1) h3.2.2, h3.1]
    simp [full]
/-- what stops it, beside what does not. -/
structure Inv (s t : St) : Prop where
  st : t.stops = false
  al : t.all = false
  pre : s.heard <+: t.heard
theorem all_pre {e : Ev} {a : Stp} : ∀ (l : List Lis) (s t : St), Inv s t → (s.all = false → s.heard = t.heard) →
    Inv (doAll e l s a) (doAll e (l.map free) t a) ∧ ((doAll e l s a).all = false → (doAll e l s a).heard = (doAll e (l.map free) t a).heard)
  | [], s, t, h, h2 => ⟨h, h2⟩
  | x :: l, s, t, h, h2 => by
    unfold doAll
    rw [List.map_cons, List.foldl_cons, List.foldl_cons]
    refine all_pre l _ _ ?_ ?_
    · unfold doOne
      rw [hears_mat, hears_mat, show mat e a (free x) = mat e a x from rfl, h.al]
      cases hm : mat e a x with
      | false => simpa using h
      | true =>
        cases ha : s.all with
        | true =>
          simp only [Bool.not_true, Bool.false_and, Bool.not_false, Bool.and_self, if_true]
          refine ⟨by simp [hear, free, h.st], by simp [hear, free, h.al], ?_⟩
          rw [hear_heard]
          exact h.pre.trans (List.prefix_append _ _)
        | false =>
          simp only [Bool.not_false, Bool.and_self, if_true]
          refine ⟨by simp [hear, free, h.st], by simp [hear, free, h.al], ?_⟩
          rw [hear_heard, hear_heard, h2 ha]
          exact List.prefix_refl _
    · unfold doOne
      rw [hears_mat, hears_mat, show mat e a (free x) = mat e a x from rfl, h.al]
      cases hm : mat e a x with
      | false => simpa using h2
      | true =>
        cases ha : s.all with
        | true => simp [ha]
        | false =>
          simp only [Bool.not_false, Bool.and_self, if_true]
          intro _
          rw [hear_heard, hear_heard, h2 ha]
          rfl
theorem goes_pre {e : Ev} {l : List Lis} : ∀ (ss : List Stp) (s t : St), Inv s t → (s.all = false → s.stops = false → s.heard = t.heard) → Inv (ss.foldl (goes e l) s) (ss.foldl (goes e (l.map free)) t)
  | [], s, t, h, _ => h
  | a :: ss, s, t, h, h2 => by
    rw [List.foldl_cons, List.foldl_cons]
    have hg : goes e (l.map free) t a = doAll e (l.map free) t a := by unfold goes; simp [h.st, h.al]
    by_cases hs : s.stops = false ∧ s.all = false
    · have hgs : goes e l s a = doAll e l s a := by unfold goes; simp [hs.1, hs.2]
      have := all_pre (e := e) (a := a) l s t h (fun ha => h2 ha hs.1)
      rw [hg, hgs]
      exact goes_pre ss _ _ this.1 (fun ha _ => this.2 ha)
    · have hgs : goes e l s a = s := by
        unfold goes
        rw [if_neg]
        intro h; simp at h; exact hs h
      have ht := all_ind (e := e) (a := a) (P := fun t => Inv s t) (l.map free) t (fun t x hx _ hi => by
        obtain ⟨y, _, rfl⟩ := List.mem_map.1 hx
        exact ⟨by simp [hear, free, hi.st], by simp [hear, free, hi.al], hi.pre.trans (List.prefix_append _ _)⟩) h
      rw [hg, hgs]
      refine goes_pre ss _ _ ht (fun ha hst => absurd ⟨hst, ha⟩ hs)

theorem nodup_rev {l : List Int} : l.reverse.Nodup ↔ l.Nodup := by
  unfold List.Nodup
  rw [List.pairwise_reverse]
  constructor <;> intro h <;> exact h.imp (fun h => h.symm)
theorem twice_nodup : ∀ l : List Int, twice l = false ↔ l.Nodup
  | [] => by simp [twice]
  | n :: l => by
    rw [twice, List.nodup_cons, ← twice_nodup l, Bool.or_eq_false_iff]
    simp
/-- what may be sent is like this. -/
structure Ask (d : List Node) (l : List Lis) (e : Ev) (p : List Int) : Prop where
  pa : Pa d e.target p
  few : l.length ≤ 60
  far : l.any (Evy.far d) = false
  ids : (l.map (·.id)).Nodup
  typ : ¬ (e.typ = [] ∨ 40 < e.typ.length)
theorem ask_of {d : List Node} {l : List Lis} {e : Ev} {p : List Int} (h : asked d l e = (p, 0)) : Ask d l e p := by
  unfold asked at h
  by_cases h1 : check d = 0
  · rw [if_neg (by simp [h1])] at h
    split at h
    · simp at h
    · next h2 =>
      split at h
      · simp at h
      · next h3 =>
        split at h
        · simp at h
        · next h4 =>
          split at h
          · simp at h
          · next h5 => exact ⟨pa_of h, by omega, by simpa using h3, by rw [← nodup_rev, ← twice_nodup]; simpa using h4, h5⟩
  · rw [if_pos h1] at h
    injection h with _ h
    exact absurd h h1
theorem of_ask {d : List Node} {l m : List Lis} {e : Ev} {p : List Int} (h : asked d l e = (p, 0)) (hs : m.Sublist l) : asked d m e = (p, 0) := by
  have ha := ask_of h
  have hp : path d e.target = (p, 0) := by
    unfold asked at h
    rw [if_neg (by simp [ha.pa.chk]), if_neg (by have := ha.few; omega), if_neg (by simp [ha.far]), if_neg (by rw [(twice_nodup _).2 (by rw [nodup_rev]; exact ha.ids)]; simp), if_neg ha.typ] at h
    exact h
  have hids : (m.map (·.id)).Nodup := (hs.map (·.id)).nodup ha.ids
  have hfar : m.any (far d) = false := by
    rw [List.any_eq_false]
    intro x hx
    have := List.any_eq_false.1 ha.far x (hs.mem hx)
    exact this
  unfold asked
  rw [if_neg (by simp [ha.pa.chk]), if_neg (by have := ha.few; have := hs.length_le; omega), if_neg (by simp [hfar]), if_neg (by rw [(twice_nodup _).2 (by rw [nodup_rev]; exact hids)]; simp), if_neg ha.typ, hp]
theorem asked_free (d : List Node) (l : List Lis) (e : Ev) : asked d (l.map free) e = asked d l e := by
  unfold asked
  rw [List.length_map, List.map_map, List.any_map]
  rfl
theorem asked_path {d : List Node} {l : List Lis} {e : Ev} {p : List Int} (h : asked d l e = (p, 0)) : path d e.target = (p, 0) := by
  have ha := ask_of h
  unfold asked at h
  rw [if_neg (by simp [ha.pa.chk]), if_neg (by have := ha.few; omega), if_neg (by simp [ha.far]), if_neg (by rw [(twice_nodup _).2 (by rw [nodup_rev]; exact ha.ids)]; simp), if_neg ha.typ] at h
  exact h
theorem ids_eq {l : List Lis} (h : (l.map (·.id)).Nodup) : ∀ {x y : Lis}, x ∈ l → y ∈ l → x.id = y.id → x = y := by
  induction l with
  | nil => intro x y hx; simp at hx
  | cons z l ih =>
    rw [List.map_cons, List.nodup_cons] at h
    intro x y hx hy he
    rcases List.mem_cons.1 hx with hx2 | hx2
    · rcases List.mem_cons.1 hy with hy2 | hy2
      · rw [hx2, hy2]
      · exact absurd (List.mem_map.2 ⟨y, hy2, by rw [← he, hx2]⟩) h.1
    · rcases List.mem_cons.1 hy with hy2 | hy2
      · exact absurd (List.mem_map.2 ⟨x, hx2, by rw [he, hy2]⟩) h.1
      · exact ih h.2 hx2 hy2 he
/-- who is gone, and what prevents it. -/
structure Gone (l : List Lis) (e : Ev) (s : St) : Prop where
  gone : ∀ y ∈ l, y.id ∈ s.gone ↔ y.once = true ∧ heardBy s.heard y = true
  no : s.no = true ↔ e.cancels = true ∧ ∃ y ∈ l, y.prevents = true ∧ heardBy s.heard y = true
theorem heardBy_snoc (h : List Hrd) (a : Stp) (x y : Lis) : heardBy (h ++ [told a x]) y = (heardBy h y || decide (x.id = y.id)) := by
  unfold heardBy; simp [told]
theorem gone_hear {l : List Lis} {e : Ev} (hi : (l.map (·.id)).Nodup) {s : St} {x : Lis} {a : Stp} (hx : x ∈ l) (h : Gone l e s) : Gone l e (hear e s x a) := by
  constructor
  · intro y hy
    rw [hear_heard, heardBy_snoc]
    have h0 := h.gone y hy
    by_cases he : x.id = y.id
    · have := ids_eq hi hx hy he
      subst this
      unfold hear
      cases ho : x.once <;> simp [ho, h0]
    · unfold hear
      cases ho : x.once <;> simp [ho, h0, he]
      intro h; exact absurd h.symm he
  · have hn := h.no
    show (s.no || (x.prevents && e.cancels)) = true ↔ _
    rw [hear_heard, Bool.or_eq_true, hn, Bool.and_eq_true]
    constructor
    · rintro (⟨h1, y, hy, h2, h3⟩ | ⟨h1, h2⟩)
      · exact ⟨h1, y, hy, h2, by rw [heardBy_snoc, h3]; rfl⟩
      · exact ⟨h2, x, hx, h1, by rw [heardBy_snoc]; simp⟩
    · rintro ⟨h1, y, hy, h2, h3⟩
      rw [heardBy_snoc, Bool.or_eq_true] at h3
      rcases h3 with h3 | h3
      · exact .inl ⟨h1, y, hy, h2, h3⟩
      · have := ids_eq hi hx hy (by simpa using h3)
        subst this
        exact .inr ⟨h2, h1⟩
theorem gone_sent {d : List Node} {l : List Lis} {e : Ev} {p : List Int} (h : asked d l e = (p, 0)) : Gone l e (sent d l e) :=
  sent_ind (P := Gone l e) ⟨fun y _ => by simp [st0, heardBy], by simp [st0, heardBy]⟩ (fun s x a hx _ _ hs => gone_hear (ask_of h).ids hx hs)
theorem send_of {d : List Node} {l : List Lis} {e : Ev} {p : List Int} (h : asked d l e = (p, 0)) : send d l e = ((sent d l e).heard, (sent d l e).no, l.filter (fun x => !(sent d l e).gone.contains x.id), 0) := by
  unfold send; rw [if_neg (by simp [h])]
theorem send_no {d : List Node} {l : List Lis} {e : Ev} (h : (asked d l e).2 ≠ 0) : send d l e = ([], false, [], (asked d l e).2) := by
  unfold send; rw [if_pos h]
theorem send_zero {d : List Node} {l : List Lis} {e : Ev} (h : (send d l e).2.2.2 = 0) : ∃ p, asked d l e = (p, 0) := by
  by_cases h1 : (asked d l e).2 = 0
  · exact ⟨(asked d l e).1, by rw [← h1]⟩
  · rw [send_no h1] at h; exact absurd h h1
theorem sent_full {d : List Node} {l : List Lis} {e : Ev} (hc : Calm l) : (sent d l e).heard = full e l (steps (asked d l e).1 e.bubbles) := by
  unfold sent
  rw [sent_calm hc _ _ rfl rfl]
  simp [st0]

/-- who prevents it has heard it. -/
theorem prevents {d : List Node} {l : List Lis} {e : Ev} {p : List Int} (h : asked d l e = (p, 0)) : (sent d l e).no = (l.any (fun y => y.prevents && heardBy (sent d l e).heard y) && e.cancels) := by
  have hg := (gone_sent h).no
  rw [Bool.eq_iff_iff, hg, Bool.and_eq_true, List.any_eq_true]
  constructor
  · rintro ⟨h1, y, hy, h2, h3⟩
    exact ⟨⟨y, hy, by rw [h2, h3]; rfl⟩, h1⟩
  · rintro ⟨⟨y, hy, h2⟩, h1⟩
    rw [Bool.and_eq_true] at h2
    exact ⟨h1, y, hy, h2⟩
/-- who is left. -/
theorem left_is {d : List Node} {l : List Lis} {e : Ev} {p : List Int} (h : asked d l e = (p, 0)) : l.filter (fun x => !(sent d l e).gone.contains x.id) = l.filter (fun y => !y.once || !heardBy (sent d l e).heard y) := by
  refine List.filter_congr fun y hy => ?_
  have hg := (gone_sent h).gone y hy
  rw [show (sent d l e).gone.contains y.id = (y.once && heardBy (sent d l e).heard y) by rw [Bool.eq_iff_iff, Bool.and_eq_true]; simpa using hg]
  simp
/-- sent again those that are left hear as they heard. -/
theorem again {d : List Node} {l : List Lis} {e : Ev} {p : List Int} (h : asked d l e = (p, 0)) (hc : Calm l) (m : List Lis) (hm : m = l.filter (fun y => !y.once || !heardBy (sent d l e).heard y)) :
    (sent d m e).heard = (sent d l e).heard.filter (fun w => m.any fun y => decide (y.id = w.lis)) ∧ m.filter (fun x => !(sent d m e).gone.contains x.id) = m := by
  have hsub : m.Sublist l := by rw [hm]; exact List.filter_sublist
  have hcm : Calm m := fun x hx => hc x (hsub.mem hx)
  have hi := (ask_of h).ids
  have ham := of_ask h hsub
  have hany : ∀ x ∈ l, m.any (fun y => decide (y.id = x.id)) = (!x.once || !heardBy (sent d l e).heard x) := by
    intro x hx
    rw [Bool.eq_iff_iff, List.any_eq_true]
    constructor
    · rintro ⟨y, hy, he⟩
      rw [hm, List.mem_filter] at hy
      have := ids_eq hi hy.1 hx (by simpa using he)
      rw [← this]; exact hy.2
    · intro hq
      exact ⟨x, by rw [hm, List.mem_filter]; exact ⟨hx, hq⟩, by simp⟩
  have hh : (sent d m e).heard = (sent d l e).heard.filter (fun w => m.any fun y => decide (y.id = w.lis)) := by
    rw [sent_full hc, sent_full hcm, h, ham]
    unfold full
    rw [List.filter_flatMap]
    have : ∀ a, (m.filter (mat e a)).map (told a) = ((l.filter (mat e a)).map (told a)).filter (fun w => m.any fun y => decide (y.id = w.lis)) := by
      intro a
      rw [List.filter_map, List.filter_filter]
      congr 1
      conv => lhs; rw [hm]
      rw [List.filter_filter]
      refine List.filter_congr fun x hx => ?_
      show _ = (m.any (fun y => decide (y.id = x.id)) && mat e a x)
      rw [hany x hx, Bool.and_comm]
    congr 1
    funext a
    exact this a
  refine ⟨hh, ?_⟩
  rw [List.filter_eq_self]
  intro y hy
  have hg := (gone_sent ham).gone y hy
  have hyl := hsub.mem hy
  have hq : (!y.once || !heardBy (sent d l e).heard y) = true := by
    have := hy
    rw [hm, List.mem_filter] at this
    exact this.2
  rw [Bool.not_eq_true', ← Bool.not_eq_true]
  intro hcon
  obtain ⟨h1, h2⟩ := hg.1 (by simpa using hcon)
  rw [h1] at hq
  have hno : heardBy (sent d l e).heard y = false := by simpa using hq
  unfold heardBy at h2 hno
  rw [hh] at h2
  obtain ⟨w, hw, he⟩ := List.any_eq_true.1 h2
  have := List.any_eq_false.1 hno w (List.mem_filter.1 hw).1
  exact this he
/-- who stops it cuts it. -/
theorem stopped (d : List Node) (l : List Lis) (e : Ev) : (sent d l e).heard <+: (sent d (l.map free) e).heard := by
  unfold sent
  rw [asked_free]
  exact (goes_pre _ _ _ ⟨rfl, rfl, List.prefix_refl _⟩ (fun _ _ => rfl)).pre
theorem free_calm (l : List Lis) : Calm (l.map free) := by
  intro x hx
  obtain ⟨y, _, rfl⟩ := List.mem_map.1 hx
  exact ⟨rfl, rfl⟩
theorem free_id {l : List Lis} (h : Calm l) : l.map free = l := by
  conv => rhs; rw [← List.map_id l]
  refine List.map_congr_left fun x hx => ?_
  have := h x hx
  obtain ⟨id, n, t, c, o, s, a, p⟩ := x
  simp at this
  simp [free, this]
theorem calm_of {l : List Lis} (h : l.any (fun x => x.stops || x.all) = false) : Calm l := by
  intro x hx
  have := List.any_eq_false.1 h x hx
  simpa using this
end Evy

/-
  Where one was, plain: what a trail is checked for, loaded, pushed, replaced, gone. Conditions: none.
-/
import Derived.Test.YtdolmjeiakdfhaaGreatDoorUrM
namespace Traily
set_option linter.unusedSimpArgs false
set_option linter.unusedVariables false
open Urly (Bs)
structure Ent where
  url : Bs
  state : Bs
  doc : Int
  deriving DecidableEq
structure T where
  ents : List Ent
  at' : Int
  deriving DecidableEq
abbrev K := Int × Bs
def isClean (s : Bs) : Bool := match Urly.resolve s s with
  | .ok c => decide (c = s)
  | .error _ => false
def org (s : Bs) : Bs := match Urly.originOf s with
  | .ok o => o
  | .error _ => []
def key (e : Ent) : K := (e.doc, org e.url)
def inDoc (d : Int) : Bool := decide (0 ≤ d) && decide (d ≤ 1000000)
/-- documents stand together, and have one origin. -/
def docsK : List Int → Option K → List K → Bool
  | _, _, [] => true
  | seen, p, x :: r => inDoc x.1 && (if p.map (·.1) = some x.1 then decide (p = some x) && docsK seen (some x) r else !seen.contains x.1 && docsK (x.1 :: seen) (some x) r)
def docs (l : List Ent) : Bool := docsK [] none (l.map key)
def long (e : Ent) : Bool := decide (2000 < e.state.length)
def foul (e : Ent) : Bool := !isClean e.url
def check (t : T) : Nat :=
  if 50 < t.ents.length ∨ t.ents.any long = true then 2
  else if t.at' < 0 ∨ (t.ents.length : Int) ≤ t.at' ∨ t.ents.any foul = true ∨ docs t.ents = false then 3 else 0
def here (t : T) : Ent := t.ents.getD t.at'.toNat ⟨[], [], 0⟩
def start (s : Bs) : Except Nat T := match Urly.resolve s s with
  | .error n => .error n
  | .ok c => .ok ⟨[⟨c, [], 0⟩], 0⟩
def off (l : List Ent) : List Ent := if 50 < l.length then l.drop 1 else l
def behind (t : T) (e : Ent) : T := ⟨off (t.ents.take (t.at'.toNat + 1) ++ [e]), ((off (t.ents.take (t.at'.toNat + 1) ++ [e])).length : Int) - 1⟩
def bare (s : Bs) : Bs := (Urly.cut 35 s).1
def resolved (t : T) (ref : Bs) : Except Nat Bs := if check t ≠ 0 then .error (check t) else Urly.resolve (here t).url ref
def newDoc (l : List Ent) : Int := l.foldl (fun d x => max d (x.doc + 1)) 0
def docOf (t : T) (ref s : Bs) : Int := if ref.contains 35 = false ∨ bare s ≠ bare (here t).url then newDoc t.ents else (here t).doc
def load (t : T) (ref : Bs) : Except Nat T := match resolved t ref with
  | .error n => .error n
  | .ok s => if 1000000 < docOf t ref s then .error 2 else .ok (behind t ⟨s, [], docOf t ref s⟩)
def ownE (t : T) (ref state : Bs) : Except Nat Ent := match resolved t ref with
  | .error n => .error n
  | .ok s => if 2000 < state.length then .error 2 else if org s ≠ org (here t).url then .error 12 else .ok ⟨s, state, (here t).doc⟩
def push (t : T) (ref state : Bs) : Except Nat T := match ownE t ref state with
  | .error n => .error n
  | .ok x => .ok (behind t x)
def replace (t : T) (ref state : Bs) : Except Nat T := match ownE t ref state with
  | .error n => .error n
  | .ok x => .ok ⟨t.ents.set t.at'.toNat x, t.at'⟩
def go (t : T) (n : Int) : Except Nat (T × Bool) :=
  if check t ≠ 0 then .error (check t)
  else if n < - t.at' ∨ (t.ents.length : Int) - t.at' ≤ n then .error 5
  else .ok (⟨t.ents, t.at' + n⟩, decide ((here ⟨t.ents, t.at' + n⟩).doc ≠ (here t).doc))

/-- what a right trail is. -/
structure Right (t : T) : Prop where
  len : t.ents.length ≤ 50
  st : ∀ e ∈ t.ents, e.state.length ≤ 2000
  lo : 0 ≤ t.at'
  hi : t.at' < t.ents.length
  cl : ∀ e ∈ t.ents, isClean e.url = true
  dc : docs t.ents = true
theorem check_iff (t : T) : check t = 0 ↔ Right t := by
  unfold check
  constructor
  · intro h
    split at h
    · cases h
    · rename_i h1
      split at h
      · cases h
      · rename_i h2
        simp only [not_or, List.any_eq_true, not_exists, not_and] at h1 h2
        obtain ⟨a, b⟩ := h1
        obtain ⟨c, d, e, f⟩ := h2
        refine ⟨by omega, fun x hx => ?_, by omega, by omega, fun x hx => ?_, by simpa using f⟩
        · have := b x hx; simp [long] at this; omega
        · have := e x hx; simpa [foul] using this
  · intro h
    obtain ⟨a, b, c, d, e, f⟩ := h
    rw [if_neg, if_neg]
    · simp only [not_or, List.any_eq_true, not_exists, not_and]
      exact ⟨by omega, by omega, fun x hx => by simp [foul, e x hx], by simp [f]⟩
    · simp only [not_or, List.any_eq_true, not_exists, not_and]
      exact ⟨by omega, fun x hx => by have := b x hx; simp [long]; omega⟩
theorem check_cases (t : T) : check t = 0 ∨ check t = 2 ∨ check t = 3 := by
  unfold check
  split
  · simp
  · split <;> simp
theorem clean_iff {s : Bs} : isClean s = true ↔ Urly.resolve s s = .ok s := by
  unfold isClean
  cases h : Urly.resolve s s with
  | error n => simp
  | ok c => simp
theorem here_mem {t : T} (h : Right t) : here t ∈ t.ents ∧ t.ents[t.at'.toNat]? = some (here t) := by
  have h1 : t.at'.toNat < t.ents.length := by have := h.lo; have := h.hi; omega
  have h2 : t.ents[t.at'.toNat]? = some (here t) := by
    unfold here
    rw [List.getD_eq_getElem?_getD, List.getElem?_eq_getElem h1]; rfl
  exact ⟨List.mem_of_getElem? h2, h2⟩

/-! documents -/
theorem docs_sub : ∀ (r : List K) (s1 s2 : List Int) (p : Option K), (∀ x ∈ s2, x ∈ s1) → docsK s1 p r = true → docsK s2 p r = true
  | [], _, _, _, _, _ => rfl
  | x :: r, s1, s2, p, hs, h => by
    unfold docsK at h ⊢
    rw [Bool.and_eq_true] at h ⊢
    refine ⟨h.1, ?_⟩
    have h := h.2
    split at h <;> rename_i hp
    · rw [if_pos hp]
      rw [Bool.and_eq_true] at h ⊢
      exact ⟨h.1, docs_sub r s1 s2 _ hs h.2⟩
    · rw [if_neg hp]
      rw [Bool.and_eq_true] at h ⊢
      refine ⟨?_, docs_sub r (x.1 :: s1) (x.1 :: s2) _ (fun y hy => ?_) h.2⟩
      · have h1 := h.1
        simp only [Bool.not_eq_true', List.contains_eq_mem, decide_eq_false_iff_not] at h1 ⊢
        exact fun hm => h1 (hs _ hm)
      · rcases List.mem_cons.1 hy with e | e
        · exact List.mem_cons.2 (.inl e)
        · exact List.mem_cons.2 (.inr (hs _ e))
theorem docs_take : ∀ (r : List K) (n : Nat) (s : List Int) (p : Option K), docsK s p r = true → docsK s p (r.take n) = true
  | [], n, _, _, _ => by simp [docsK]
  | x :: r, 0, s, p, h => rfl
  | x :: r, n + 1, s, p, h => by
    rw [List.take_succ_cons]
    unfold docsK at h ⊢
    rw [Bool.and_eq_true] at h ⊢
    refine ⟨h.1, ?_⟩
    have h := h.2
    split at h <;> rename_i hp
    · rw [if_pos hp]; rw [Bool.and_eq_true] at h ⊢; exact ⟨h.1, docs_take r n _ _ h.2⟩
    · rw [if_neg hp]; rw [Bool.and_eq_true] at h ⊢; exact ⟨h.1, docs_take r n _ _ h.2⟩
/-- without the first. -/
theorem docs_tail {x : K} {r : List K} (h : docsK [] none (x :: r) = true) : docsK [] none r = true := by
  unfold docsK at h
  simp only [Option.map_none, reduceCtorEq, if_false, Bool.and_eq_true] at h
  have h1 := h.2.2
  cases r with
  | nil => rfl
  | cons y r =>
    unfold docsK at h1 ⊢
    rw [Bool.and_eq_true] at h1 ⊢
    refine ⟨h1.1, ?_⟩
    have h2 := h1.2
    rw [if_neg (by simp)]
    split at h2 <;> rename_i hp
    · rw [Bool.and_eq_true] at h2
      have e : x.1 = y.1 := by simpa using hp
      rw [Bool.and_eq_true]
      exact ⟨by simp, docs_sub r _ _ _ (fun z hz => by simpa [e] using hz) h2.2⟩
    · rw [Bool.and_eq_true] at h2 ⊢
      exact ⟨by simp, docs_sub r _ _ _ (fun z hz => by simp at hz; simp [hz]) h2.2⟩
/-- one more, of a document that stands nowhere. -/
theorem docs_new : ∀ (r : List K) (s : List Int) (p : Option K) (k : K), docsK s p r = true → inDoc k.1 = true → (∀ x ∈ r, x.1 ≠ k.1) → k.1 ∉ s → p.map (·.1) ≠ some k.1 → docsK s p (r ++ [k]) = true
  | [], s, p, k, _, h1, _, h3, h4 => by
    simp only [List.nil_append, docsK, h1, Bool.true_and, if_neg h4, Bool.and_true]
    simpa using h3
  | x :: r, s, p, k, h, h1, h2, h3, h4 => by
    rw [List.cons_append]
    unfold docsK at h ⊢
    rw [Bool.and_eq_true] at h ⊢
    refine ⟨h.1, ?_⟩
    have h := h.2
    have hx := h2 x List.mem_cons_self
    split at h <;> rename_i hp
    · rw [if_pos hp]; rw [Bool.and_eq_true] at h ⊢
      exact ⟨h.1, docs_new r s _ k h.2 h1 (fun y hy => h2 y (List.mem_cons_of_mem _ hy)) h3 (by simpa using hx)⟩
    · rw [if_neg hp]; rw [Bool.and_eq_true] at h ⊢
      exact ⟨h.1, docs_new r _ _ k h.2 h1 (fun y hy => h2 y (List.mem_cons_of_mem _ hy)) (by simp only [List.mem_cons, not_or]; exact ⟨fun e => hx e.symm, h3⟩) (by simpa using hx)⟩
/-- one more, alike to the last one. -/
theorem docs_same : ∀ (r : List K) (s : List Int) (p : Option K) (k : K), docsK s p r = true → inDoc k.1 = true → (r.getLast?.or p) = some k → docsK s p (r ++ [k]) = true
  | [], s, p, k, _, h1, h2 => by
    simp only [List.getLast?_nil, Option.none_or] at h2
    subst h2
    simp [docsK, h1]
  | x :: r, s, p, k, h, h1, h2 => by
    rw [List.cons_append]
    unfold docsK at h ⊢
    rw [Bool.and_eq_true] at h ⊢
    refine ⟨h.1, ?_⟩
    have h := h.2
    have h3 : (r.getLast?.or (some x)) = some k := by
      rw [List.getLast?_cons] at h2
      cases hl : r.getLast? with
      | none => rw [hl] at h2; simpa using h2
      | some y => rw [hl] at h2; simpa using h2
    split at h <;> rename_i hp
    · rw [if_pos hp]; rw [Bool.and_eq_true] at h ⊢; exact ⟨h.1, docs_same r s _ k h.2 h1 h3⟩
    · rw [if_neg hp]; rw [Bool.and_eq_true] at h ⊢; exact ⟨h.1, docs_same r _ _ k h.2 h1 h3⟩
theorem docs_in : ∀ (r : List K) (s : List Int) (p : Option K), docsK s p r = true → ∀ x ∈ r, inDoc x.1 = true
  | [], _, _, _ => by simp
  | x :: r, s, p, h => by
    unfold docsK at h
    rw [Bool.and_eq_true] at h
    intro y hy
    rcases List.mem_cons.1 hy with e | e
    · rw [e]; exact h.1
    · have h := h.2
      split at h
      · rw [Bool.and_eq_true] at h; exact docs_in r _ _ h.2 y e
      · rw [Bool.and_eq_true] at h; exact docs_in r _ _ h.2 y e
theorem off_sub {l : List Ent} : ∀ e ∈ off l, e ∈ l := by
  unfold off; intro e h
  split at h
  · exact List.mem_of_mem_drop h
  · exact h
theorem behind_right {t : T} {e : Ent} (h : Right t) (h1 : e.state.length ≤ 2000) (h2 : isClean e.url = true) (h3 : docs (t.ents.take (t.at'.toNat + 1) ++ [e]) = true) : Right (behind t e) := by
  have hlen : (t.ents.take (t.at'.toNat + 1) ++ [e]).length ≤ 51 := by
    have := h.len; simp only [List.length_append, List.length_take, List.length_cons, List.length_nil]; omega
  have hm : ∀ x ∈ off (t.ents.take (t.at'.toNat + 1) ++ [e]), x ∈ t.ents ∨ x = e := fun x hx => by
    have := off_sub x hx
    rcases List.mem_append.1 this with a | a
    · exact .inl (List.mem_of_mem_take a)
    · exact .inr (by simpa using a)
  have hpos : 0 < (off (t.ents.take (t.at'.toNat + 1) ++ [e])).length := by
    unfold off; split
    · rw [List.length_drop]; omega
    · simp
  refine ⟨?_, fun x hx => ?_, ?_, ?_, fun x hx => ?_, ?_⟩
  · show (off _).length ≤ 50
    unfold off; split
    · rw [List.length_drop]; omega
    · omega
  · rcases hm x hx with a | rfl
    · exact h.st x a
    · exact h1
  · show 0 ≤ ((off _).length : Int) - 1
    omega
  · show ((off _).length : Int) - 1 < ((off _).length : Int)
    omega
  · rcases hm x hx with a | rfl
    · exact h.cl x a
    · exact h2
  · show docs (off _) = true
    unfold off; split
    · unfold docs at h3 ⊢
      rw [List.map_drop]
      generalize (t.ents.take (t.at'.toNat + 1) ++ [e]).map key = ks at h3 ⊢
      cases ks with
      | nil => exact h3
      | cons k ks => exact docs_tail h3
    · exact h3
theorem newDoc_ge : ∀ (l : List Ent) (d : Int), d ≤ l.foldl (fun d x => max d (x.doc + 1)) d ∧ ∀ x ∈ l, x.doc < l.foldl (fun d x => max d (x.doc + 1)) d
  | [], d => by simp
  | y :: l, d => by
    obtain ⟨a, b⟩ := newDoc_ge l (max d (y.doc + 1))
    rw [List.foldl_cons]
    refine ⟨by omega, fun x hx => ?_⟩
    rcases List.mem_cons.1 hx with rfl | e
    · omega
    · exact b x e
theorem here_clean {t : T} (h : Right t) : Urly.resolve (here t).url (here t).url = .ok (here t).url := clean_iff.1 (h.cl _ (here_mem h).1)
theorem here_parse {t : T} (h : Right t) : ∃ b, Urly.parse (here t).url = .ok b ∧ org (here t).url = Urly.origin b := by
  obtain ⟨b, u, hb, _, _, _, _, hp⟩ := Urly.resolve_form (here_clean h)
  exact ⟨b, hb, by unfold org; rw [Urly.origin_ok hb]⟩
theorem org_bare {s : Bs} {u : Urly.U} (h : Urly.parse s = .ok u) : org (bare s) = org s := by
  obtain ⟨h1, _⟩ := Urly.parse_front h
  unfold org bare
  rw [Urly.origin_ok h1, Urly.origin_ok h]
  rfl
theorem resolved_clean {b r s : Bs} (h : Urly.resolve b r = .ok s) : isClean s = true ∧ s.length ≤ 500 ∧ ∃ u, Urly.parse s = .ok u := by
  obtain ⟨b', u, hb, hu, hg, rfl, hl, hp⟩ := Urly.resolve_form h
  exact ⟨clean_iff.2 (Urly.resolve_self hp hg hl), hl, u, hp⟩
theorem take_last {t : T} (h : Right t) : (t.ents.take (t.at'.toNat + 1)).getLast? = some (here t) := by
  obtain ⟨_, h2⟩ := here_mem h
  have h1 : t.at'.toNat < t.ents.length := by have := h.lo; have := h.hi; omega
  rw [List.getLast?_eq_getElem?, List.length_take, Nat.min_eq_left (by omega), List.getElem?_take, if_pos (by omega)]
  exact h2
theorem docs_here {t : T} (h : Right t) {e : Ent} (hk : key e = key (here t)) : docs (t.ents.take (t.at'.toNat + 1) ++ [e]) = true := by
  have hd := h.dc
  unfold docs at hd ⊢
  rw [List.map_append, List.map_cons, List.map_nil, hk]
  refine docs_same _ _ _ _ ?_ ?_ ?_
  · rw [List.map_take]; exact docs_take _ _ _ _ hd
  · exact docs_in _ _ _ hd _ (List.mem_map_of_mem (here_mem h).1)
  · rw [List.getLast?_map, take_last h]; rfl
theorem docs_fresh {t : T} (h : Right t) {e : Ent} (he : e.doc = newDoc t.ents) (hm : e.doc ≤ 1000000) : docs (t.ents.take (t.at'.toNat + 1) ++ [e]) = true := by
  have hd := h.dc
  obtain ⟨a, b⟩ := newDoc_ge t.ents 0
  unfold docs at hd ⊢
  rw [List.map_append, List.map_cons, List.map_nil]
  refine docs_new _ _ _ _ ?_ ?_ ?_ (by simp) (by simp)
  · rw [List.map_take]; exact docs_take _ _ _ _ hd
  · unfold inDoc key
    have : 0 ≤ e.doc := by rw [he]; exact a
    simp [this, hm]
  · intro x hx
    obtain ⟨y, hy, rfl⟩ := List.mem_map.1 hx
    have := b y (List.mem_of_mem_take hy)
    show y.doc ≠ e.doc
    rw [he]; unfold newDoc; omega
theorem resolved_form {t : T} {ref s : Bs} (h : resolved t ref = .ok s) : Right t ∧ Urly.resolve (here t).url ref = .ok s := by
  unfold resolved at h
  split at h
  · cases h
  · rename_i hc
    exact ⟨(check_iff t).1 (by omega), h⟩
theorem load_form {t t' : T} {ref : Bs} (h : load t ref = .ok t') : ∃ e, Right t ∧ t' = behind t e ∧ Right t' := by
  unfold load at h
  cases hr : resolved t ref with
  | error n => rw [hr] at h; cases h
  | ok s =>
    rw [hr] at h
    simp only at h
    split at h
    · cases h
    · rename_i hd
      injection h with h
      obtain ⟨hR, hs⟩ := resolved_form hr
      obtain ⟨h1, h2, u, h3⟩ := resolved_clean hs
      refine ⟨_, hR, h.symm, h ▸ behind_right hR (by simp) h1 ?_⟩
      unfold docOf at hd ⊢
      split at hd <;> rename_i hc
      · rw [if_pos hc]; exact docs_fresh hR rfl (by simpa using hd)
      · rw [if_neg hc]
        refine docs_here hR ?_
        obtain ⟨b, hb, _⟩ := here_parse hR
        have hbare : bare s = bare (here t).url := by
          by_cases e : bare s = bare (here t).url
          · exact e
          · exact absurd (.inr e) hc
        unfold key
        rw [← org_bare h3, ← org_bare hb, hbare]
theorem own_form {t : T} {ref state : Bs} {e : Ent} (h : ownE t ref state = .ok e) : Right t ∧ key e = key (here t) ∧ e.state.length ≤ 2000 ∧ isClean e.url = true ∧ Urly.resolve (here t).url ref = .ok e.url ∧ e.doc = (here t).doc ∧ org e.url = org (here t).url := by
  unfold ownE at h
  cases hr : resolved t ref with
  | error n => rw [hr] at h; cases h
  | ok s =>
    rw [hr] at h
    simp only at h
    split at h
    · cases h
    · rename_i hst
      split at h
      · cases h
      · rename_i ho
        injection h with h
        obtain ⟨hR, hs⟩ := resolved_form hr
        obtain ⟨h1, h2, u, h3⟩ := resolved_clean hs
        have ho : org s = org (here t).url := by
          by_cases e : org s = org (here t).url
          · exact e
          · exact absurd e ho
        subst h
        exact ⟨hR, by unfold key; simp only [ho], by simp only; omega, h1, hs, rfl, ho⟩
theorem push_form {t t' : T} {ref state : Bs} (h : push t ref state = .ok t') : ∃ e, ownE t ref state = .ok e ∧ Right t ∧ t' = behind t e ∧ Right t' := by
  unfold push at h
  cases hr : ownE t ref state with
  | error n => rw [hr] at h; cases h
  | ok e =>
    rw [hr] at h
    injection h with h
    obtain ⟨hR, hk, hst, hcl, _, _, _⟩ := own_form hr
    exact ⟨e, rfl, hR, h.symm, h ▸ behind_right hR hst hcl (docs_here hR hk)⟩
theorem replace_right {t t' : T} {ref state : Bs} (h : replace t ref state = .ok t') : Right t' := by
  unfold replace at h
  cases hr : ownE t ref state with
  | error n => rw [hr] at h; cases h
  | ok e =>
    rw [hr] at h
    injection h with h
    subst h
    obtain ⟨hR, hk, hst, hcl, _, _, _⟩ := own_form hr
    have hm : ∀ x ∈ t.ents.set t.at'.toNat e, x ∈ t.ents ∨ x = e := fun x hx => by
      rcases List.mem_or_eq_of_mem_set hx with a | a
      · exact .inl a
      · exact .inr a
    refine ⟨by simpa using hR.len, fun x hx => ?_, hR.lo, by simpa using hR.hi, fun x hx => ?_, ?_⟩
    · rcases hm x hx with a | rfl
      · exact hR.st x a
      · exact hst
    · rcases hm x hx with a | rfl
      · exact hR.cl x a
      · exact hcl
    · have hd := hR.dc
      unfold docs at hd ⊢
      have : (t.ents.set t.at'.toNat e).map key = t.ents.map key := by
        rw [List.map_set, hk]
        refine List.ext_getElem? fun i => ?_
        rw [List.getElem?_set]
        split
        · rename_i hi
          subst hi
          split
          · rw [List.getElem?_map, (here_mem hR).2]; rfl
          · rename_i hlt
            rw [List.getElem?_eq_none (by omega)]
        · rfl
      rw [this]; exact hd
theorem go_form {t t' : T} {n : Int} {b : Bool} (h : go t n = .ok (t', b)) : Right t ∧ t' = ⟨t.ents, t.at' + n⟩ ∧ b = decide ((here t').doc ≠ (here t).doc) ∧ 0 ≤ t.at' + n ∧ t.at' + n < t.ents.length ∧ Right t' := by
  unfold go at h
  split at h
  · cases h
  · rename_i hc
    split at h
    · cases h
    · rename_i hn
      injection h with h
      injection h with h1 h2
      have hR := (check_iff t).1 (by omega)
      subst h1
      exact ⟨hR, rfl, h2.symm, by omega, by omega, ⟨hR.len, hR.st, by show 0 ≤ t.at' + n; omega, by show t.at' + n < (t.ents.length : Int); omega, hR.cl, hR.dc⟩⟩
theorem go_of {t : T} {n : Int} (h : Right t) (h1 : 0 ≤ t.at' + n) (h2 : t.at' + n < t.ents.length) : go t n = .ok (⟨t.ents, t.at' + n⟩, decide ((here ⟨t.ents, t.at' + n⟩).doc ≠ (here t).doc)) := by
  unfold go
  rw [if_neg (by rw [(check_iff t).2 h]; simp), if_neg (by omega)]
/-- TrailRight. -/
theorem right_law (t : T) (ref state : Bs) (n : Int) : (∀ l, load t ref = .ok l → check l = 0) ∧ (∀ l, push t ref state = .ok l → check l = 0) ∧ (∀ l, replace t ref state = .ok l → check l = 0) ∧ (∀ l b, go t n = .ok (l, b) → check l = 0) :=
  ⟨fun l h => (check_iff l).2 (let ⟨_, _, _, h⟩ := load_form h; h), fun l h => (check_iff l).2 (let ⟨_, _, _, _, h⟩ := push_form h; h), fun l h => (check_iff l).2 (replace_right h), fun l b h => (check_iff l).2 (let ⟨_, _, _, _, _, h⟩ := go_form h; h)⟩
/-- TrailBack. -/
theorem back_law {t o : T} {n : Int} {b : Bool} (h : go t n = .ok (o, b)) : go o (-n) = .ok (t, b) ∧ ∀ m p c, go o m = .ok (p, c) → ∃ c', go t (n + m) = .ok (p, c') := by
  obtain ⟨hR, rfl, hb, h1, h2, hR'⟩ := go_form h
  have e : t.at' + n + -n = t.at' := by omega
  refine ⟨?_, fun m p c hm => ?_⟩
  · rw [go_of hR' (by show 0 ≤ t.at' + n + -n; rw [e]; exact hR.lo) (by show t.at' + n + -n < _; rw [e]; exact hR.hi)]
    show Except.ok ((⟨t.ents, t.at' + n + -n⟩ : T), _) = _
    rw [e, hb]
    have : (⟨t.ents, t.at'⟩ : T) = t := rfl
    rw [this]
    congr 2
    exact decide_eq_decide.2 ⟨fun h e => h e.symm, fun h e => h e.symm⟩
  · obtain ⟨_, rfl, _, h3, h4, _⟩ := go_form hm
    have e2 : t.at' + n + m = t.at' + (n + m) := by omega
    refine ⟨decide ((here ⟨t.ents, t.at' + (n + m)⟩).doc ≠ (here t).doc), ?_⟩
    show go t (n + m) = .ok (⟨t.ents, t.at' + n + m⟩, _)
    rw [e2]
    exact go_of hR (by rw [← e2]; exact h3) (by rw [← e2]; exact h4)
theorem behind_last {t : T} {e : Ent} (h : Right t) : (behind t e).ents.length ≤ 50 → 2 ≤ (behind t e).ents.length ∧ (behind t e).ents[(behind t e).ents.length - 2]? = some (here t) ∧ (behind t e).ents[(behind t e).ents.length - 1]? = some e := by
  intro hle
  obtain ⟨_, h2⟩ := here_mem h
  have h1 : t.at'.toNat < t.ents.length := by have := h.lo; have := h.hi; omega
  have hl : (t.ents.take (t.at'.toNat + 1)).length = t.at'.toNat + 1 := by rw [List.length_take]; omega
  have ht : (t.ents.take (t.at'.toNat + 1))[t.at'.toNat]? = some (here t) := by rw [List.getElem?_take, if_pos (by omega)]; exact h2
  have := h.len
  show 2 ≤ (off _).length ∧ (off _)[(off _).length - 2]? = _ ∧ (off _)[(off _).length - 1]? = _
  generalize t.ents.take (t.at'.toNat + 1) = L at hl ht
  have hoff : (off (L ++ [e]) = (L ++ [e]).drop 1 ∧ 50 < t.at'.toNat + 2) ∨ off (L ++ [e]) = L ++ [e] := by
    unfold off
    by_cases hc : 50 < (L ++ [e]).length
    · rw [if_pos hc]; simp only [List.length_append, List.length_cons, List.length_nil] at hc; exact .inl ⟨rfl, by omega⟩
    · rw [if_neg hc]; exact .inr rfl
  have g0 : (L ++ [e])[t.at'.toNat]? = some (here t) := by rw [List.getElem?_append_left (by omega)]; exact ht
  have g1 : (L ++ [e])[t.at'.toNat + 1]? = some e := by rw [List.getElem?_append_right (by omega), hl]; simp
  rcases hoff with ⟨h0, hc⟩ | h0
  · rw [h0]
    simp only [List.length_drop, List.length_append, List.length_cons, List.length_nil, hl, List.getElem?_drop]
    refine ⟨by omega, ?_, ?_⟩
    · rw [← g0]; congr 1; omega
    · rw [← g1]; congr 1; omega
  · rw [h0]
    simp only [List.length_append, List.length_cons, List.length_nil, hl]
    refine ⟨by omega, ?_, ?_⟩
    · rw [← g0]; congr 1
    · rw [← g1]; congr 1
/-- TrailCuts. -/
theorem cuts_law {t l : T} {e : Ent} (h : Right t) (hl : l = behind t e) (hr : Right l) : go l 1 = .error 5 ∧ ∃ b c, go l (-1) = .ok (b, c) ∧ b.ents.length ≤ 50 ∧ here b = here t ∧ Right b := by
  have hle := hr.len
  subst hl
  obtain ⟨h2, h3, _⟩ := behind_last (e := e) h hle
  have ha : (behind t e).at' = ((behind t e).ents.length : Int) - 1 := rfl
  refine ⟨?_, ⟨(behind t e).ents, (behind t e).at' + -1⟩, _, go_of hr (by omega) (by omega), hle, ?_, ⟨hr.len, hr.st, by show 0 ≤ (behind t e).at' + -1; omega, by show (behind t e).at' + -1 < ((behind t e).ents.length : Int); omega, hr.cl, hr.dc⟩⟩
  · unfold go
    rw [if_neg (by rw [(check_iff _).2 hr]; simp), if_pos (by omega)]
  · unfold here
    show (behind t e).ents.getD ((behind t e).at' + -1).toNat _ = _
    rw [show ((behind t e).at' + -1).toNat = (behind t e).ents.length - 2 by omega, List.getD_eq_getElem?_getD, h3]
    rfl
theorem here_behind {t : T} {e : Ent} (h : Right t) (hr : Right (behind t e)) : here (behind t e) = e := by
  obtain ⟨h2, _, h4⟩ := behind_last (e := e) h hr.len
  unfold here
  rw [show (behind t e).at'.toNat = (behind t e).ents.length - 1 by show (((off _).length : Int) - 1).toNat = (off _).length - 1; omega, List.getD_eq_getElem?_getD, h4]
  rfl
/-- a slash alone. -/
theorem slash_law {b : Bs} {u : Urly.U} (hb : Urly.parse b = .ok u) (hc : Urly.resolve b b = .ok b) : Urly.resolve b [47] = .ok (Urly.origin u ++ [47]) := by
  obtain ⟨b2, v, hb2, hu, hg, hbv, hl, hp⟩ := Urly.resolve_form hc
  rw [hb] at hp
  injection hp with hp
  subst hp
  have hbes : Urly.beside u [47] = .ok ⟨u.scheme, u.host, u.port, [[]], [], false, [], false⟩ := by
    unfold Urly.beside
    have ht : Urly.tail [47] = ⟨[47], some [], false, some [], false⟩ := by rfl
    have hs : Urly.segments (Urly.bare [47]) = some [[]] := by decide +kernel
    have hd : Urly.tidy [[]] = [[]] := by decide +kernel
    simp only [ht, hs]
    rw [if_neg (by simp), if_pos (show ([47] : Bs).head? = some 47 from rfl), hd]
  have hru : Urly.resolveU b [47] = .ok ⟨u.scheme, u.host, u.port, [[]], [], false, [], false⟩ := by
    unfold Urly.resolveU
    rw [hb]
    simp only
    rw [if_neg (by simp), if_neg (by decide +kernel), if_neg (by decide +kernel)]
    exact hbes
  have htx : Urly.text ⟨u.scheme, u.host, u.port, [[]], [], false, [], false⟩ = Urly.origin u ++ [47] := by
    unfold Urly.text Urly.origin
    simp [Urly.enc]
  unfold Urly.resolve
  rw [hru]
  simp only [htx]
  rw [if_neg]
  have h1 : (Urly.origin u).length + 1 ≤ b.length := by
    rw [hbv, Urly.text_eq, ← Urly.origin_eq]
    obtain ⟨r, er, _⟩ := Urly.path_first hg.pth
    unfold Urly.tailText
    rw [er]
    simp
  simp only [List.length_append, List.length_cons, List.length_nil]
  omega
theorem push_slash {t : T} {o : Bs} (h : Right t) (ho : org (here t).url = o) : push t [47] [] = .ok (behind t ⟨o ++ [47], [], (here t).doc⟩) ∧ Right (behind t ⟨o ++ [47], [], (here t).doc⟩) := by
  obtain ⟨b, hb, hob⟩ := here_parse h
  have hs := slash_law hb (here_clean h)
  rw [← hob, ho] at hs
  obtain ⟨hst, _⟩ := Urly.stay_law hb hs (by simp) (by decide +kernel)
  have hor : org (o ++ [47]) = org (here t).url := by unfold org at hob ho ⊢; rw [hst]; rw [ho]; rw [← hob, ho]
  have hp : push t [47] [] = .ok (behind t ⟨o ++ [47], [], (here t).doc⟩) := by
    unfold push ownE resolved
    rw [if_neg (by rw [(check_iff t).2 h]; simp), hs]
    simp only
    rw [if_neg (by simp), if_neg (by rw [hor]; simp)]
  exact ⟨hp, let ⟨_, _, _, _, h⟩ := push_form hp; h⟩
/-- TrailOrigin. -/
theorem origin_law {t p : T} {ref state : Bs} (h : push t ref state = .ok p) : ∃ q r, push p [47] [] = .ok q ∧ push t [47] [] = .ok r ∧ (here q).url = (here r).url ∧ Right q ∧ Right r := by
  obtain ⟨e, he, hR, rfl, hp⟩ := push_form h
  obtain ⟨_, _, _, _, _, _, ho⟩ := own_form he
  have hh := here_behind (e := e) hR hp
  obtain ⟨a1, a2⟩ := push_slash hp (o := org (here t).url) (by rw [hh]; exact ho)
  obtain ⟨b1, b2⟩ := push_slash hR (o := org (here t).url) rfl
  exact ⟨_, _, a1, b1, by rw [here_behind hp a2, here_behind hR b2], a2, b2⟩
end Traily

/-
  What an address is when it is right, and that its text is parsed as it; plain. Conditions: none.
-/
import Derived.Test.YtdolmjeiakdfhaaGreatDoorUrI
namespace Urly
set_option linter.unusedSimpArgs false
set_option linter.unusedVariables false
/-! ### cut, split -/
theorem cut_no {c : UInt8} {s : Bs} (h : c ∉ s) : cut c s = (s, [], false) := by
  unfold cut
  rw [if_neg (by simpa using h)]
theorem takeWhile_stop {α : Type} (p : α → Bool) : ∀ (a : List α) (x : α) (b : List α), (∀ y ∈ a, p y = true) → p x = false → (a ++ x :: b).takeWhile p = a ∧ (a ++ x :: b).dropWhile p = x :: b
  | [], x, b, _, hx => by simp [hx]
  | y :: a, x, b, h, hx => by
    have hy := h y (by simp)
    have ih := takeWhile_stop p a x b (fun z hz => h z (by simp [hz])) hx
    simp [hy, ih.1, ih.2]
theorem takeWhile_all {α : Type} (p : α → Bool) : ∀ (a : List α), (∀ y ∈ a, p y = true) → a.takeWhile p = a ∧ a.dropWhile p = []
  | [], _ => by simp
  | y :: a, h => by
    have hy := h y (by simp)
    have ih := takeWhile_all p a (fun z hz => h z (by simp [hz]))
    simp [hy, ih.1, ih.2]
theorem cut_yes {c : UInt8} {a : Bs} (b : Bs) (h : c ∉ a) : cut c (a ++ c :: b) = (a, b, true) := by
  unfold cut
  have ht := takeWhile_stop (· != c) a c b (fun y hy => by simp; rintro rfl; exact h hy) (by simp)
  rw [if_pos (by simp), ht.1, ht.2]
  simp
theorem cut_form (c : UInt8) (s : Bs) : (cut c s = (s, [], false) ∧ c ∉ s) ∨ (∃ a b, s = a ++ c :: b ∧ c ∉ a ∧ cut c s = (a, b, true)) := by
  by_cases h : c ∈ s
  · obtain ⟨a, b, rfl, ha⟩ := List.eq_append_cons_of_mem h
    exact .inr ⟨a, b, rfl, ha, cut_yes b ha⟩
  · exact .inl ⟨cut_no h, h⟩
theorem splitOn_nil (c : UInt8) : splitOn c [] = [[]] := rfl
theorem splitOn_here (c : UInt8) (r : Bs) : splitOn c (c :: r) = [] :: splitOn c r := by rw [splitOn, if_pos rfl]
theorem splitOn_ne (c : UInt8) : ∀ s, splitOn c s ≠ []
  | [] => by simp [splitOn]
  | x :: r => by
    unfold splitOn
    split
    · simp
    · split <;> simp
theorem splitOn_there {c x : UInt8} (r : Bs) (h : x ≠ c) : ∃ p l, splitOn c r = p :: l ∧ splitOn c (x :: r) = (x :: p) :: l := by
  cases hs : splitOn c r with
  | nil => exact absurd hs (splitOn_ne c r)
  | cons p l => exact ⟨p, l, rfl, by rw [splitOn, if_neg h, hs]⟩
theorem splitOn_one {c : UInt8} : ∀ (s : Bs), c ∉ s → splitOn c s = [s]
  | [], _ => rfl
  | x :: r, h => by
    simp only [List.mem_cons, not_or] at h
    rw [splitOn, if_neg (fun e => h.1 e.symm), splitOn_one r h.2]
theorem splitOn_cons {c : UInt8} (b : Bs) : ∀ (a : Bs), c ∉ a → splitOn c (a ++ c :: b) = a :: splitOn c b
  | [], _ => splitOn_here c b
  | x :: r, h => by
    simp only [List.mem_cons, not_or] at h
    rw [List.cons_append, splitOn, if_neg (fun e => h.1 e.symm), splitOn_cons b r h.2]
/-- pieces with a byte ahead of each but the first. -/
def joined (c : UInt8) : Bs → List Bs → Bs
  | p, [] => p
  | p, q :: l => p ++ c :: joined c q l
theorem splitOn_joined {c : UInt8} : ∀ (l : List Bs) (p : Bs), c ∉ p → (∀ q ∈ l, c ∉ q) → splitOn c (joined c p l) = p :: l
  | [], p, hp, _ => splitOn_one p hp
  | q :: l, p, hp, h => by rw [joined, splitOn_cons _ p hp, splitOn_joined l q (h q (by simp)) (fun x hx => h x (by simp [hx]))]
theorem flat_joined (c : UInt8) (f : Bs → Bs) : ∀ (l : List Bs) (p : Bs), (p :: l).flatMap (fun p => c :: f p) = c :: joined c (f p) (l.map f)
  | [], p => by simp [joined]
  | q :: l, p => by
    have := flat_joined c f l q
    rw [List.flatMap_cons, this]
    simp [joined]
/-! ### clean -/
def cl (c : UInt8) (t : Bool) : Bs := if plain c || (!t && extra.contains c) then [c] else triple c
theorem cleanN_fuel : ∀ (n m : Nat) (s : Bs), s.length ≤ n → s.length ≤ m → cleanN n s = cleanN m s
  | 0, 0, _, _, _ => rfl
  | 0, m + 1, s, h, _ => by
    have : s = [] := List.eq_nil_of_length_eq_zero (by omega)
    subst this; simp [cleanN]
  | n + 1, 0, s, _, h => by
    have : s = [] := List.eq_nil_of_length_eq_zero (by omega)
    subst this; simp [cleanN]
  | n + 1, m + 1, s, hn, hm => by
    unfold cleanN
    by_cases h : s = []
    · rw [if_pos h, if_pos h]
    · rw [if_neg h, if_neg h]
      cases hr : read s with
      | none => rfl
      | some x =>
        obtain ⟨c, t, r⟩ := x
        have := read_lt hr
        simp only
        rw [cleanN_fuel n m r (by omega) (by omega)]
theorem clean_nil : clean [] = some [] := rfl
theorem clean_step {s : Bs} (h : s ≠ []) : clean s = match read s with
    | none => none
    | some (c, t, r) => (clean r).map (cl c t ++ ·) := by
  have hl : 0 < s.length := List.length_pos_iff.2 h
  obtain ⟨n, hn⟩ : ∃ n, s.length = n + 1 := ⟨s.length - 1, by omega⟩
  unfold clean
  rw [hn]
  conv => lhs; unfold cleanN
  rw [if_neg h]
  cases hr : read s with
  | none => rfl
  | some x =>
    obtain ⟨c, t, r⟩ := x
    have := read_lt hr
    simp only
    rw [cleanN_fuel n r.length r (by omega) (Nat.le_refl _)]
    rfl
theorem extra_ne (c : UInt8) : extra.contains c = true → c ≠ 37 := byte_all (p := fun c => extra.contains c = true → c ≠ 37) (by decide +kernel) c
theorem cl_read (c : UInt8) (t : Bool) (q : Bs) : ∃ t', read (cl c t ++ q) = some (c, t', q) ∧ cl c t' = cl c t := by
  unfold cl
  cases hp : plain c
  · cases t
    · cases he : extra.contains c
      · refine ⟨true, ?_, ?_⟩
        · simp; exact read_triple c q
        · simp
      · refine ⟨false, ?_, ?_⟩
        · simp; exact read_one (extra_ne c he) q
        · simp
    · refine ⟨true, ?_, ?_⟩
      · simp; exact read_triple c q
      · simp
  · refine ⟨false, ?_, ?_⟩
    · simp; exact read_one (plain_ne c hp) q
    · simp
theorem cl_ne (c : UInt8) (t : Bool) : cl c t ≠ [] := by unfold cl triple; split <;> simp
theorem cl_35 (c : UInt8) : 35 ∉ cl c false ∧ 35 ∉ cl c true := byte_all (p := fun c => 35 ∉ cl c false ∧ 35 ∉ cl c true) (by decide +kernel) c
/-- what is clean is clean; and has no 35. -/
theorem clean_clean : ∀ (n : Nat) (s q : Bs), s.length ≤ n → clean s = some q → clean q = some q ∧ 35 ∉ q
  | 0, s, q, hn, h => by
    have : s = [] := List.eq_nil_of_length_eq_zero (by omega)
    subst this
    rw [clean_nil] at h
    injection h with h
    subst h
    exact ⟨rfl, by simp⟩
  | n + 1, s, q, hn, h => by
    by_cases hs : s = []
    · subst hs
      rw [clean_nil] at h
      injection h with h
      subst h
      exact ⟨rfl, by simp⟩
    · rw [clean_step hs] at h
      cases hr : read s with
      | none => rw [hr] at h; cases h
      | some x =>
        obtain ⟨c, t, r⟩ := x
        have hlt := read_lt hr
        rw [hr] at h
        simp only [Option.map_eq_some_iff] at h
        obtain ⟨q', hq, rfl⟩ := h
        obtain ⟨i1, i2⟩ := clean_clean n r q' (by omega) hq
        obtain ⟨t', e1, e2⟩ := cl_read c t q'
        refine ⟨?_, ?_⟩
        · rw [clean_step (by simp [cl_ne]), e1]
          simp only [i1, Option.map_some, e2]
        · have := cl_35 c
          simp only [List.mem_append, not_or]
          exact ⟨by cases t; exact this.1; exact this.2, i2⟩
/-! ### scheme -/
def sc (x : UInt8) : Bool := letter x || digit x || x == 43 || x == 45 || x == 46
theorem lower_sc (c : UInt8) : (letter c = true → letter (lower c) = true) ∧ (sc c = true → sc (lower c) = true) ∧ lower (lower c) = lower c ∧ (sc c = true → c ≠ 58) ∧ (letter c = true → sc c = true ∧ c.toNat < 128) ∧ (sc c = true → c.toNat < 128 ∧ c ≠ 35 ∧ c ≠ 47) :=
  byte_all (p := fun c => (letter c = true → letter (lower c) = true) ∧ (sc c = true → sc (lower c) = true) ∧ lower (lower c) = lower c ∧ (sc c = true → c ≠ 58) ∧ (letter c = true → sc c = true ∧ c.toNat < 128) ∧ (sc c = true → c.toNat < 128 ∧ c ≠ 35 ∧ c ≠ 47)) (by decide +kernel) c
theorem schemeTail_run (r : Bs) : ∀ (t acc : Bs), (∀ x ∈ t, sc x = true) → schemeTail acc (t ++ 58 :: r) = some (small (acc ++ t), r)
  | [], acc, _ => by simp [schemeTail]
  | x :: t, acc, h => by
    have hx := h x (by simp)
    have h58 := (lower_sc x).2.2.2.1 hx
    unfold sc at hx
    rw [List.cons_append, schemeTail, if_neg h58, if_pos hx, schemeTail_run r t _ (fun y hy => h y (by simp [hy]))]
    simp
theorem schemeTail_form : ∀ (s acc a r : Bs), schemeTail acc s = some (a, r) → ∃ t, s = t ++ 58 :: r ∧ (∀ x ∈ t, sc x = true) ∧ a = small (acc ++ t)
  | [], _, _, _, h => by simp [schemeTail] at h
  | x :: s, acc, a, r, h => by
    unfold schemeTail at h
    split at h
    · rename_i h58
      subst h58
      injection h with h
      injection h with h1 h2
      subst h1 h2
      exact ⟨[], rfl, by simp, by simp⟩
    · split at h
      · rename_i hx
        obtain ⟨t, e1, e2, e3⟩ := schemeTail_form s _ a r h
        refine ⟨x :: t, by rw [e1]; rfl, ?_, by rw [e3]; simp⟩
        intro y hy
        rcases List.mem_cons.1 hy with rfl | hy
        · exact hx
        · exact e2 y hy
      · cases h
theorem scheme_form {s a r : Bs} (h : scheme s = some (a, r)) : ∃ c t, s = c :: t ++ 58 :: r ∧ letter c = true ∧ (∀ x ∈ t, sc x = true) ∧ a = small (c :: t) := by
  cases s with
  | nil => simp [scheme] at h
  | cons c s =>
    rw [scheme] at h
    split at h
    · rename_i hc
      obtain ⟨t, e1, e2, e3⟩ := schemeTail_form s _ a r h
      exact ⟨c, t, by rw [e1]; rfl, hc, e2, by rw [e3]; rfl⟩
    · cases h
theorem scheme_run {c : UInt8} {t : Bs} (r : Bs) (hc : letter c = true) (ht : ∀ x ∈ t, sc x = true) : scheme (c :: t ++ 58 :: r) = some (small (c :: t), r) := by
  rw [List.cons_append, scheme, if_pos hc, schemeTail_run r t _ ht]; rfl
/-- a scheme in small letters. -/
def Sch (a : Bs) : Prop := ∃ c t, a = c :: t ∧ letter c = true ∧ (∀ x ∈ t, sc x = true) ∧ small a = a
theorem small_small (s : Bs) : small (small s) = small s := by
  unfold small
  rw [List.map_map]
  exact List.map_congr_left fun c _ => (lower_sc c).2.2.1
theorem scheme_good {s a r : Bs} (h : scheme s = some (a, r)) : Sch a := by
  obtain ⟨c, t, _, hc, ht, rfl⟩ := scheme_form h
  refine ⟨lower c, small t, rfl, (lower_sc c).1 hc, ?_, small_small _⟩
  intro x hx
  unfold small at hx
  obtain ⟨y, hy, rfl⟩ := List.mem_map.1 hx
  exact (lower_sc y).2.1 (ht y hy)
theorem scheme_of {a : Bs} (r : Bs) (h : Sch a) : scheme (a ++ 58 :: r) = some (a, r) := by
  obtain ⟨c, t, rfl, hc, ht, hs⟩ := h
  rw [scheme_run r hc ht, hs]
/-! ### host and port -/
theorem splitOn_all (c : UInt8) (f : UInt8 → Bool) : ∀ s, (∀ p ∈ splitOn c s, p.all f = true) → ∀ x ∈ s, f x = true ∨ x = c
  | [], _, x, hx => by simp at hx
  | y :: s, h, x, hx => by
    by_cases e : y = c
    · subst e
      rw [splitOn_here] at h
      rcases List.mem_cons.1 hx with rfl | hx
      · exact .inr rfl
      · exact splitOn_all y f s (fun p hp => h p (by simp [hp])) x hx
    · obtain ⟨p, l, e1, e2⟩ := splitOn_there s e
      rw [e2] at h
      have h0 := h (y :: p) (by simp)
      simp only [List.all_cons, Bool.and_eq_true] at h0
      rcases List.mem_cons.1 hx with rfl | hx
      · exact .inl h0.1
      · refine splitOn_all c f s (fun q hq => ?_) x hx
        rw [e1] at hq
        rcases List.mem_cons.1 hq with rfl | hq
        · exact h0.2
        · exact h q (by simp [hq])
theorem host_chars {s : Bs} (h : host s = true) : ∀ x ∈ s, hc x = true ∨ x = 46 := by
  unfold host at h
  simp only [Bool.and_eq_true] at h
  refine splitOn_all 46 hc s (fun p hp => ?_)
  have := List.all_eq_true.1 h.2 p hp
  simp only [Bool.and_eq_true] at this
  exact this.2
theorem hc_byte (x : UInt8) : hc x = true ∨ x = 46 → x ≠ 58 ∧ ends x = false ∧ x.toNat < 128 := byte_all (p := fun x => hc x = true ∨ x = 46 → x ≠ 58 ∧ ends x = false ∧ x.toNat < 128) (by decide +kernel) x
theorem number_snoc (l : Bs) (c : UInt8) : number (l ++ [c]) = number l * 10 + (c.toNat - 48) := by unfold number; rw [List.foldl_append]; rfl
theorem number_dec (n : Nat) : number (Go.Lib.decDigits n) = n ∧ (∀ c ∈ Go.Lib.decDigits n, digit c = true) := by
  induction n using Nat.strongRecOn with
  | _ n ih =>
    have hd : ∀ k, k < 10 → digit (UInt8.ofNat (48 + k)) = true ∧ (UInt8.ofNat (48 + k)).toNat - 48 = k := by decide +kernel
    rw [Go.Lib.decDigits]
    by_cases h : n < 10
    · rw [dif_pos h]
      refine ⟨?_, by simpa using (hd n h).1⟩
      have := (hd n h).2
      show 0 * 10 + _ = n
      omega
    · rw [dif_neg h]
      have := ih (n / 10) (by omega)
      have h2 := hd (n % 10) (by omega)
      refine ⟨?_, ?_⟩
      · rw [number_snoc, this.1, h2.2]; omega
      · intro c hcm
        rcases List.mem_append.1 hcm with hcm | hcm
        · exact this.2 c hcm
        · simp only [List.mem_singleton] at hcm
          subst hcm; exact h2.1
theorem dec_len (n : Nat) (h : n ≤ 65535) : 1 ≤ (Go.Lib.decDigits n).length ∧ (Go.Lib.decDigits n).length ≤ 5 := by
  rw [Go.Lib.decDigits_length]
  refine ⟨Go.Lib.nDigits_pos n, ?_⟩
  have step : ∀ k m, m < 10 ^ (k + 1) → Go.Lib.nDigits m ≤ k + 1 := by
    intro k
    induction k with
    | zero => intro m hm; rw [Go.Lib.nDigits_small (by simpa using hm)]; omega
    | succ k ih =>
      intro m hm
      by_cases h : m < 10
      · rw [Go.Lib.nDigits_small h]; omega
      · rw [Go.Lib.nDigits_big h]
        rw [Nat.pow_succ] at hm
        have := ih (m / 10) (by omega)
        omega
  exact step 4 n (by omega)
def portText (p : Nat) : Bs := if p ≠ 0 then 58 :: Go.Lib.decDigits p else []
def PortOk (sch : Bs) (p : Nat) : Prop := p = 0 ∨ (1 ≤ p ∧ p ≤ 65535 ∧ p ≠ own sch)
theorem digit_byte (c : UInt8) : digit c = true → c ≠ 58 ∧ ends c = false := byte_all (p := fun c => digit c = true → c ≠ 58 ∧ ends c = false) (by decide +kernel) c
theorem place_of {sch h : Bs} {p : Nat} (hh : host h = true) (hs : small h = h) (hp : PortOk sch p) : place sch (h ++ portText p) = some (h, p) := by
  have h58 : (58 : UInt8) ∉ h := fun hm => (hc_byte 58 (host_chars hh 58 hm)).1 rfl
  unfold portText
  rcases hp with rfl | ⟨p1, p2, p3⟩
  · unfold place
    simp only [ne_eq, not_true_eq_false, if_false, List.append_nil, cut_no h58, hs, hh]
    simp
  · rw [if_pos (by omega)]
    unfold place
    obtain ⟨n1, n2⟩ := number_dec p
    obtain ⟨l1, l2⟩ := dec_len p p2
    have hall : (Go.Lib.decDigits p).all digit = true := List.all_eq_true.2 n2
    simp only [cut_yes _ h58, hs, hh, n1, hall]
    have l3 : Go.Lib.decDigits p ≠ [] := fun e => by rw [e] at l1; simp at l1
    simp
    exact ⟨⟨l3, l2⟩, ⟨by omega, p2⟩, fun e => absurd e p3⟩
theorem place_good {sch s h : Bs} {p : Nat} (e : place sch s = some (h, p)) : host h = true ∧ small h = h ∧ PortOk sch p := by
  unfold place at e
  rcases hcut : cut 58 s with ⟨a, b, has⟩
  rw [hcut] at e
  simp only at e
  by_cases hh : host (small a) = true
  · rw [if_neg (by simp [hh])] at e
    by_cases hb : has = true
    · rw [if_neg (by simp [hb])] at e
      split at e
      · cases e
      · split at e
        · cases e
        · rename_i h1 h2
          injection e with e
          injection e with e1 e2
          subst e1
          refine ⟨hh, small_small _, ?_⟩
          unfold PortOk
          split at e2 <;> omega
    · rw [if_pos (by simp [hb])] at e
      injection e with e
      injection e with e1 e2
      subst e1 e2
      exact ⟨hh, small_small _, .inl rfl⟩
  · rw [if_pos (by simp [hh])] at e
    cases e
/-! ### path -/
def nd (s : Bs) : Prop := s ≠ [46] ∧ s ≠ [46, 46]
theorem tidyGo_nd : ∀ (l out : List Bs), (∀ x ∈ out, nd x) → ∀ x ∈ tidyGo out l, nd x
  | [], out, h, x, hx => h x (by simpa [tidyGo] using hx)
  | s :: r, out, h, x, hx => by
    unfold tidyGo at hx
    split at hx
    · rename_i hs
      refine tidyGo_nd r _ ?_ x hx
      intro y hy
      rcases List.mem_append.1 hy with hy | hy
      · exact h y hy
      · simp at hy; subst hy; exact hs
    · refine tidyGo_nd r _ ?_ x hx
      intro y hy
      rcases List.mem_append.1 hy with hy | hy
      · split at hy
        · exact h y (List.dropLast_subset _ hy)
        · exact h y hy
      · split at hy
        · simp at hy; subst hy; exact ⟨by simp, by simp⟩
        · simp at hy
theorem tidy_nd (l : List Bs) : tidy l ≠ [] ∧ ∀ x ∈ tidy l, nd x := by
  unfold tidy
  split
  · exact ⟨by simp, by intro x hx; simp at hx; subst hx; exact ⟨by simp, by simp⟩⟩
  · rename_i h
    exact ⟨h, tidyGo_nd l [] (by simp)⟩
theorem tidyGo_of : ∀ (l out : List Bs), (∀ x ∈ l, nd x) → tidyGo out l = out ++ l
  | [], out, _ => by simp [tidyGo]
  | s :: r, out, h => by
    have hs : s ≠ [46] ∧ s ≠ [46, 46] := h s (by simp)
    rw [tidyGo, if_pos hs, tidyGo_of r _ (fun x hx => h x (by simp [hx]))]
    simp
theorem tidy_of {l : List Bs} (h0 : l ≠ []) (h : ∀ x ∈ l, nd x) : tidy l = l := by
  unfold tidy
  rw [tidyGo_of l [] h]
  simp [h0]
theorem decs_enc : ∀ l : List Bs, decs (l.map enc) = some l
  | [] => rfl
  | p :: l => by rw [List.map_cons, decs, dec_enc]; simp [decs_enc l]
theorem enc_no (x : UInt8) (s : Bs) (h : x = 47 ∨ x = 63 ∨ x = 35) : x ∉ enc s := by
  intro hm
  have := List.all_eq_true.1 (enc_in s) x hm
  rcases h with rfl | rfl | rfl <;> revert this <;> decide
/-- what is parsed, or told beside what is parsed. -/
structure Good (u : U) : Prop where
  sch : Sch u.scheme
  hst : host u.host = true
  low : small u.host = u.host
  prt : PortOk u.scheme u.port
  pth : u.path ≠ []
  nod : ∀ p ∈ u.path, nd p
  qry : clean u.query = some u.query ∧ 35 ∉ u.query
  qno : u.asks = false → u.query = []
  frg : clean u.fragment = some u.fragment
  fno : u.points = false → u.fragment = []
def pathText (l : List Bs) : Bs := l.flatMap fun p => 47 :: enc p
def tailText (u : U) : Bs := pathText u.path ++ (if u.asks then 63 :: u.query else []) ++ (if u.points then 35 :: u.fragment else [])
theorem path_no (l : List Bs) (x : UInt8) (h : x = 63 ∨ x = 35) : x ∉ pathText l := by
  intro hm
  unfold pathText at hm
  rw [List.mem_flatMap] at hm
  obtain ⟨p, _, hp⟩ := hm
  rcases List.mem_cons.1 hp with e | hp
  · rcases h with rfl | rfl <;> simp at e
  · exact enc_no x p (by rcases h with h | h <;> simp [h]) hp
theorem path_first {l : List Bs} (h : l ≠ []) : ∃ r, pathText l = 47 :: r ∧ segments r = some l := by
  cases l with
  | nil => exact absurd rfl h
  | cons p l =>
    refine ⟨joined 47 (enc p) (l.map enc), flat_joined 47 enc l p, ?_⟩
    unfold segments
    rw [splitOn_joined _ _ (enc_no 47 p (by simp)) (by intro q hq; obtain ⟨y, _, rfl⟩ := List.mem_map.1 hq; exact enc_no 47 y (by simp))]
    exact decs_enc (p :: l)
theorem tail_text {u : U} (hq : 35 ∉ u.query) (hn : u.asks = false → u.query = []) (hf : u.points = false → u.fragment = []) : tail (tailText u) = ⟨pathText u.path, clean u.query, u.asks, clean u.fragment, u.points⟩ := by
  have h63 := path_no u.path 63 (.inl rfl)
  have h35 := path_no u.path 35 (.inr rfl)
  have c2 : cut 63 (pathText u.path ++ (if u.asks then 63 :: u.query else [])) = (pathText u.path, u.query, u.asks) := by
    cases ha : u.asks
    · simp [cut_no h63, hn ha]
    · simp [cut_yes u.query h63]
  have hno : (35 : UInt8) ∉ pathText u.path ++ (if u.asks then 63 :: u.query else []) := by
    cases u.asks
    · simpa using h35
    · simp [h35, hq]
  have c1 : cut 35 (tailText u) = (pathText u.path ++ (if u.asks then 63 :: u.query else []), u.fragment, u.points) := by
    unfold tailText
    cases hp : u.points
    · simp only [Bool.false_eq_true, if_false, List.append_nil, hf hp]
      exact cut_no hno
    · simp only [if_true]
      exact cut_yes u.fragment hno
  unfold tail
  rw [c1]
  simp only [c2]
def origin' (u : U) : Bs := u.scheme ++ 58 :: 47 :: 47 :: (u.host ++ portText u.port)
theorem origin_eq (u : U) : origin u = origin' u := by
  unfold origin origin' portText digits
  split <;> simp
theorem text_eq (u : U) : text u = origin' u ++ tailText u := by
  unfold text tailText pathText
  rw [origin_eq]
  simp [List.append_assoc]
theorem scheme_text {u : U} (h : Good u) : scheme (text u) = some (u.scheme, 47 :: 47 :: (u.host ++ portText u.port) ++ tailText u) := by
  rw [text_eq]
  unfold origin'
  rw [List.append_assoc, List.cons_append]
  exact scheme_of _ h.sch
theorem parse_text {u : U} (h : Good u) (hl : (text u).length ≤ 500) : parse (text u) = .ok u := by
  unfold parse
  rw [if_neg (by omega), scheme_text h]
  obtain ⟨r, er, es⟩ := path_first h.pth
  have ht : tailText u = 47 :: (r ++ (if u.asks then 63 :: u.query else []) ++ (if u.points then 35 :: u.fragment else [])) := by
    unfold tailText; rw [er]; rfl
  have hw := takeWhile_stop (fun c => !ends c) (u.host ++ portText u.port) 47 (r ++ (if u.asks then 63 :: u.query else []) ++ (if u.points then 35 :: u.fragment else [])) (by
    intro y hy
    rcases List.mem_append.1 hy with hy | hy
    · simp [(hc_byte y (host_chars h.hst y hy)).2.1]
    · unfold portText at hy
      split at hy
      · rcases List.mem_cons.1 hy with rfl | hy
        · decide
        · simp [(digit_byte y ((number_dec u.port).2 y hy)).2]
      · simp at hy) (by decide)
  simp only [twoOff, List.cons_append, ht, and_self, if_true]
  rw [hw.1, hw.2, ← ht]
  simp only [and_self, if_true, place_of h.hst h.low h.prt, tail_text h.qry.2 h.qno h.fno, h.qry.1, h.frg, er, bare, es]
  rw [tidy_of h.pth h.nod]
theorem cut_last (c : UInt8) (s : Bs) : (cut c s).2.2 = false → (cut c s).2.1 = [] := by
  rcases cut_form c s with ⟨h, _⟩ | ⟨a, b, _, _, h⟩ <;> simp [h]
theorem tail_no (s : Bs) : ((tail s).asks = false → (tail s).query = some []) ∧ ((tail s).points = false → (tail s).fragment = some []) := by
  unfold tail
  rcases h1 : cut 35 s with ⟨a, f, p⟩
  rcases h2 : cut 63 a with ⟨q, g, k⟩
  simp only [h2]
  have k1 := cut_last 35 s
  have k2 := cut_last 63 a
  rw [h1] at k1
  rw [h2] at k2
  simp only at k1 k2
  exact ⟨fun e => by rw [k2 e]; rfl, fun e => by rw [k1 e]; rfl⟩
theorem tail_clean {s q f : Bs} (hq : (tail s).query = some q) (hf : (tail s).fragment = some f) :
    (clean q = some q ∧ 35 ∉ q) ∧ (clean f = some f) ∧ ((tail s).asks = false → q = []) ∧ ((tail s).points = false → f = []) := by
  have hn := tail_no s
  refine ⟨?_, ?_, ?_, ?_⟩
  · unfold tail at hq
    exact clean_clean _ _ _ (Nat.le_refl _) hq
  · unfold tail at hf
    exact (clean_clean _ _ _ (Nat.le_refl _) hf).1
  · intro e; have := hn.1 e; rw [hq] at this; injection this
  · intro e; have := hn.2 e; rw [hf] at this; injection this
theorem parse_good {s : Bs} {u : U} (e : parse s = .ok u) : Good u ∧ s.length ≤ 500 := by
  unfold parse at e
  split at e
  · cases e
  · rename_i hlen
    split at e
    · cases e
    · rename_i sch rest hsch
      split at e
      · cases e
      · rename_i rest' htwo
        split at e
        · cases e
        · rename_i h p hpl
          simp only at e
          split at e
          · rename_i q f l hq hf hl
            injection e with e
            subst e
            obtain ⟨p1, p2, p3⟩ := place_good hpl
            obtain ⟨q1, q2, q3, q4⟩ := tail_clean hq hf
            obtain ⟨t1, t2⟩ := tidy_nd l
            exact ⟨⟨scheme_good hsch, p1, p2, p3, t1, t2, q1, q3, q2, q4⟩, by omega⟩
          · cases e
theorem beside_good {b u : U} {r : Bs} (hb : Good b) (e : beside b r = .ok u) : Good u ∧ u.scheme = b.scheme ∧ u.host = b.host ∧ u.port = b.port := by
  unfold beside at e
  simp only at e
  split at e
  · rename_i q f l hq hf hl
    obtain ⟨q1, q2, q3, q4⟩ := tail_clean hq hf
    split at e
    · injection e with e
      subst e
      refine ⟨⟨hb.sch, hb.hst, hb.low, hb.prt, hb.pth, hb.nod, ?_, ?_, q2, q4⟩, rfl, rfl, rfl⟩
      · simp only; split
        · exact q1
        · exact hb.qry
      · simp only
        intro h
        simp only [Bool.or_eq_false_iff] at h
        rw [h.1]
        simpa using hb.qno h.2
    · injection e with e
      subst e
      obtain ⟨t1, t2⟩ := tidy_nd (if (tail r).path.head? = some 47 then l else b.path.dropLast ++ l)
      exact ⟨⟨hb.sch, hb.hst, hb.low, hb.prt, t1, t2, q1, q3, q2, q4⟩, rfl, rfl, rfl⟩
  · cases e
end Urly

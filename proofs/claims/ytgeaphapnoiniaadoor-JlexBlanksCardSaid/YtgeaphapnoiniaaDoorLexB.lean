/-
  More blanks between tokens are no matter. Conditions: none.
-/
import Derived.Test.YtgeaphapnoiniaaDoorLexW
namespace Lexy

def SO : Bs := [32, 9, 47, 47, 32, 115, 111, 10]
/-- what is put in behind a gap. -/
def so (first : Bool) (g : Bs) : Bs := if !first && !(g.contains 47) then SO else []
/-- a text with more between its tokens; what stands behind the last one is left out. -/
def wide : Bool → Nat → Bs → List Tok → Bs
  | _, _, _, [] => []
  | first, p, l, x :: ts => l.take (x.lo - p) ++ (so first (l.take (x.lo - p)) ++ ((l.drop (x.lo - p)).take (x.hi - x.lo) ++ wide false x.hi (l.drop (x.hi - p)) ts))

theorem skp_so (r : Bs) : skp false (SO ++ r) = SO.length + skp false r := by
  simp [SO, skp, isBlank]; omega

theorem skp_zero_soft {a x y : Bs} (h : skp false (a ++ x) = 0) (ha : a ≠ []) (hs : Soft y x) : skp false (a ++ y) = 0 := by
  cases a with
  | nil => exact absurd rfl ha
  | cons c r =>
    simp only [List.cons_append, skp] at h ⊢
    by_cases h1 : isBlank c = true
    · rw [if_pos h1] at h; omega
    · rw [if_neg h1] at h ⊢
      by_cases h2 : (c == 47 && (r ++ x).head? == some 47) = true
      · rw [if_pos h2] at h; omega
      · rw [if_neg]
        intro h3
        apply h2
        simp only [Bool.and_eq_true, beq_iff_eq] at h3 ⊢
        refine ⟨h3.1, ?_⟩
        cases r with
        | cons d r' => simpa using h3.2
        | nil =>
          have h4 : y.head? = some 47 := by simpa using h3.2
          rcases hs with hs | hs
          · simpa [← hs] using h4
          · rcases hs 47 h4 with h5 | h5 <;> exact absurd h5 (by decide)

theorem wide_soft (p : Nat) (l : Bs) (ts : List Tok) : Soft (wide false p l ts) l := by
  cases ts with
  | nil => exact .inr (fun c hc => by simp [wide] at hc)
  | cons x ts =>
    unfold wide
    cases hg : l.take (x.lo - p) with
    | nil => exact .inr (fun c hc => by simp [so, SO] at hc; exact .inr hc.symm)
    | cons d r =>
      refine .inl ?_
      cases l with
      | nil => simp at hg
      | cons e l' =>
        cases hk : x.lo - p with
        | zero => rw [hk] at hg; simp at hg
        | succ k => rw [hk] at hg; simp at hg; simp [hg.1]

theorem lex_wide {p : Nat} {l : Bs} {ts : List Tok} (h : Lex p l ts) : ∀ (first : Bool) (p' : Nat), ∃ ts', Lex p' (wide first p l ts) ts' ∧ ts'.map (·.toTk) = ts.map (·.toTk) := by
  induction h with
  | done p l hd => intro first p'; exact ⟨[], .done _ _ (by simp [wide]), rfl⟩
  | more p l tk n ts hne hn hrest ih =>
    intro first p'
    have hlo : p + skp false l - p = skp false l := by omega
    have hhi : p + skp false l + n - (p + skp false l) = n := by omega
    have hall : p + skp false l + n - p = skp false l + n := by omega
    obtain ⟨e1, e2, e3, e4⟩ := next_split hn
    have h1 := skp_le false l
    have hgl : (l.take (skp false l)).length = skp false l := by rw [List.length_take]; omega
    have hW : Soft (wide false (p + skp false l + n) (l.drop (skp false l + n)) ts) ((l.drop (skp false l)).drop n) := by
      rw [List.drop_drop]; exact wide_soft _ _ _
    have hnx := e4 _ hW
    have hz := skp_idem false l
    have htn : (l.drop (skp false l)).take n ≠ [] := by intro e; rw [e] at e2; simp at e2; omega
    have hz2 : skp false ((l.drop (skp false l)).take n ++ wide false (p + skp false l + n) (l.drop (skp false l + n)) ts) = 0 := by
      rw [e1] at hz
      exact skp_zero_soft hz htn hW
    have hg : ∀ y, skp false (l.take (skp false l) ++ y) = skp false l + skp false y := by
      intro y
      have := skp_gap false (l.take (skp false l)) (l.drop (skp false l)) hne (by rw [List.take_append_drop, hgl]) (by simp) y
      rwa [hgl] at this
    have hwide : wide first p l (⟨tk, p + skp false l, p + skp false l + n⟩ :: ts) = (l.take (skp false l) ++ so first (l.take (skp false l))) ++ ((l.drop (skp false l)).take n ++ wide false (p + skp false l + n) (l.drop (skp false l + n)) ts) := by
      simp only [wide, hlo, hhi, hall, List.append_assoc]
    rw [hwide]
    have hs : skp false ((l.take (skp false l) ++ so first (l.take (skp false l))) ++ ((l.drop (skp false l)).take n ++ wide false (p + skp false l + n) (l.drop (skp false l + n)) ts)) = (l.take (skp false l) ++ so first (l.take (skp false l))).length := by
      rw [List.append_assoc, hg]
      unfold so
      split
      · rw [skp_so, hz2]; simp [hgl]
      · rw [List.nil_append, hz2]; simp [hgl]
    obtain ⟨ts', i1, i2⟩ := ih false (p' + skp false ((l.take (skp false l) ++ so first (l.take (skp false l))) ++ ((l.drop (skp false l)).take n ++ wide false (p + skp false l + n) (l.drop (skp false l + n)) ts)) + n)
    rw [List.drop_drop] at i1
    have hd := List.drop_left' (l₁ := l.take (skp false l) ++ so first (l.take (skp false l))) (l₂ := (l.drop (skp false l)).take n ++ wide false (p + skp false l + n) (l.drop (skp false l + n)) ts) hs.symm
    refine ⟨_ :: ts', .more p' _ tk n ts' ?_ ?_ ?_, ?_⟩
    · rw [hd]; intro e; exact htn (List.append_eq_nil_iff.1 e).1
    · rw [hd]; exact hnx
    · rw [hd, List.drop_left' e2]; exact i1
    · simp [i2]
theorem toks_wide {s : Bs} {ts : List Tok} (h : Lex 0 s ts) (hl : ts.length ≤ 1000) (hw : (wide true 0 s ts).length ≤ 2000) :
    ∃ ts', toks (wide true 0 s ts) = .ok ts' ∧ ts'.map (·.toTk) = ts.map (·.toTk) := by
  obtain ⟨ts', h1, h2⟩ := lex_wide h true 0
  have hlen : ts'.length = ts.length := by have := congrArg List.length h2; simpa using this
  refine ⟨ts', ?_, h2⟩
  unfold toks
  rw [if_neg (by omega), of_lex h1, if_pos (by omega)]
theorem wide_len {p : Nat} {l : Bs} {ts : List Tok} (h : Lex p l ts) : ∀ first : Bool, (wide first p l ts).length ≤ l.length + 8 * ts.length := by
  induction h with
  | done p l hd => intro first; simp [wide]
  | more p l tk n ts hne hn hrest ih =>
    intro first
    have h1 := skp_le false l
    have hnl := next_len hn
    rw [List.length_drop] at hnl
    have i := ih false
    rw [List.drop_drop, List.length_drop] at i
    have hso : (so first (l.take (skp false l))).length ≤ 8 := by unfold so; split <;> simp [SO]
    simp only [wide, show p + skp false l - p = skp false l by omega, show p + skp false l + n - (p + skp false l) = n by omega, show p + skp false l + n - p = skp false l + n by omega,
      List.length_append, List.length_take, List.length_drop, List.length_cons]
    omega
end Lexy

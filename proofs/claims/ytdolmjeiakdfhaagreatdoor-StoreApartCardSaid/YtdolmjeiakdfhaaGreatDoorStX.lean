/-
  Stores, plain. Conditions: none.
-/
import Derived.Test.YtdolmjeiakdfhaaGreatDoorUrl
namespace Story
set_option linter.unusedSimpArgs false
set_option linter.unusedVariables false
abbrev Bs := List UInt8
/-- a drawer: its keys, what they tell, how many bytes. -/
structure D where
  keys : List Bs
  f : Bs → Option Bs
  bytes : Int
structure Ans where
  err : Nat
  text : Bs
  is : Bool
  keys : List Bs
  deriving DecidableEq
structure Op where
  kind : Int
  loc : Bs
  key : Bs
  value : Bs
def d0 : D := ⟨[], fun _ => none, 0⟩
def setF (f : Bs → Option Bs) (k : Bs) (v : Option Bs) : Bs → Option Bs := fun x => if x = k then v else f x
def more (d : D) (k v : Bs) : Int := (v.length : Int) - (((d.f k).getD []).length : Int) + (if (d.f k).isSome then 0 else (k.length : Int))
def put (d : D) (k v : Bs) : Ans × D :=
  if 400 < d.bytes + more d k v then (⟨2, [], false, []⟩, d)
  else (⟨0, (d.f k).getD [], (d.f k).isSome, []⟩, ⟨if (d.f k).isSome then d.keys else d.keys ++ [k], setF d.f k (some v), d.bytes + more d k v⟩)
def get (d : D) (k : Bs) : Ans × D := (⟨0, (d.f k).getD [], (d.f k).isSome, []⟩, d)
def drop (d : D) (k : Bs) : Ans × D := (⟨0, (d.f k).getD [], (d.f k).isSome, []⟩,
  if (d.f k).isSome then ⟨d.keys.filter (fun x => !decide (x = k)), setF d.f k none, d.bytes - ((k.length : Int) + (((d.f k).getD []).length : Int))⟩ else d)
def clear (d : D) : Ans × D := (⟨0, [], decide (0 < d.keys.length), []⟩, d0)
def keysOf (d : D) : Ans × D := (⟨0, [], false, d.keys⟩, d)
def doOp (d : D) (o : Op) : Ans × D :=
  if o.kind = 1 then put d o.key o.value else if o.kind = 2 then get d o.key else if o.kind = 3 then drop d o.key else if o.kind = 4 then clear d
  else if o.kind = 5 then keysOf d else (⟨1, [], false, []⟩, d)
abbrev St := Bs → Option D
def setS (S : St) (g : Bs) (d : D) : St := fun x => if x = g then some d else S x
def step (S : St) (o : Op) : Ans × St := match Urly.originOf o.loc with
  | .error e => (⟨e, [], false, []⟩, S)
  | .ok g => ((doOp ((S g).getD d0) o).1, setS S g (doOp ((S g).getD d0) o).2)
def runs : St → List Op → List Ans
  | _, [] => []
  | S, o :: l => (step S o).1 :: runs (step S o).2 l
/-- the state behind some ops. -/
def after : St → List Op → St
  | S, [] => S
  | S, o :: l => after (step S o).2 l
def run (l : List Op) : Except Nat (List Ans) := if 100 < l.length then .error 2 else .ok (runs (fun _ => none) l)
theorem runs_append : ∀ (a b : List Op) (S : St), runs S (a ++ b) = runs S a ++ runs (after S a) b
  | [], _, _ => rfl
  | o :: a, b, S => by simp only [List.cons_append, runs, after, runs_append a b]
theorem after_append : ∀ (a b : List Op) (S : St), after S (a ++ b) = after (after S a) b
  | [], _, _ => rfl
  | o :: a, b, S => by simp only [List.cons_append, after, after_append a b]
theorem runs_len : ∀ (a : List Op) (S : St), (runs S a).length = a.length
  | [], _ => rfl
  | o :: a, S => by simp only [runs, List.length_cons, runs_len a]
end Story

namespace Story
set_option linter.unusedSimpArgs false
set_option linter.unusedVariables false
/-- the bytes of some keys and what they tell. -/
def bulk (f : Bs → Option Bs) (l : List Bs) : Int := (l.map fun k => (k.length : Int) + (((f k).getD []).length : Int)).sum
structure Inv (d : D) : Prop where
  nod : d.keys.Nodup
  dom : ∀ k, (d.f k).isSome = true ↔ k ∈ d.keys
  sum : d.bytes = bulk d.f d.keys
  few : d.bytes ≤ 400
theorem inv_d0 : Inv d0 := ⟨List.nodup_nil, fun k => by simp [d0], rfl, by simp [d0]⟩
theorem bulk_nonneg (f : Bs → Option Bs) : ∀ l, 0 ≤ bulk f l
  | [] => by simp [bulk]
  | k :: l => by
    have := bulk_nonneg f l
    simp only [bulk, List.map_cons, List.sum_cons] at this ⊢
    omega
theorem bulk_cons (f : Bs → Option Bs) (k : Bs) (l : List Bs) : bulk f (k :: l) = (k.length : Int) + (((f k).getD []).length : Int) + bulk f l := by simp [bulk]
theorem bulk_append (f : Bs → Option Bs) (a b : List Bs) : bulk f (a ++ b) = bulk f a + bulk f b := by simp [bulk]
theorem bulk_mem {f : Bs → Option Bs} {k : Bs} : ∀ {l : List Bs}, k ∈ l → (k.length : Int) + (((f k).getD []).length : Int) ≤ bulk f l
  | x :: l, h => by
    rw [bulk_cons]
    have h0 := bulk_nonneg f l
    rcases List.mem_cons.1 h with rfl | h
    · omega
    · have := bulk_mem (f := f) h; omega
theorem bulk_congr {f g : Bs → Option Bs} : ∀ {l : List Bs}, (∀ k ∈ l, f k = g k) → bulk f l = bulk g l
  | [], _ => rfl
  | k :: l, h => by rw [bulk_cons, bulk_cons, h k (by simp), bulk_congr fun x hx => h x (by simp [hx])]
theorem bulk_set {f : Bs → Option Bs} {k v : Bs} : ∀ {l : List Bs}, l.Nodup → k ∈ l → bulk (setF f k (some v)) l = bulk f l + (v.length : Int) - (((f k).getD []).length : Int)
  | x :: l, hn, h => by
    rw [bulk_cons, bulk_cons]
    have hn' := List.nodup_cons.1 hn
    by_cases e : x = k
    · subst e
      rw [bulk_congr (f := setF f x (some v)) (g := f) fun y hy => by unfold setF; rw [if_neg (by rintro rfl; exact hn'.1 hy)]]
      simp [setF]; omega
    · have hk : k ∈ l := by rcases List.mem_cons.1 h with rfl | h; exact absurd rfl e; exact h
      rw [bulk_set hn'.2 hk]
      have : setF f k (some v) x = f x := by unfold setF; rw [if_neg e]
      rw [this]; omega
theorem bulk_drop {f : Bs → Option Bs} {k : Bs} : ∀ {l : List Bs}, l.Nodup → k ∈ l → bulk (setF f k none) (l.filter fun x => !decide (x = k)) + ((k.length : Int) + (((f k).getD []).length : Int)) = bulk f l
  | x :: l, hn, h => by
    have hn' := List.nodup_cons.1 hn
    by_cases e : x = k
    · subst e
      have hf : (l.filter fun y => !decide (y = x)) = l := List.filter_eq_self.2 fun y hy => by
        simp; exact fun e => hn'.1 (e ▸ hy)
      rw [List.filter_cons, if_neg (by simp), hf, bulk_cons, bulk_congr (f := setF f x none) (g := f) fun y hy => by unfold setF; rw [if_neg (by rintro rfl; exact hn'.1 hy)]]
      omega
    · have hk : k ∈ l := by rcases List.mem_cons.1 h with rfl | h; exact absurd rfl e; exact h
      rw [List.filter_cons, if_pos (by simp [e]), bulk_cons, bulk_cons]
      have := bulk_drop (f := f) hn'.2 hk
      have h2 : setF f k none x = f x := by unfold setF; rw [if_neg e]
      rw [h2]; omega
section
variable {d : D} {k v : Bs}
theorem Inv.some (h : Inv d) (hk : d.f k = some v) : (k.length : Int) + (v.length : Int) ≤ d.bytes := by
  have := bulk_mem (f := d.f) ((h.dom k).1 (by rw [hk]; rfl))
  rw [hk] at this
  rw [h.sum]
  simpa using this
theorem Inv.zero (h : Inv d) : 0 ≤ d.bytes := by rw [h.sum]; exact bulk_nonneg _ _
theorem Inv.was (h : Inv d) (k : Bs) : (((d.f k).getD []).length : Int) ≤ 400 := by
  cases hk : d.f k with
  | none => simp
  | some v => have := h.some hk; have := h.few; simp; omega
theorem put_inv (h : Inv d) (k v : Bs) : Inv (put d k v).2 := by
  unfold put
  split
  · exact h
  · rename_i hle
    simp only
    cases hk : d.f k with
    | some u =>
      have hm : k ∈ d.keys := (h.dom k).1 (by rw [hk]; rfl)
      refine ⟨?_, ?_, ?_, ?_⟩
      · simpa using h.nod
      · intro x
        simp only [Option.isSome_some, if_true]
        unfold setF
        by_cases e : x = k
        · subst e; simp [hm]
        · rw [if_neg e]; exact h.dom x
      · simp only [Option.isSome_some, if_true]
        rw [bulk_set h.nod hm, ← h.sum]
        unfold more
        rw [hk]; simp; omega
      · simp only; omega
    | none =>
      have hm : k ∉ d.keys := fun hx => by have := (h.dom k).2 hx; rw [hk] at this; cases this
      refine ⟨?_, ?_, ?_, ?_⟩
      · simp only [Option.isSome_none, Bool.false_eq_true, if_false]
        exact List.nodup_append.2 ⟨h.nod, by simp, fun a ha b hb => by simp at hb; subst hb; exact fun e => hm (e ▸ ha)⟩
      · intro x
        simp only [Option.isSome_none, Bool.false_eq_true, if_false]
        unfold setF
        by_cases e : x = k
        · subst e; simp
        · rw [if_neg e, h.dom x]; simp [e]
      · simp only [Option.isSome_none, Bool.false_eq_true, if_false]
        rw [bulk_append, bulk_congr (f := setF d.f k (some v)) (g := d.f) fun y hy => by unfold setF; rw [if_neg (by rintro rfl; exact hm hy)], ← h.sum]
        unfold more
        rw [hk]
        simp [bulk, setF]; omega
      · simp only; omega
theorem drop_inv (h : Inv d) (k : Bs) : Inv (drop d k).2 := by
  unfold drop
  simp only
  split
  · rename_i hs
    have hm : k ∈ d.keys := (h.dom k).1 hs
    have hb := bulk_drop (f := d.f) h.nod hm
    refine ⟨h.nod.filter _, ?_, ?_, ?_⟩
    · intro x
      simp only [setF]
      by_cases e : x = k
      · subst e; simp
      · rw [if_neg e, h.dom x]; simp [e]
    · simp only
      have := h.sum
      omega
    · simp only
      have := h.few
      omega
  · exact h
theorem do_inv (h : Inv d) (o : Op) : Inv (doOp d o).2 := by
  unfold doOp
  split
  · exact put_inv h _ _
  · split
    · exact h
    · split
      · exact drop_inv h _
      · split
        · exact inv_d0
        · split
          · exact h
          · exact h
theorem put_len (d : D) (k v : Bs) : (put d k v).2.keys.length ≤ d.keys.length + 1 := by
  unfold put
  split
  · simp
  · simp only; split <;> simp
theorem do_len (d : D) (o : Op) : (doOp d o).2.keys.length ≤ d.keys.length + 1 := by
  unfold doOp
  split
  · exact put_len d _ _
  · split
    · simp [get]
    · split
      · simp only [drop]
        split
        · have := List.length_filter_le (fun x => !decide (x = o.key)) d.keys
          simp only; omega
        · omega
      · split
        · simp [clear, d0]
        · split <;> simp [keysOf]
end
end Story

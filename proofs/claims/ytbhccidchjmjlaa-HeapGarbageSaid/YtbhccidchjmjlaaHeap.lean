/-
  Heaps of scripts, plain: what is right, what is reached, swept, moved, alike. Conditions: none.
-/
import Derived.Test.YtbhccidchjmjlaaVal
namespace Hepy
open Valu (V check)
set_option linter.unusedSimpArgs false
set_option linter.unusedVariables false
abbrev Bs := List UInt8
structure Cell where
  kind : Int
  names : List Bs
  vals : List V
  deriving DecidableEq
/-- of which cell; -1: of none. -/
def ref (v : V) : Int := if v.k = 4 then v.n else -1
def none_ : Cell := ⟨0, [], []⟩
def at_ (h : List Cell) (n : Nat) : Cell := (h[n]?).getD none_
def fits (h : List Cell) (v : V) : Bool := check v && (decide (ref v < 0) || (decide (ref v < (h.length : Int)) && decide ((at_ h (ref v).toNat).kind ≠ 0)))
def rising : List Bs → Bool
  | a :: b :: r => Go.Op.bytesLess a b && rising (b :: r)
  | _ => true
def shape (c : Cell) : Bool :=
  if c.kind = 0 then decide (c.vals.length = 0) && decide (c.names.length = 0)
  else if c.kind = 1 ∨ c.kind = 3 then decide (c.names.length = 0)
  else if c.kind = 2 then decide (c.names.length = c.vals.length)
  else false
def cellOk (h : List Cell) (c : Cell) : Bool := shape c && (rising c.names && c.vals.all (fits h))
def checkH (h : List Cell) : Nat :=
  if 300 < h.length then 2 else if h.any (fun c => decide (200 < c.vals.length)) then 2 else if h.all (cellOk h) then 0 else 3
def askedH (h : List Cell) (roots : List V) : Nat := if checkH h ≠ 0 then checkH h else if roots.all (fits h) then 0 else 1
/-- all that is come to from a value, behind what was. -/
def come (h : List Cell) : Nat → List Nat → V → List Nat
  | 0, all, _ => all
  | m + 1, all, v => if ref v < 0 ∨ (ref v).toNat ∈ all then all else (at_ h (ref v).toNat).vals.foldl (come h m) (all ++ [(ref v).toNat])
def walked (h : List Cell) (roots : List V) : List Nat := roots.foldl (come h (h.length + 1)) []
/-- values by new numbers. -/
def ren (f : Nat → Nat) (v : V) : V := if 0 ≤ ref v then ⟨v.k, (f (ref v).toNat : Nat), v.s⟩ else v
def renC (f : Nat → Nat) (c : Cell) : Cell := ⟨c.kind, c.names, c.vals.map (ren f)⟩
def pos (W : List Nat) (n : Nat) : Nat := W.idxOf n
def sweptW (h : List Cell) (W : List Nat) : List Cell := (List.range h.length).map fun n => if n ∈ W then at_ h n else none_
def movedW (h : List Cell) (W : List Nat) : List Cell := W.map fun n => renC (pos W) (at_ h n)
def swept (h : List Cell) (roots : List V) : List Cell := sweptW h (walked h roots)
def moved (h : List Cell) (roots : List V) : List Cell := movedW h (walked h roots)
def movedR (h : List Cell) (roots : List V) : List V := roots.map (ren (pos (walked h roots)))

theorem nodup_lt : ∀ (N : Nat) (l : List Nat), l.Nodup → (∀ x ∈ l, x < N) → l.length ≤ N
  | 0, l, _, h => by
    cases l with
    | nil => simp
    | cons x l => exact absurd (h x (List.mem_cons_self ..)) (Nat.not_lt_zero _)
  | N + 1, l, hd, h => by
    by_cases hN : N ∈ l
    · have h1 := nodup_lt N (l.erase N) (hd.erase N) (fun x hx => by
        have h2 := h x (List.mem_of_mem_erase hx)
        have h3 : x ≠ N := fun e => by subst e; exact hd.not_mem_erase hx
        omega)
      rw [List.length_erase_of_mem hN] at h1
      omega
    · have := nodup_lt N l hd (fun x hx => by
        have h2 := h x hx
        have h3 : x ≠ N := fun e => by subst e; exact hN hx
        omega)
      omega
/-- what was come to so far. -/
structure Okl (h : List Cell) (all : List Nat) : Prop where
  nd : all.Nodup
  lt : ∀ n ∈ all, n < h.length
theorem Okl.nil (h : List Cell) : Okl h [] := ⟨List.nodup_nil, fun n hn => by simp at hn⟩
theorem Okl.len {h : List Cell} {all : List Nat} (k : Okl h all) : all.length ≤ h.length := nodup_lt _ _ k.nd k.lt
theorem Okl.snoc {h : List Cell} {all : List Nat} (k : Okl h all) {n : Nat} (h1 : n < h.length) (h2 : n ∉ all) : Okl h (all ++ [n]) := by
  refine ⟨?_, fun m hm => ?_⟩
  · rw [List.nodup_append]
    exact ⟨k.nd, by simp, fun a ha b hb e => by simp at hb; subst hb; exact h2 (e ▸ ha)⟩
  · rcases List.mem_append.1 hm with h3 | h3
    · exact k.lt m h3
    · simp at h3; omega
/-- each reference of a value leads to a cell. -/
def Leads (h : List Cell) (v : V) : Prop := ref v < (h.length : Int)
def Sound (h : List Cell) : Prop := ∀ n, n < h.length → ∀ v ∈ (at_ h n).vals, Leads h v
/-- all in T leads to T. -/
def Closed (h : List Cell) (T : Nat → Prop) (all : List Nat) : Prop := ∀ n, T n → n ∉ all → ∀ v ∈ (at_ h n).vals, 0 ≤ ref v → T (ref v).toNat

theorem fold_ind {α β : Type} {f : α → β → α} {P : α → Prop} : ∀ (l : List β) (a : α), P a → (∀ a b, b ∈ l → P a → P (f a b)) → P (l.foldl f a)
  | [], _, h, _ => h
  | b :: l, a, h, hs => by
    rw [List.foldl_cons]
    exact fold_ind l _ (hs a b (List.mem_cons_self ..) h) (fun a c hc => hs a c (List.mem_cons_of_mem _ hc))

/-- what coming does: it is right still, holds what was, and the value's cell; what is new in it leads into it. -/
structure Came (h : List Cell) (all : List Nat) (vs : List V) (r : List Nat) : Prop where
  ok : Okl h r
  pre : all <+: r
  has : ∀ v ∈ vs, 0 ≤ ref v → (ref v).toNat ∈ r
  cl : ∀ n ∈ r, n ∉ all → ∀ v ∈ (at_ h n).vals, 0 ≤ ref v → (ref v).toNat ∈ r
theorem fold_came {h : List Cell} {m : Nat} (ih : ∀ (all : List Nat) (v : V), Okl h all → Leads h v → h.length < m + all.length → Came h all [v] (come h m all v)) :
    ∀ (vs : List V) (all : List Nat), Okl h all → (∀ v ∈ vs, Leads h v) → h.length < m + all.length → Came h all vs (vs.foldl (come h m) all)
  | [], all, k, _, _ => ⟨k, List.prefix_refl _, fun v hv => by simp at hv, fun n hn hn2 => absurd hn hn2⟩
  | v :: vs, all, k, hl, hm => by
    have c1 := ih all v k (hl v (List.mem_cons_self ..)) hm
    have hle := c1.pre.length_le
    have c2 := fold_came ih vs (come h m all v) c1.ok (fun x hx => hl x (List.mem_cons_of_mem _ hx)) (by omega)
    rw [List.foldl_cons]
    refine ⟨c2.ok, c1.pre.trans c2.pre, fun x hx h0 => ?_, fun n hn hn2 x hx h0 => ?_⟩
    · rcases List.mem_cons.1 hx with rfl | hx
      · exact c2.pre.subset (c1.has x (List.mem_singleton.2 rfl) h0)
      · exact c2.has x hx h0
    · by_cases h1 : n ∈ come h m all v
      · exact c2.pre.subset (c1.cl n h1 hn2 x hx h0)
      · exact c2.cl n hn h1 x hx h0
theorem come_came {h : List Cell} (hs : Sound h) : ∀ (m : Nat) (all : List Nat) (v : V), Okl h all → Leads h v → h.length < m + all.length → Came h all [v] (come h m all v)
  | 0, all, v, k, _, hm => absurd k.len (by omega)
  | m + 1, all, v, k, hl, hm => by
    rw [come]
    by_cases hc : ref v < 0 ∨ (ref v).toNat ∈ all
    · rw [if_pos hc]
      refine ⟨k, List.prefix_refl _, fun x hx h0 => ?_, fun n hn hn2 => absurd hn hn2⟩
      rw [List.mem_singleton] at hx
      subst hx
      rcases hc with hc | hc
      · omega
      · exact hc
    · rw [if_neg hc]
      have hc' := not_or.1 hc
      unfold Leads at hl
      have hlt : (ref v).toNat < h.length := by omega
      have k2 := k.snoc hlt hc'.2
      have c := fold_came (come_came hs m) (at_ h (ref v).toNat).vals (all ++ [(ref v).toNat]) k2 (hs _ hlt) (by simp; omega)
      have hin : (ref v).toNat ∈ all ++ [(ref v).toNat] := by simp
      refine ⟨c.ok, (List.prefix_append _ _).trans c.pre, fun x hx h0 => ?_, fun n hn hn2 x hx h0 => ?_⟩
      · rw [List.mem_singleton] at hx
        subst hx
        exact c.pre.subset hin
      · by_cases h1 : n ∈ all ++ [(ref v).toNat]
        · have : n = (ref v).toNat := by
            rcases List.mem_append.1 h1 with h1 | h1
            · exact absurd h1 hn2
            · simpa using h1
          subst this
          exact c.has x hx h0
        · exact c.cl n hn h1 x hx h0
theorem walked_came {h : List Cell} (hs : Sound h) {roots : List V} (hr : ∀ v ∈ roots, Leads h v) : Came h [] roots (walked h roots) :=
  fold_came (come_came hs (h.length + 1)) roots [] (Okl.nil h) hr (by simp)
theorem come_in {h : List Cell} {T : Nat → Prop} (hT : ∀ n, T n → ∀ v ∈ (at_ h n).vals, 0 ≤ ref v → T (ref v).toNat) : ∀ (m : Nat) (all : List Nat) (v : V), (∀ n ∈ all, T n) → (0 ≤ ref v → T (ref v).toNat) → ∀ n ∈ come h m all v, T n
  | 0, all, v, ha, _ => ha
  | m + 1, all, v, ha, hv => by
    rw [come]
    by_cases hc : ref v < 0 ∨ (ref v).toNat ∈ all
    · rw [if_pos hc]; exact ha
    · rw [if_neg hc]
      have hc' := not_or.1 hc
      have hv' := hv (by omega)
      refine fold_ind (P := fun a => ∀ n ∈ a, T n) _ _ (fun n hn => ?_) (fun a x hx h => come_in hT m a x h (hT _ hv' x hx))
      rcases List.mem_append.1 hn with hn | hn
      · exact ha n hn
      · simp at hn; subst hn; exact hv'
theorem walked_in {h : List Cell} {T : Nat → Prop} (hT : ∀ n, T n → ∀ v ∈ (at_ h n).vals, 0 ≤ ref v → T (ref v).toNat) {roots : List V} (hr : ∀ v ∈ roots, 0 ≤ ref v → T (ref v).toNat) : ∀ n ∈ walked h roots, T n :=
  fold_ind (P := fun a => ∀ n ∈ a, T n) roots [] (fun n hn => by simp at hn) (fun a v hv h => come_in hT _ a v h (hr v hv))

theorem ref_ren (f : Nat → Nat) (v : V) : ref (ren f v) = if 0 ≤ ref v then ((f (ref v).toNat : Nat) : Int) else ref v := by
  unfold ren
  by_cases h : 0 ≤ ref v
  · rw [if_pos h, if_pos h]
    unfold ref at h ⊢
    by_cases h4 : v.k = 4
    · simp [h4]
    · rw [if_neg h4] at h; omega
  · rw [if_neg h, if_neg h]
/-- what is in T of h is in h2, by new numbers. -/
structure Iso (h h2 : List Cell) (T : Nat → Prop) (f : Nat → Nat) : Prop where
  lt : ∀ n, T n → n < h.length ∧ f n < h2.length
  inj : ∀ a b, T a → T b → f a = f b → a = b
  cl : ∀ n, T n → ∀ v ∈ (at_ h n).vals, 0 ≤ ref v → T (ref v).toNat
  eq : ∀ n, T n → at_ h2 (f n) = renC f (at_ h n)
theorem map_mem {T : Nat → Prop} {f : Nat → Nat} (hi : ∀ a b, T a → T b → f a = f b → a = b) {l : List Nat} (hl : ∀ n ∈ l, T n) {n : Nat} (hn : T n) : f n ∈ l.map f ↔ n ∈ l := by
  rw [List.mem_map]
  constructor
  · rintro ⟨a, ha, he⟩
    rw [← hi a n (hl a ha) hn he]; exact ha
  · intro h; exact ⟨n, h, rfl⟩
theorem map_okl {h h2 : List Cell} {T : Nat → Prop} {f : Nat → Nat} (I : Iso h h2 T f) {l : List Nat} (k : Okl h l) (hl : ∀ n ∈ l, T n) : Okl h2 (l.map f) := by
  refine ⟨?_, fun n hn => ?_⟩
  · unfold List.Nodup
    rw [List.pairwise_map]
    exact k.nd.imp_of_mem (fun ha hb hab he => hab (I.inj _ _ (hl _ ha) (hl _ hb) he))
  · obtain ⟨a, ha, rfl⟩ := List.mem_map.1 hn
    exact (I.lt a (hl a ha)).2
theorem fold_iso {h h2 : List Cell} {T : Nat → Prop} {f : Nat → Nat} {m m2 : Nat}
    (ih : ∀ (all : List Nat) (v : V), Okl h all → (∀ n ∈ all, T n) → (0 ≤ ref v → T (ref v).toNat) → h.length < m + all.length → h2.length < m2 + all.length → come h2 m2 (all.map f) (ren f v) = (come h m all v).map f ∧ Okl h (come h m all v) ∧ (∀ n ∈ come h m all v, T n) ∧ all.length ≤ (come h m all v).length) :
    ∀ (vs : List V) (all : List Nat), Okl h all → (∀ n ∈ all, T n) → (∀ v ∈ vs, 0 ≤ ref v → T (ref v).toNat) → h.length < m + all.length → h2.length < m2 + all.length →
      (vs.map (ren f)).foldl (come h2 m2) (all.map f) = (vs.foldl (come h m) all).map f ∧ Okl h (vs.foldl (come h m) all) ∧ (∀ n ∈ vs.foldl (come h m) all, T n) ∧ all.length ≤ (vs.foldl (come h m) all).length
  | [], all, k, hT, _, _, _ => ⟨rfl, k, hT, Nat.le_refl _⟩
  | v :: vs, all, k, hT, hv, h1, h3 => by
    obtain ⟨e1, k1, t1, l1⟩ := ih all v k hT (hv v (List.mem_cons_self ..)) h1 h3
    rw [List.map_cons, List.foldl_cons, List.foldl_cons, e1]
    obtain ⟨e2, k2, t2, l2⟩ := fold_iso ih vs (come h m all v) k1 t1 (fun x hx => hv x (List.mem_cons_of_mem _ hx)) (by omega) (by omega)
    exact ⟨e2, k2, t2, by omega⟩
theorem come_iso {h h2 : List Cell} {T : Nat → Prop} {f : Nat → Nat} (I : Iso h h2 T f) : ∀ (m m2 : Nat) (all : List Nat) (v : V), Okl h all → (∀ n ∈ all, T n) → (0 ≤ ref v → T (ref v).toNat) → h.length < m + all.length → h2.length < m2 + all.length →
    come h2 m2 (all.map f) (ren f v) = (come h m all v).map f ∧ Okl h (come h m all v) ∧ (∀ n ∈ come h m all v, T n) ∧ all.length ≤ (come h m all v).length
  | 0, _, all, v, k, _, _, h1, _ => absurd k.len (by omega)
  | m + 1, 0, all, v, k, hT, _, _, h3 => absurd (map_okl I k hT).len (by rw [List.length_map]; omega)
  | m + 1, m2 + 1, all, v, k, hT, hv, h1, h3 => by
    rw [come, come, ref_ren]
    by_cases h0 : 0 ≤ ref v
    · have tv := hv h0
      rw [if_pos h0, Int.toNat_natCast]
      have hm := map_mem I.inj hT tv
      by_cases hc : (ref v).toNat ∈ all
      · rw [if_pos (.inr (hm.2 hc)), if_pos (.inr hc)]
        exact ⟨rfl, k, hT, Nat.le_refl _⟩
      · rw [if_neg (by rintro (h | h); omega; exact hc (hm.1 h)), if_neg (by rintro (h | h); omega; exact hc h), I.eq _ tv]
        have k2 := k.snoc (I.lt _ tv).1 hc
        have := fold_iso (fun a x => come_iso I m m2 a x) (at_ h (ref v).toNat).vals (all ++ [(ref v).toNat]) k2 (fun n hn => by
          rcases List.mem_append.1 hn with hn | hn
          · exact hT n hn
          · simp at hn; subst hn; exact tv) (I.cl _ tv) (by simp; omega) (by simp; omega)
        rw [List.map_append, List.map_cons, List.map_nil] at this
        refine ⟨this.1, this.2.1, this.2.2.1, ?_⟩
        have h5 := this.2.2.2
        simp at h5
        omega
    · rw [if_neg h0, if_pos (.inl (by omega)), if_pos (.inl (by omega))]
      exact ⟨rfl, k, hT, Nat.le_refl _⟩
theorem walked_iso {h h2 : List Cell} {T : Nat → Prop} {f : Nat → Nat} (I : Iso h h2 T f) {roots : List V} (hr : ∀ v ∈ roots, 0 ≤ ref v → T (ref v).toNat) : walked h2 (roots.map (ren f)) = (walked h roots).map f ∧ ∀ n ∈ walked h roots, T n := by
  have := fold_iso (fun a x => come_iso I (h.length + 1) (h2.length + 1) a x) roots [] (Okl.nil h) (fun n hn => by simp at hn) hr (by simp) (by simp)
  exact ⟨this.1, this.2.2.1⟩
theorem idxOf_map {T : Nat → Prop} {f : Nat → Nat} (hi : ∀ a b, T a → T b → f a = f b → a = b) {n : Nat} (hn : T n) : ∀ l : List Nat, (∀ m ∈ l, T m) → (l.map f).idxOf (f n) = l.idxOf n
  | [], _ => rfl
  | a :: l, hl => by
    have ha := hl a (List.mem_cons_self ..)
    rw [List.map_cons, List.idxOf_cons, List.idxOf_cons, idxOf_map hi hn l (fun m hm => hl m (List.mem_cons_of_mem _ hm))]
    by_cases e : a = n
    · subst e; simp
    · have e2 : f a ≠ f n := fun h => e (hi a n ha hn h)
      rw [beq_false_of_ne e, beq_false_of_ne e2]
theorem ren_ren {T : Nat → Prop} {f : Nat → Nat} (hi : ∀ a b, T a → T b → f a = f b → a = b) {W : List Nat} (hW : ∀ m ∈ W, T m) {v : V} (hv : 0 ≤ ref v → T (ref v).toNat) : ren (pos (W.map f)) (ren f v) = ren (pos W) v := by
  by_cases h0 : 0 ≤ ref v
  · have h1 : ref (ren f v) = ((f (ref v).toNat : Nat) : Int) := by rw [ref_ren, if_pos h0]
    have h2 : pos (W.map f) (f (ref v).toNat) = pos W (ref v).toNat := idxOf_map hi (hv h0) W hW
    conv => lhs; rw [ren]
    rw [if_pos (by rw [h1]; omega), h1, Int.toNat_natCast, h2]
    unfold ren
    rw [if_pos h0, if_pos h0]
  · have : ren f v = v := by unfold ren; rw [if_neg h0]
    rw [this]
    unfold ren
    rw [if_neg h0, if_neg h0]
/-- ISO: what is moved is the same. -/
theorem moved_iso {h h2 : List Cell} {T : Nat → Prop} {f : Nat → Nat} (I : Iso h h2 T f) {roots : List V} (hr : ∀ v ∈ roots, 0 ≤ ref v → T (ref v).toNat) :
    moved h2 (roots.map (ren f)) = moved h roots ∧ movedR h2 (roots.map (ren f)) = movedR h roots := by
  obtain ⟨hw, hT⟩ := walked_iso I hr
  constructor
  · unfold moved movedW
    rw [hw, List.map_map]
    refine List.map_congr_left fun n hn => ?_
    have tn := hT n hn
    simp only [Function.comp]
    rw [I.eq n tn]
    unfold renC
    simp only [List.map_map]
    congr 1
    refine List.map_congr_left fun v hv => ?_
    exact ren_ren I.inj hT (I.cl n tn v hv)
  · unfold movedR
    rw [hw, List.map_map]
    refine List.map_congr_left fun v hv => ?_
    exact ren_ren I.inj hT (hr v hv)
end Hepy

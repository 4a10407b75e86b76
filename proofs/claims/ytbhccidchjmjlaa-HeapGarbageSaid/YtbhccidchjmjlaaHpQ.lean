/-
  What is moved, plain: it is right, all of it is reached, and it is alike. Conditions: none.
-/
import Derived.Test.YtbhccidchjmjlaaHpN
namespace Hepy
open Valu (V check)
set_option linter.unusedSimpArgs false
set_option linter.unusedVariables false
theorem pos_at {W : List Nat} {n : Nat} (h : n ∈ W) : pos W n < W.length ∧ W[pos W n]? = some n := by
  have h1 : W.idxOf n < W.length := List.idxOf_lt_length_iff.2 h
  refine ⟨h1, ?_⟩
  rw [show W[pos W n]? = W[W.idxOf n]? from rfl, List.getElem?_eq_getElem h1, List.getElem_idxOf]
theorem pos_inj {W : List Nat} {a b : Nat} (ha : a ∈ W) (hb : b ∈ W) (h : pos W a = pos W b) : a = b := by
  have h1 := (pos_at ha).2
  rw [h, (pos_at hb).2] at h1
  injection h1 with h1
  exact h1.symm
theorem at_movedW {h : List Cell} {W : List Nat} {i n : Nat} (hi : W[i]? = some n) : at_ (movedW h W) i = renC (pos W) (at_ h n) := by
  unfold movedW
  conv => lhs; unfold at_
  rw [List.getElem?_map, hi]; rfl
theorem movedW_len (h : List Cell) (W : List Nat) : (movedW h W).length = W.length := by unfold movedW; simp
theorem iso_moved {h : List Cell} (hs : Sound h) {l : List V} (hl : ∀ v ∈ l, Leads h v) : Iso h (moved h l) (fun n => n ∈ walked h l) (pos (walked h l)) := by
  have c := walked_came hs hl
  refine ⟨fun n hn => ⟨c.ok.lt n hn, ?_⟩, fun a b ha hb he => pos_inj ha hb he, fun n hn v hv h0 => c.cl n hn (by simp) v hv h0, fun n hn => ?_⟩
  · unfold moved; rw [movedW_len]; exact (pos_at hn).1
  · unfold moved; exact at_movedW (pos_at hn).2
theorem ref_kind {v : V} (h : 0 ≤ ref v) : v.k = 4 ∧ ref v = v.n := by
  unfold ref at h ⊢
  by_cases h4 : v.k = 4
  · simp [h4]
  · rw [if_neg h4] at h; omega
theorem check_ren {f : Nat → Nat} {v : V} (k : check v = true) : check (ren f v) = true := by
  unfold ren
  by_cases h0 : 0 ≤ ref v
  · rw [if_pos h0]
    obtain ⟨h4, hn⟩ := ref_kind h0
    obtain ⟨a, b, c⟩ := v
    simp only at h4 hn
    subst h4
    unfold check at k ⊢
    simp at k ⊢
    exact k.2
  · rw [if_neg h0]; exact k
theorem shape_ren (f : Nat → Nat) (c : Cell) : shape (renC f c) = shape c := by
  unfold shape renC
  simp
/-- what is moved is right. -/
theorem right_moved {h : List Cell} (k : Right h) {l : List V} (hf : l.all (fits h) = true) : Right (moved h l) ∧ (movedR h l).all (fits (moved h l)) = true := by
  have hld : ∀ v ∈ l, Leads h v := fun v hv => (fits_leads (List.all_eq_true.1 hf v hv)).1
  have c := walked_came k.sound hld
  have I := iso_moved k.sound hld
  have hkind : ∀ n ∈ walked h l, (at_ h n).kind ≠ 0 := by
    refine walked_in (T := fun n => (at_ h n).kind ≠ 0 ∧ n < h.length) (fun n hn v hv h0 => ?_) (fun v hv h0 => ?_) |> fun H n hn => (H n hn).1
    · have hfv := fits_leads (k.fit (at_mem hn.2) hv)
      exact ⟨hfv.2.1 h0, by have := hfv.1; unfold Leads at this; omega⟩
    · have hfv := fits_leads (List.all_eq_true.1 hf v hv)
      exact ⟨hfv.2.1 h0, by have := hfv.1; unfold Leads at this; omega⟩
  have hfit : ∀ v, check v = true → (0 ≤ ref v → (ref v).toNat ∈ walked h l) → fits (moved h l) (ren (pos (walked h l)) v) = true := by
    intro v hc hm
    refine of_fits (check_ren hc) (fun h0 => ?_)
    rw [ref_ren] at h0 ⊢
    by_cases h1 : 0 ≤ ref v
    · rw [if_pos h1, Int.toNat_natCast]
      have hmm := hm h1
      refine ⟨(I.lt _ hmm).2, ?_⟩
      rw [I.eq _ hmm]
      exact hkind _ hmm
    · rw [if_neg h1] at h0; omega
  refine ⟨⟨by unfold moved; rw [movedW_len]; exact Nat.le_trans c.ok.len k.le, fun x hx => (moved_vals k hf x hx).1, fun x hx => ?_⟩, ?_⟩
  · have hx2 := hx
    unfold moved movedW at hx2
    obtain ⟨n, hn, rfl⟩ := List.mem_map.1 hx2
    have hm := at_mem (c.ok.lt n hn)
    have hok := k.ok _ hm
    unfold cellOk at hok ⊢
    simp only [Bool.and_eq_true] at hok ⊢
    refine ⟨by rw [shape_ren]; exact hok.1, hok.2.1, ?_⟩
    rw [List.all_eq_true]
    intro v hv
    unfold renC at hv
    obtain ⟨y, hy, rfl⟩ := List.mem_map.1 hv
    exact hfit y (fits_leads (k.fit hm hy)).2.2 (fun h0 => c.cl n hn (by simp) y hy h0)
  · rw [List.all_eq_true]
    intro v hv
    unfold movedR at hv
    obtain ⟨y, hy, rfl⟩ := List.mem_map.1 hv
    exact hfit y (fits_leads (List.all_eq_true.1 hf y hy)).2.2 (fun h0 => c.has y hy h0)
theorem roots_in {h : List Cell} (hs : Sound h) {l : List V} (hl : ∀ v ∈ l, Leads h v) {k : List V} (hk : ∀ v ∈ k, v ∈ l) : ∀ v ∈ k, 0 ≤ ref v → (fun n => n ∈ walked h l) (ref v).toNat :=
  fun v hv h0 => (walked_came hs hl).has v (hk v hv) h0
/-- moved again it is the same. -/
theorem moved_again {h : List Cell} (k : Right h) {l : List V} (hf : l.all (fits h) = true) : move (moved h l) (movedR h l) = (moved h l, movedR h l, 0) := by
  have hld : ∀ v ∈ l, Leads h v := fun v hv => (fits_leads (List.all_eq_true.1 hf v hv)).1
  have hr := right_moved k hf
  have := moved_iso (iso_moved k.sound hld) (roots_in k.sound hld (fun v hv => hv))
  unfold move
  rw [asked_zero.2 hr]
  show (moved (moved h l) (movedR h l), movedR (moved h l) (movedR h l), 0) = _
  have e : movedR h l = l.map (ren (pos (walked h l))) := rfl
  rw [e, this.1, this.2]; rfl
/-- all of it is reached. -/
theorem reach_moved {h : List Cell} (k : Right h) {l : List V} (hf : l.all (fits h) = true) : (reach (moved h l) (movedR h l)).2 = 0 ∧ (reach (moved h l) (movedR h l)).1.length = (moved h l).length := by
  have hld : ∀ v ∈ l, Leads h v := fun v hv => (fits_leads (List.all_eq_true.1 hf v hv)).1
  have hr := right_moved k hf
  have hw := walked_iso (iso_moved k.sound hld) (roots_in k.sound hld (fun v hv => hv))
  unfold reach
  rw [asked_zero.2 hr]
  refine ⟨rfl, ?_⟩
  show (sorted (walked (moved h l) (l.map (ren (pos (walked h l)))))).length = _
  have : ∀ m : List Nat, (sorted m).length = m.length := fun m => by unfold sorted; simp
  rw [this, hw.1, List.length_map]
  unfold moved; rw [movedW_len]
/-- each root is alike, with its own heap. -/
theorem alike_moved {h : List Cell} (k : Right h) {l : List V} (hf : l.all (fits h) = true) {x : V} (hx : x ∈ l) : alike h x (moved h l) (ren (pos (walked h l)) x) = (true, 0) := by
  have hld : ∀ v ∈ l, Leads h v := fun v hv => (fits_leads (List.all_eq_true.1 hf v hv)).1
  have hr := right_moved k hf
  have hxf : fits h x = true := List.all_eq_true.1 hf x hx
  have hxr : fits (moved h l) (ren (pos (walked h l)) x) = true := List.all_eq_true.1 hr.2 _ (List.mem_map.2 ⟨x, hx, rfl⟩)
  have I := moved_iso (iso_moved k.sound hld) (roots := [x]) (roots_in k.sound hld (fun v hv => by rw [List.mem_singleton] at hv; subst hv; exact hx))
  have a1 : askedH h [x] = 0 := asked_zero.2 ⟨k, by simp [hxf]⟩
  have a2 : askedH (moved h l) [ren (pos (walked h l)) x] = 0 := asked_zero.2 ⟨hr.1, by simp [hxr]⟩
  have m1 : move h [x] = (moved h [x], movedR h [x], 0) := by unfold move; rw [a1]; rfl
  have m2 : move (moved h l) [ren (pos (walked h l)) x] = (moved h [x], movedR h [x], 0) := by
    unfold move
    rw [a2]
    have e : [ren (pos (walked h l)) x] = [x].map (ren (pos (walked h l))) := rfl
    show (moved (moved h l) [ren (pos (walked h l)) x], movedR (moved h l) [ren (pos (walked h l)) x], 0) = _
    rw [e, I.1, I.2]
  unfold alike
  rw [if_neg (by simp [check_zero.2 k]), if_neg (by simp [check_zero.2 hr.1]), m1, m2]
  have e2 := I.2
  unfold movedR at e2
  simp only [List.map_cons, List.map_nil] at e2
  injection e2 with e2 _
  rw [e2]
  simp
end Hepy

/-
  What is swept, plain: it is right, and as it was where it is reached; garbage is no matter. Conditions: none.
-/
import Derived.Test.YtbhccidchjmjlaaHpQ
namespace Hepy
open Valu (V check)
set_option linter.unusedSimpArgs false
set_option linter.unusedVariables false
theorem ren_id {v : V} : ren (fun n => n) v = v := by
  unfold ren
  by_cases h0 : 0 ≤ ref v
  · rw [if_pos h0]
    obtain ⟨h4, hn⟩ := ref_kind h0
    obtain ⟨a, b, c⟩ := v
    simp only at h4 hn h0 ⊢
    rw [hn] at h0 ⊢
    rw [Int.toNat_of_nonneg h0]
  · rw [if_neg h0]
theorem map_ren_id (l : List V) : l.map (ren (fun n => n)) = l := by
  conv => rhs; rw [← List.map_id l]
  exact List.map_congr_left fun v _ => ren_id
theorem renC_id (c : Cell) : renC (fun n => n) c = c := by
  unfold renC
  rw [map_ren_id]
theorem at_over {h : List Cell} {n : Nat} (hn : h.length ≤ n) : at_ h n = none_ := by
  unfold at_
  rw [List.getElem?_eq_none hn]; rfl
/-- h2 has what is reached in h, in its places. -/
structure Has (h h2 : List Cell) (l : List V) : Prop where
  len : ∀ n ∈ walked h l, n < h2.length
  eq : ∀ n ∈ walked h l, at_ h2 n = at_ h n
theorem iso_has {h h2 : List Cell} (hs : Sound h) {l : List V} (hl : ∀ v ∈ l, Leads h v) (H : Has h h2 l) : Iso h h2 (fun n => n ∈ walked h l) (fun n => n) := by
  have c := walked_came hs hl
  exact ⟨fun n hn => ⟨c.ok.lt n hn, H.len n hn⟩, fun a b _ _ h => h, fun n hn v hv h0 => c.cl n hn (by simp) v hv h0, fun n hn => by rw [renC_id]; exact H.eq n hn⟩
theorem walked_has {h h2 : List Cell} (hs : Sound h) {l : List V} (hl : ∀ v ∈ l, Leads h v) (H : Has h h2 l) : walked h2 l = walked h l := by
  have := (walked_iso (iso_has hs hl H) (roots_in hs hl (fun v hv => hv))).1
  rw [map_ren_id] at this
  rw [this]; simp
theorem moved_has {h h2 : List Cell} (hs : Sound h) {l : List V} (hl : ∀ v ∈ l, Leads h v) (H : Has h h2 l) : moved h2 l = moved h l ∧ movedR h2 l = movedR h l := by
  have := moved_iso (iso_has hs hl H) (roots_in hs hl (fun v hv => hv))
  rw [map_ren_id] at this
  exact this
theorem swept_len (h : List Cell) (l : List V) : (swept h l).length = h.length := by unfold swept sweptW; simp
theorem swept_at {h : List Cell} {l : List V} {n : Nat} (hn : n < h.length) : at_ (swept h l) n = if n ∈ walked h l then at_ h n else none_ := by
  unfold swept sweptW
  conv => lhs; unfold at_
  rw [List.getElem?_map, List.getElem?_range hn]; rfl
theorem has_swept {h : List Cell} (hs : Sound h) {l : List V} (hl : ∀ v ∈ l, Leads h v) : Has h (swept h l) l := by
  have c := walked_came hs hl
  exact ⟨fun n hn => by rw [swept_len]; exact c.ok.lt n hn, fun n hn => by rw [swept_at (c.ok.lt n hn), if_pos hn]⟩
theorem kinds_in {h : List Cell} (k : Right h) {l : List V} (hf : l.all (fits h) = true) : ∀ n ∈ walked h l, (at_ h n).kind ≠ 0 := by
  refine walked_in (T := fun n => (at_ h n).kind ≠ 0 ∧ n < h.length) (fun n hn v hv h0 => ?_) (fun v hv h0 => ?_) |> fun H n hn => (H n hn).1
  · have hfv := fits_leads (k.fit (at_mem hn.2) hv)
    exact ⟨hfv.2.1 h0, by have := hfv.1; unfold Leads at this; omega⟩
  · have hfv := fits_leads (List.all_eq_true.1 hf v hv)
    exact ⟨hfv.2.1 h0, by have := hfv.1; unfold Leads at this; omega⟩
/-- a value that leads into what is reached fits still. -/
theorem fits_has {h h2 : List Cell} (k : Right h) {l : List V} (hf : l.all (fits h) = true) (H : Has h h2 l) {v : V} (hc : check v = true) (hm : 0 ≤ ref v → (ref v).toNat ∈ walked h l) : fits h2 v = true :=
  of_fits hc (fun h0 => ⟨H.len _ (hm h0), by rw [H.eq _ (hm h0)]; exact kinds_in k hf _ (hm h0)⟩)
theorem cell_has {h h2 : List Cell} (k : Right h) {l : List V} (hf : l.all (fits h) = true) (H : Has h h2 l) {n : Nat} (hn : n ∈ walked h l) : cellOk h2 (at_ h n) = true := by
  have hld : ∀ v ∈ l, Leads h v := fun v hv => (fits_leads (List.all_eq_true.1 hf v hv)).1
  have c := walked_came k.sound hld
  have hm := at_mem (c.ok.lt n hn)
  have hok := k.ok _ hm
  unfold cellOk at hok ⊢
  simp only [Bool.and_eq_true] at hok ⊢
  refine ⟨hok.1, hok.2.1, ?_⟩
  rw [List.all_eq_true]
  intro v hv
  exact fits_has k hf H (fits_leads (k.fit hm hv)).2.2 (fun h0 => c.cl n hn (by simp) v hv h0)
theorem roots_has {h h2 : List Cell} (k : Right h) {l : List V} (hf : l.all (fits h) = true) (H : Has h h2 l) : l.all (fits h2) = true := by
  have hld : ∀ v ∈ l, Leads h v := fun v hv => (fits_leads (List.all_eq_true.1 hf v hv)).1
  have c := walked_came k.sound hld
  rw [List.all_eq_true]
  intro v hv
  exact fits_has k hf H (fits_leads (List.all_eq_true.1 hf v hv)).2.2 (fun h0 => c.has v hv h0)
theorem none_ok (h : List Cell) : cellOk h none_ = true := by unfold cellOk shape none_; simp [rising]
theorem right_swept {h : List Cell} (k : Right h) {l : List V} (hf : l.all (fits h) = true) : Right (swept h l) := by
  have hld : ∀ v ∈ l, Leads h v := fun v hv => (fits_leads (List.all_eq_true.1 hf v hv)).1
  have c := walked_came k.sound hld
  have H := has_swept k.sound hld
  have hcs : ∀ x ∈ swept h l, x = none_ ∨ ∃ n ∈ walked h l, x = at_ h n := by
    intro x hx
    unfold swept sweptW at hx
    obtain ⟨n, _, rfl⟩ := List.mem_map.1 hx
    by_cases hn : n ∈ walked h l
    · rw [if_pos hn]; exact .inr ⟨n, hn, rfl⟩
    · rw [if_neg hn]; exact .inl rfl
  refine ⟨by rw [swept_len]; exact k.le, fun x hx => ?_, fun x hx => ?_⟩
  · rcases hcs x hx with rfl | ⟨n, hn, rfl⟩
    · simp [none_]
    · exact k.vl _ (at_mem (c.ok.lt n hn))
  · rcases hcs x hx with rfl | ⟨n, hn, rfl⟩
    · exact none_ok _
    · exact cell_has k hf H hn
/-- swept again nothing changes. -/
theorem swept_again {h : List Cell} (k : Right h) {l : List V} (hf : l.all (fits h) = true) : sweep (swept h l) l = (swept h l, 0) := by
  have hld : ∀ v ∈ l, Leads h v := fun v hv => (fits_leads (List.all_eq_true.1 hf v hv)).1
  have H := has_swept k.sound hld
  have a := asked_zero.2 ⟨right_swept k hf, roots_has k hf H⟩
  unfold sweep
  rw [a]
  show (swept (swept h l) l, 0) = _
  have hw := walked_has k.sound hld H
  have : swept (swept h l) l = swept h l := by
    conv => lhs; unfold swept sweptW
    conv => rhs; unfold swept sweptW
    have hwl : walked (List.map (fun n => if n ∈ walked h l then at_ h n else none_) (List.range h.length)) l = walked h l := hw
    rw [hwl, List.length_map, List.length_range]
    refine List.map_congr_left fun n hn => ?_
    have hnl := List.mem_range.1 hn
    have e : at_ (List.map (fun n => if n ∈ walked h l then at_ h n else none_) (List.range h.length)) n = at_ (swept h l) n := rfl
    rw [e, swept_at hnl]
    split <;> rfl
  rw [this]
end Hepy

/-
  Values: every binary sign that the laws use. Conditions: as each says.
-/
import Derived.Test.YtollnadeaffomaaDoorVaD
import Derived.Deep.RegionHeld3
namespace Go.Proofs.YtollnadeaffomaaDoor
open Go.RowKit

abbrev zcells : Array Value := #[.int .i64 0, .int .i64 0, .string ⟨#[]⟩]
/-- two values in boxes side by side, behind them a fresh one. -/
structure Two (n : Nat) (w0 wx : World) (r q : Valu.V) : Prop where
  ra : VBox wx n r
  qa : VBox wx (n + 1) q
  za : Box wx (n + 1 + 1) 23 zcells
  be : Below n w0 wx
theorem setv {w : World} {b : Nat} {old : Array Value} (h : Box w b 23 old) (hs : old.size = 3) (v : Valu.V) :
    VBox (((w.setCell ⟨b, 0, none⟩ (.int .i64 v.k)).setCell ⟨b, 1, none⟩ (.int .i64 v.n)).setCell ⟨b, 2, none⟩ (.string (byt v.s))) b v := by
  have h1 := Box.set (Box.set (Box.set h 0 (.int .i64 v.k)) 1 (.int .i64 v.n)) 2 (.string (byt v.s))
  obtain ⟨l⟩ := old
  match l, hs with
  | [x, y, z], _ => simpa using h1
theorem farv {w : World} {b g : Nat} {t : TypeId} {cs : Array Value} (h : Box w b t cs) (hne : b ≠ g) (x y z : Value) :
    Box (((w.setCell ⟨g, 0, none⟩ x).setCell ⟨g, 1, none⟩ y).setCell ⟨g, 2, none⟩ z) b t cs :=
  ((h.far (p := ⟨g, 0, none⟩) hne x).far (p := ⟨g, 1, none⟩) hne y).far (p := ⟨g, 2, none⟩) hne z
theorem lowv {w0 w : World} {b B : Nat} (h : Below B w0 w) (hB : B ≤ b) (x y z : Value) : Below B w0 (((w.setCell ⟨b, 0, none⟩ x).setCell ⟨b, 1, none⟩ y).setCell ⟨b, 2, none⟩ z) :=
  ((h.setCell (p := ⟨b, 0, none⟩) hB x).setCell (p := ⟨b, 1, none⟩) hB y).setCell (p := ⟨b, 2, none⟩) hB z
theorem two_stored {n : Nat} {w0 w : World} {a b : Valu.V} (r q : Valu.V) (hA : VBox w n a) (hB : VBox w (n + 1) b) (hR : Box w (n + 1 + 1) 23 zcells) (hb : Below n w0 w) :
    Two n w0 ((((((w.setCell ⟨n, 0, none⟩ (.int .i64 r.k)).setCell ⟨n, 1, none⟩ (.int .i64 r.n)).setCell ⟨n, 2, none⟩ (.string (byt r.s))).setCell ⟨n + 1, 0, none⟩ (.int .i64 q.k)).setCell ⟨n + 1, 1, none⟩ (.int .i64 q.n)).setCell ⟨n + 1, 2, none⟩ (.string (byt q.s))) r q :=
  ⟨farv (setv hA rfl r) (by omega) _ _ _, setv (farv hB (by omega) _ _ _) rfl q, farv (farv hR (by omega) _ _ _) (by omega) _ _ _, lowv (lowv hb (Nat.le_refl _) _ _ _) (by omega) _ _ _⟩
theorem within_of {v : Valu.V} (h : Valu.check v = true) (hk : v.k = 2) : Valu.within v.n (-Valu.big) Valu.big = true := by
  unfold Valu.check at h
  rw [if_neg (by omega), if_neg (by omega), if_pos hk] at h
  simp only [Bool.and_eq_true] at h
  exact h.1
theorem decDigits_len : ∀ (k u : Nat), u < 10 ^ (k + 1) → (Lib.decDigits u).length ≤ k + 1
  | 0, u, h => by rw [Lib.decDigits, dif_pos (by simpa using h)]; simp
  | k + 1, u, h => by
    rw [Lib.decDigits]
    split
    · simp
    · have := decDigits_len k (u / 10) (by rw [Nat.pow_succ] at h; omega)
      simp; omega
theorem itoa_len {n : Int} (h : Valu.within n (-Valu.big) Valu.big = true) : (Lib.itoa n).length ≤ 40 := by
  obtain ⟨h1, h2⟩ := Valu.within_iff.1 h
  unfold Valu.big at h1 h2
  unfold Lib.itoa
  split
  · have := decDigits_len 16 n.natAbs (by omega)
    simp; omega
  · have := decDigits_len 16 n.toNat (by omega)
    omega
theorem textR_len {v : Valu.V} (h : Valu.check v = true) : (Valu.textR v).length ≤ v.s.length + 40 := by
  unfold Valu.textR
  split
  · unfold Lib.formatBool; split
    · have : "true".toUTF8.data.toList.length = 4 := by decide
      omega
    · have : "false".toUTF8.data.toList.length = 5 := by decide
      omega
  · split
    · next h2 => have := itoa_len (within_of h h2); omega
    · split
      · omega
      · split
        · simp
        · split
          · simp
          · simp [Valu.kNull]
theorem text_len (v : Valu.V) (hv : v.s.length ≤ 140737488355328) : (byt (Valu.text v)).size ≤ 140737488355400 := by
  rw [byt_size]
  have h1 := textR_len (Valu.check_right v)
  have h2 := right_len v
  unfold Valu.text
  omega

theorem two_held {w wc wp w1 : World} {r q : Valu.V} (he : Env w) (h4 : 4 ≤ w.heap.size) (ht : Two w.heap.size w wc r q) (hW : Below wc.heap.size wc wp) (hb : Below wp.heap.size wp w1) :
    Env w1 ∧ 4 ≤ w1.heap.size ∧ Below wc.heap.size wc w1 ∧ w1.cell? ⟨w.heap.size, 0, none⟩ = some (.int .i64 r.k) ∧ w1.cell? ⟨w.heap.size, 1, none⟩ = some (.int .i64 r.n) ∧ w1.cell? ⟨w.heap.size, 2, none⟩ = some (.string (byt r.s)) ∧
      w1.cell? ⟨w.heap.size + 1, 0, none⟩ = some (.int .i64 q.k) ∧ w1.cell? ⟨w.heap.size + 1, 1, none⟩ = some (.int .i64 q.n) ∧ w1.cell? ⟨w.heap.size + 1, 2, none⟩ = some (.string (byt q.s)) := by
  have h1 : Below wc.heap.size wc w1 := hW.trans (hb.mono hW.size)
  have hl := ht.ra.lt
  have h2 := (ht.be.trans (h1.mono (by omega)))
  have h3 := h1.size
  obtain ⟨a0, a1, a2⟩ := box3 (Box.below ht.ra h1 ht.ra.lt)
  obtain ⟨b0, b1, b2⟩ := box3 (Box.below ht.qa h1 ht.qa.lt)
  exact ⟨he.below h2 h4, by omega, h1, a0, a1, a2, b0, b1, b2⟩
theorem Two.drewN {n : Nat} {w0 wx : World} {r q : Valu.V} (h : Two n w0 wx r q) (k : Nat) : Two n w0 (wx.drewN k) r q := ⟨h.ra, h.qa, h.za, below_drewN h.be k⟩

theorem zfacts {w : World} {n : Nat} (h : Box w n 23 zcells) : w.cell? ⟨n, 0, none⟩ = some (.int .i64 0) ∧ w.cell? ⟨n, 1, none⟩ = some (.int .i64 0) ∧ w.cell? ⟨n, 2, none⟩ = some (.string ⟨#[]⟩) ∧
    w.frozen? ⟨n, 0, none⟩ = false ∧ w.frozen? ⟨n, 1, none⟩ = false ∧ w.frozen? ⟨n, 2, none⟩ = false :=
  ⟨by have := Box.cell h 0; simpa using this, by have := Box.cell h 1; simpa using this, by have := Box.cell h 2; simpa using this, Box.frozen h 0, Box.frozen h 1, Box.frozen h 2⟩
theorem nums_k {r q : Valu.V} (h : Valu.nums r q = true) : r.k = 2 ∧ q.k = 2 := by simpa [Valu.nums] using h
theorem texts_k {r q : Valu.V} (h : Valu.texts r q = true) : r.k = 3 ∧ q.k = 3 := by simpa [Valu.texts] using h
/-- what Binary answers of right values. -/
def BinOut (g : Valu.Sg) (r q : Valu.V) (w : World) (e : Ending) (w' : World) : Prop := e = .returned (.tuple #[vag (Valu.binR g r q).1, .string (byt (Valu.binR g r q).2)]) ∧ Below w.heap.size w w'

end Go.Proofs.YtollnadeaffomaaDoor

/-
  Texts that the law leans on: PwK, LexW, PlA, PlD, PlE, PlR. Conditions: as each says.
-/
import Derived.Test.YtonjdlialejedaaGreatDoorXBc
import Derived.Test.YtonjdlialejedaaGreatDoorXAb
import Derived.Test.YtonjdlialejedaaGreatDoorXAc
import Derived.Test.YtonjdlialejedaaGreatDoorXBl
import Derived.Lib.ItoaLen
import Derived.Test.YtonjdlialejedaaGreatDoorXAa
set_option linter.unusedSimpArgs false
set_option linter.unusedVariables false
namespace Go.Proofs.YtonjdlialejedaaGreatDoor
open Go.Lib (hid)
open Go.RowKit
theorem right_le : ∀ N, RightLe N
 | 0 => by intro n cs w S fn lp h; cases n; simp [Wri.wg] at h
 | N + 1 => by
  have IH := right_le N
  intro n cs w S fn lp h hb hn he
  obtain ⟨k, nu, t, l⟩ := n
  exact right_step IH k nu t l cs w S fn lp h hb hn he
theorem right_any {n : Pars.Node} {cs : Array Value} {w : World} {S : Nat → Prop} (fn lp : Bool) (hb : Wri.wg n ≤ 70368744177000) (hn : NodeAt w S n cs) (he : EnvW w) :
  Calls Tryz.prog 29 #[.agg cs, .bool fn, .bool lp] w fun e w' => e = .returned (.bool (Wri.right n fn lp)) ∧ Below w.heap.size w w' := right_le _ n cs w S fn lp (Nat.le_refl _) hb hn he
mutual
theorem size_wg : ∀ n : Pars.Node, Pars.size n ≤ Wri.wg n
 | .mk _ _ t l => by simp only [Pars.size, Wri.wg]; have := sizes_wgs l; omega
theorem sizes_wgs : ∀ l : List Pars.Node, Pars.sizes l ≤ Wri.wgs l
 | [] => by simp [Pars.sizes]
 | n :: l => by simp only [Pars.sizes, Wri.wgs]; have := size_wg n; have := sizes_wgs l; omega
end
set_option maxRecDepth 100000 in
set_option maxHeartbeats 4000000 in
theorem check_is {n : Pars.Node} {cs : Array Value} {w : World} {S : Nat → Prop} (hb : Wri.wg n ≤ 70368744177000) (hn : NodeAt w S n cs) (he : EnvW w) :
  Calls Tryz.prog 18 #[.agg cs] w fun e w' => e = .returned (.int .i64 (Wri.check n : Int)) ∧ Below w.heap.size w w' := by
 have hsz := Nat.le_trans (size_wg n) hb
 have hds := Pars.deep_size n
 have HN := hid (NodeAt.keep (S1 := fun _ => True) (w1 := w) (fun _ _ _ => trivial) (Nat.le_refl _) (fun _ _ _ => rfl) hn)
 have HE := hid he
 have hinf : (Tryz.prog.info? 24).map (·.size) = some cs.size := by rw [NodeAt.size hn]; exact info_nod
 have HINF := hid hinf
 have hc0 : cs[0]? = some (.int .i64 n.kind) := by obtain ⟨k, nu, t, l⟩ := n; unfold NodeAt at hn; obtain ⟨A, cap, css, rfl, _⟩ := hn; rfl
 have HC0 := hid hc0
 have HCK : Hid (Wri.check n = if n.kind ≠ 30 ∨ Wri.right n false false = false then 3 else if 40 < Pars.deep n then 2 else 0) := hid rfl
 obtain ⟨k, hk⟩ : ∃ k, n.kind = k := ⟨_, rfl⟩
 obtain ⟨rb, hrb⟩ : ∃ b, Wri.right n false false = b := ⟨_, rfl⟩
 have HRB := hid hrb
 rw [hk] at HC0
 rw [hk, hrb] at HCK
 clear hn he hinf hc0 hk hrb
 go_enter Tryz.func18, Tryz.ntmps18
 go_upto_region 1 with fail
 refine gen_world (F := fun W => Box W w.heap.size 24 cs ∧ Below w.heap.size w W) ⟨Box.new w _ _, below1 w _⟩ ?_
 rintro W0 ⟨b0, hU⟩
 have NB := hid b0
 have HU := hid hU
 have c0 := b0.cell 0
 rw [HC0.out] at c0
 clear b0 hU
 by_cases y : k = 30
 ·subst y
  have nb := NB.out
  go_wp2_with (refine wpList_load_row_g (by kernel_rfl) 24 (.tmp 1) rfl w.heap.size rfl _ cs _ nb Tryz.underlying24 rfl HINF.out ?_)
  refine (right_any false false hb (HN.out.keep (w1 := W0) (S1 := fun _ => True) (fun _ _ _ => trivial) HU.out.size (fun g _ hg => HU.out.block g hg)) (HE.out.below HU.out HE.out.big)).mono ?_
  rw [HRB.out]
  rintro e w1 ⟨rfl, hb1⟩
  have hsz1 := HU.out.size
  replace NB := bl NB hb1
  replace HU := hid (HU.out.trans (hb1.mono hsz1))
  clear hb1 hsz1 nb c0
  cases rb with
  | false =>
   go_wp2
   go_ret
   exact ⟨by rw [HCK.out]; rfl, HU.out⟩
  | true =>
   have nb := NB.out
   go_wp2_with (refine wpList_load_row rfl 24 (.tmp 1) rfl w.heap.size rfl _ cs (0, 0) _ nb Tryz.underlying24 rfl HINF.out ?_)
   refine (deep_any (HN.out.keep (w1 := w1) (S1 := fun _ => True) (fun _ _ _ => trivial) HU.out.size (fun g _ hg => HU.out.block g hg)) (by omega)).mono ?_
   rintro e w2 ⟨rfl, hb2⟩
   have hsz1 := HU.out.size
   replace HU := hid (HU.out.trans (hb2.mono hsz1))
   clear hb2 hsz1 nb
   by_cases z : 40 < Pars.deep n
   ·have d1 : decide ((40 : Int) < (Pars.deep n : Int)) = true := decide_eq_true (by omega)
    have d2 : (40 : Int) < (Pars.deep n : Int) := by omega
    have HZ := hid z
    clear z
    go_wp2
    go_ret
    exact ⟨by rw [HCK.out, if_neg (by simp), if_pos HZ.out]; rfl, HU.out⟩
   ·have d1 : decide ((40 : Int) < (Pars.deep n : Int)) = false := decide_eq_false (by omega)
    have d2 : ¬ (40 : Int) < (Pars.deep n : Int) := by omega
    have HZ := hid z
    clear z
    go_wp2
    go_ret
    exact ⟨by rw [HCK.out, if_neg (by simp), if_neg HZ.out]; rfl, HU.out⟩
 ·have n30 : (k == 30) = false := bn y
  have b30 : (k != 30) = true := by simp [bne, n30]
  have HY := hid y
  clear y
  go_wp2
  go_ret
  exact ⟨by rw [HCK.out, if_pos (.inl HY.out)]; rfl, HU.out⟩
end Go.Proofs.YtonjdlialejedaaGreatDoor
namespace Lexy
def shift (q : Nat) (x : Tok) : Tok := ⟨x.toTk, x.lo + q, x.hi + q⟩
theorem lex_shift {p : Nat} {l : Bs} {ts : List Tok} (h : Lex p l ts) (q : Nat) : Lex (p + q) l (ts.map (shift q)) := by
 induction h with
 | done p l hd => exact .done _ _ hd
 | more p l t n ts hne hn _ ih =>
  have e1 : p + skp false l + q = p + q + skp false l := by omega
  have e2 : p + skp false l + n + q = p + q + skp false l + n := by omega
  simp only [List.map_cons, shift]
  rw [e1, e2]
  rw [e2] at ih
  exact .more _ _ t n _ hne hn ih
end Lexy
namespace Lexy
def LexT (l : Bs) (ts : List Tk) : Prop := ∃ full, Lex 0 l full ∧ full.map (·.toTk) = ts
theorem map_shift (q : Nat) (l : List Tok) : (l.map (shift q)).map (·.toTk) = l.map (·.toTk) := by
 rw [List.map_map]; rfl
theorem LexT.at_ {l : Bs} {ts : List Tk} (h : LexT l ts) (p : Nat) : ∃ full, Lex p l full ∧ full.map (·.toTk) = ts := by
 obtain ⟨full, h1, h2⟩ := h
 exact ⟨_, by have := lex_shift h1 p; rwa [Nat.zero_add] at this, by rw [map_shift]; exact h2⟩
theorem lexT_tok {a z : Bs} {t : Tk} {zs : List Tk} (hs : skp false (a ++ z) = 0) (ha : a ≠ []) (hn : next (a ++ z) = .ok (t, a.length)) (h : LexT z zs) : LexT (a ++ z) (t :: zs) := by
 obtain ⟨full, h1, h2⟩ := h.at_ a.length
 have e : (a ++ z).drop (skp false (a ++ z)) = a ++ z := by rw [hs]; rfl
 refine ⟨⟨t, 0 + skp false (a ++ z), 0 + skp false (a ++ z) + a.length⟩ :: full, .more 0 (a ++ z) t a.length full ?_ ?_ ?_, ?_⟩
 ·rw [e]; intro h; exact ha (List.append_eq_nil_iff.1 h).1
 ·rw [e]; exact hn
 ·rw [e, hs, List.drop_left' rfl]; simpa using h1
 ·simp [h2]
def W (P : UInt8 → Bool) (b : Bs) (ts : List Tk) : Prop := ∀ z zs, (∀ c, z.head? = some c → P c = true) → LexT z zs → LexT (b ++ z) (ts ++ zs)
def all : UInt8 → Bool := fun _ => true
def noN : UInt8 → Bool := fun c => !isNameB c
theorem W.weak {P Q : UInt8 → Bool} {b : Bs} {ts : List Tk} (h : W P b ts) (hq : ∀ c, Q c = true → P c = true) : W Q b ts := fun z zs hz => h z zs fun c hc => hq c (hz c hc)
theorem W.n {b : Bs} {ts : List Tk} (h : W all b ts) : W noN b ts := h.weak fun _ _ => rfl
theorem W.app {P Q : UInt8 → Bool} {b c : Bs} {ts us : List Tk} (h : W P b ts) (h2 : W Q c us) (hp : ∀ z : Bs, (∀ d, z.head? = some d → Q d = true) → ∀ d, (c ++ z).head? = some d → P d = true) : W Q (b ++ c) (ts ++ us) := by
 intro z zs hz hl
 rw [List.append_assoc, List.append_assoc]
 exact h _ _ (hp z hz) (h2 z zs hz hl)
theorem W.after {Q : UInt8 → Bool} {b c : Bs} {ts us : List Tk} (h : W all b ts) (h2 : W Q c us) : W Q (b ++ c) (ts ++ us) := h.app h2 fun _ _ _ _ => rfl
theorem W.ahead {P Q : UInt8 → Bool} {b c : Bs} {d : UInt8} {ts us : List Tk} (h : W P b ts) (hd : P d = true) (h2 : W Q (d :: c) us) : W Q (b ++ (d :: c)) (ts ++ us) := h.app h2 fun z _ e he => by simp at he; subst he; exact hd
def sg (s : Bs) : Tk := ⟨4, s, 0⟩
def kw (s : Bs) : Tk := ⟨5, s, 0⟩
def nm (s : Bs) : Tk := ⟨1, s, 0⟩
theorem w_sign1 (c : UInt8) (hc : c ∈ [40, 41, 91, 93, 123, 125, 44, 59, 58, 46, 63, 43, 45, 42, 37]) : W all [c] [sg [c]] := by
 intro z zs _ h
 simp only [List.mem_cons, List.not_mem_nil, or_false] at hc
 refine lexT_tok (a := [c]) ?_ (by simp) ?_ h
 ·rcases hc with rfl | rfl | rfl | rfl | rfl | rfl | rfl | rfl | rfl | rfl | rfl | rfl | rfl | rfl | rfl <;> simp [skp, isBlank]
 ·have e : ∀ d r, z = d :: r → [c, d] ∉ signs := by
   intro d r _
   rcases hc with rfl | rfl | rfl | rfl | rfl | rfl | rfl | rfl | rfl | rfl | rfl | rfl | rfl | rfl | rfl <;> simp [signs]
  have h1 : [c] ∈ signs := by
   rcases hc with rfl | rfl | rfl | rfl | rfl | rfl | rfl | rfl | rfl | rfl | rfl | rfl | rfl | rfl | rfl <;> decide
  have h2 : isLetter c = false ∧ isDigit c = false ∧ (c == 34) = false := by
   rcases hc with rfl | rfl | rfl | rfl | rfl | rfl | rfl | rfl | rfl | rfl | rfl | rfl | rfl | rfl | rfl <;> decide
  have h3 : sign (c :: z) = .ok (sg [c], 1) := by
   unfold sign
   have hn : ¬ (2 ≤ (c :: z).length ∧ (c :: z).take 2 ∈ signs) := by
    rintro ⟨a, b⟩
    cases z with
    | nil => simp at a
    | cons d r => exact e d r rfl (by simpa using b)
   rw [if_neg hn, if_pos ⟨by simp, by simpa using h1⟩]
   rfl
  simp only [List.cons_append, List.nil_append, next, h2.1, h2.2.1, h2.2.2, if_false, Bool.false_eq_true, h3, List.length_cons, List.length_nil]
theorem w_word (w : Bs) (c : UInt8) (r : Bs) (hw : w = c :: r) (hc : isLetter c = true) (ha : ∀ d ∈ w, isNameB d = true) : W noN w [⟨if w ∈ kws then 5 else 1, w, 0⟩] := by
 intro z zs hz h
 have hlen : nameLen (w ++ z) = w.length := by
  unfold nameLen
  rw [List.takeWhile_append_of_pos ha]
  cases z with
  | nil => simp
  | cons d q =>
   have := hz d rfl
   simp only [noN, Bool.not_eq_true'] at this
   simp [this]
 refine lexT_tok (a := w) ?_ (by rw [hw]; simp) ?_ h
 ·rw [hw]
  have h1 : isBlank c = false := by
   cases hb : isBlank c with
   | false => rfl
   | true =>
    simp only [isBlank, Bool.or_eq_true, beq_iff_eq] at hb
    rcases hb with ((rfl | rfl) | rfl) | rfl <;> exact absurd hc (by decide)
  have h2 : (c == 47) = false := by
   cases hb : (c == 47) with
   | false => rfl
   | true => have := eq_of_beq hb; subst this; exact absurd hc (by decide)
  simp [skp, h1, h2]
 ·rw [show next (w ++ z) = .ok (⟨if (w ++ z).take (nameLen (w ++ z)) ∈ kws then 5 else 1, (w ++ z).take (nameLen (w ++ z)), 0⟩, nameLen (w ++ z)) from by
   rw [hw]; simp only [List.cons_append, next, hc, if_true]]
  rw [hlen, List.take_left' rfl]
structure IsName (w : Bs) : Prop where
 head : ∃ c r, w = c :: r ∧ isLetter c = true
 all : ∀ d ∈ w, isNameB d = true
 no : w ∉ kws
theorem IsName.w {w : Bs} (h : IsName w) : W noN w [nm w] := by
 obtain ⟨c, r, h1, h2⟩ := h.head
 have := w_word w c r h1 h2 h.all
 rwa [if_neg h.no] at this
end Lexy
namespace Wri
open Pars (Node Bs)
open Lexy (Tk sg kw nm W noN all IsName LexT)
abbrev G := M → List Tk
def tkid (f : List G) (i : Nat) : G := f.getD i (fun _ => [])
def tjoin : List (List Tk) → List Tk
 | [] => []
 | [a] => a
 | a :: l => a ++ [sg [44]] ++ tjoin l
def tlisted (o c : Bs) (l : List (List Tk)) : List Tk := [sg o] ++ tjoin l ++ [sg c]
def tFn (t : Bs) (f : List G) : List Tk := [kw Pars.wFn] ++ (if t = [] then [] else [nm t]) ++ tlisted [40] [41] ((f.take (f.length - 1)).map (· .param)) ++ tkid f (f.length - 1) .block
def tFst (k nu : Int) (t : Bs) (f : List G) : List Tk :=
 if k = 1 then [⟨2, [], nu.toNat⟩] else if k = 2 then [⟨3, t, 0⟩] else if k = 3 then (if nu = 0 then [kw Pars.wFalse] else [kw Pars.wTrue]) else if k = 4 then [kw Pars.wNull] else if k = 5 then [nm t]
 else if k = 6 then tlisted [91] [93] (f.map (· (.at (-2)))) else if k = 7 then tlisted [123] [125] (f.map (· .pair)) else if k = 9 then tFn t f else []
def tEx (k nu : Int) (t : Bs) (f : List G) : List Tk :=
 if k = 19 then tkid f 0 (.at 7) ++ [sg [61]] ++ tkid f 1 (.at (-2))
 else if k = 18 then tkid f 0 (.at 0) ++ [sg [63]] ++ tkid f 1 (.at (-2)) ++ [sg [58]] ++ tkid f 2 (.at (-2))
 else if k = 17 ∨ k = 16 ∨ k = 15 then tkid f 0 (.at (rank (.mk k nu t []))) ++ [sg (sgn k t)] ++ tkid f 1 (.at (rank (.mk k nu t []) + 1))
 else if k = 14 then [sg t] ++ tkid f 0 (.at 6)
 else if k = 11 then tkid f 0 (.at 7) ++ tlisted [40] [41] ((f.drop 1).map (· (.at (-2))))
 else if k = 12 then tkid f 0 (.at 7) ++ [sg [91]] ++ tkid f 1 (.at (-2)) ++ [sg [93]]
 else if k = 13 then tkid f 0 (.at 7) ++ [sg [46], nm t]
 else tFst k nu t f
def tBlock (f : List G) : List Tk := [sg [123]] ++ (f.flatMap fun g => g .stmt) ++ [sg [125]]
def tIfs (l : List Node) (f : List G) : List Tk :=
 [kw Pars.wIf, sg [40]] ++ tkid f 0 (.at (-2)) ++ [sg [41]] ++ tkid f 1 .block ++
  (if f.length = 3 then [kw Pars.wElse] ++ (if (l.getD 2 default).kind = 22 then tkid f 2 .ifs else tkid f 2 .block) else [])
def tTries (nu : Int) (t : Bs) (f : List G) : List Tk :=
 [kw Pars.wTry] ++ tkid f 0 .block ++ (if nu = 2 then [] else [kw Pars.wCatch, sg [40], nm t, sg [41]] ++ tkid f 1 .block) ++
  (if 1 < nu then [kw Pars.wFinally] ++ tkid f (if nu = 2 then 1 else 2) .block else [])
def tStmt (k nu : Int) (t : Bs) (l : List Node) (f : List G) : List Tk :=
 if k = 20 then [kw Pars.wLet, nm t, sg [61]] ++ tkid f 0 (.at (-2)) ++ [sg [59]]
 else if k = 21 then tkid f 0 .fn
 else if k = 22 then tIfs l f
 else if k = 23 then [kw Pars.wWhile, sg [40]] ++ tkid f 0 (.at (-2)) ++ [sg [41]] ++ tkid f 1 .block
 else if k = 24 then [kw Pars.wFor, sg [40], kw Pars.wLet, nm t, kw Pars.wOf] ++ tkid f 0 (.at (-2)) ++ [sg [41]] ++ tkid f 1 .block
 else if k = 25 then [kw Pars.wReturn] ++ (if 0 < f.length then tkid f 0 (.at (-2)) else []) ++ [sg [59]]
 else if k = 26 then [kw Pars.wBreak, sg [59]]
 else if k = 27 then [kw Pars.wContinue, sg [59]]
 else if k = 28 then [kw Pars.wThrow] ++ tkid f 0 (.at (-2)) ++ [sg [59]]
 else if k = 29 then tTries nu t f
 else if k = 30 then tBlock f
 else if k = 31 then (if front (l.getD 0 default) = 7 ∨ front (l.getD 0 default) = 9 then [sg [40]] ++ tkid f 0 (.at (-2)) ++ [sg [41]] else tkid f 0 (.at (-2))) ++ [sg [59]]
 else []
def tstep (k nu : Int) (t : Bs) (l : List Node) (f : List G) : G
 | .ex => tEx k nu t f
 | .at q => if q ≤ rank (.mk k nu t []) then tEx k nu t f else [sg [40]] ++ tEx k nu t f ++ [sg [41]]
 | .fst => tFst k nu t f
 | .fn => tFn t f
 | .block => tBlock f
 | .ifs => tIfs l f
 | .tries => tTries nu t f
 | .stmt => tStmt k nu t l f
 | .param => [nm t]
 | .pair => [nm t, sg [58]] ++ tkid f 0 (.at (-2))
mutual
def tw : Node → G
 | .mk k nu t l => tstep k nu t l (tws l)
def tws : List Node → List G
 | [] => []
 | n :: l => tw n :: tws l
end
theorem tws_map : ∀ l : List Node, tws l = l.map tw
 | [] => rfl
 | n :: l => by simp only [tws, List.map_cons, tws_map l]
def HD (b : Bs) : Prop := ∃ c r, b = c :: r ∧ c ≠ 61
theorem HD.app {a : Bs} (h : HD a) (b : Bs) : HD (a ++ b) := by obtain ⟨c, r, rfl, hc⟩ := h; exact ⟨c, r ++ b, rfl, hc⟩
theorem wr_at (n : Node) (q : Int) : wr n (.at q) = if q ≤ rank n then wr n .ex else [40] ++ wr n .ex ++ [41] := by
 cases n with | mk k nu t l => rfl
theorem tw_at (n : Node) (q : Int) : tw n (.at q) = if q ≤ rank n then tw n .ex else [sg [40]] ++ tw n .ex ++ [sg [41]] := by
 cases n with | mk k nu t l => rfl
end Wri
namespace Wri
open Pars (Node Bs)
open Lexy (Tk sg kw nm W noN all IsName LexT)
structure LX (n : Node) : Prop where
 ex : isE n → W noN (wr n .ex) (tw n .ex)
 stmt : 20 ≤ n.kind → W noN (wr n .stmt) (tw n .stmt)
 fn : n.kind = 9 → W noN (wr n .fn) (tw n .fn)
 block : n.kind = 30 → W noN (wr n .block) (tw n .block)
 ifs : n.kind = 22 → W noN (wr n .ifs) (tw n .ifs)
 pair : n.kind = 8 → W noN (wr n .pair) (tw n .pair)
theorem LX.e {n : Node} (h : W noN (wr n .ex) (tw n .ex)) (hk : n.kind ≤ 19 := by simp [Node.kind]) (h8 : n.kind ≠ 8 := by simp [Node.kind]) (h9 : n.kind ≠ 9 := by simp [Node.kind]) : LX n :=
 ⟨fun _ => h, fun e => by omega, fun e => absurd e h9, fun e => by omega, fun e => by omega, fun e => absurd e h8⟩
theorem LX.s {n : Node} (h : W noN (wr n .stmt) (tw n .stmt)) (hk : 20 ≤ n.kind := by simp [Node.kind]) (h2 : n.kind ≠ 22 := by simp [Node.kind]) (h3 : n.kind ≠ 30 := by simp [Node.kind]) : LX n :=
 ⟨fun e => by unfold isE at e; omega, fun _ => h, fun e => by omega, fun e => absurd e h3, fun e => absurd e h2, fun e => by omega⟩
theorem LX.at_ {n : Node} (h : LX n) (he : isE n) (q : Int) : W noN (wr n (.at q)) (tw n (.at q)) := by
 rw [wr_at, tw_at]
 split
 ·exact h.ex he
 ·exact (((Lexy.w_sign1 40 (by decide)).after (h.ex he)).ahead (by decide) (Lexy.w_sign1 41 (by decide))).n
theorem tw_blk (nu : Int) (t : Bs) (l : List Node) : tw (.mk 30 nu t l) .block = [sg [123]] ++ (l.flatMap fun x => tw x .stmt) ++ [sg [125]] := by
 show tBlock (tws l) = _
 unfold tBlock
 rw [tws_map, List.flatMap_map]
theorem tw_func (t : Bs) (ps : List Bs) (b : Node) : tw (.mk 9 0 t (ps.map (fun p => .mk 10 0 p []) ++ [b])) .fn = [kw Pars.wFn] ++ (if t = [] then [] else [nm t]) ++ tlisted [40] [41] (ps.map fun p => [nm p]) ++ tw b .block := by
 show tFn t (tws _) = _
 unfold tFn
 have e : ((ps.map (fun p => tw (.mk 10 0 p [])) ++ [tw b]).take ((ps.map (fun p => tw (.mk 10 0 p [])) ++ [tw b]).length - 1)).map (fun x => x M.param) = ps.map fun p => [nm p] := by
  rw [show (ps.map (fun p => tw (.mk 10 0 p [])) ++ [tw b]).length - 1 = (ps.map (fun p => tw (.mk 10 0 p []))).length by simp, List.take_left' rfl, List.map_map]
  rfl
 have e2 : tkid (ps.map (fun p => tw (.mk 10 0 p [])) ++ [tw b]) ((ps.map (fun p => tw (.mk 10 0 p [])) ++ [tw b]).length - 1) = tw b := by
  unfold tkid
  rw [show (ps.map (fun p => tw (.mk 10 0 p [])) ++ [tw b]).length - 1 = (ps.map (fun p => tw (.mk 10 0 p []))).length by simp, List.getD_eq_getElem?_getD, List.getElem?_append_right (Nat.le_refl _)]
  simp
 rw [tws_map, List.map_append, List.map_map, List.map_cons, List.map_nil]
 have e3 : (tw ∘ fun p : Bs => Node.mk 10 0 p []) = fun p => tw (.mk 10 0 p []) := rfl
 rw [e3, e, e2]
end Wri
namespace Wri
open Go (ln bn)
open Pars (Node Bs)
theorem rt_kids {a b : Bool} {k nu : Int} {t : Bs} {l : List Node} (h : Rt a b (.mk k nu t l)) : (k = 1 → 0 ≤ nu ∧ nu ≤ 9007199254740992) ∧ ∀ x ∈ l, ∃ a b, Rt a b x := by
  cases h with
  | func _ _ _ ps b h1 h2 h3 h4 =>
    refine ⟨fun hk => by omega, fun x hx => ?_⟩
    rcases List.mem_append.1 hx with hx | hx
    · obtain ⟨p, hp, rfl⟩ := List.mem_map.1 hx
      exact ⟨false, false, .param false false p (h2 p hp)⟩
    · simp only [List.mem_cons, List.not_mem_nil, or_false] at hx
      subst hx
      exact ⟨_, _, h4⟩
  | call _ _ c q h1 h2 h3 h4 =>
    refine ⟨fun hk => by omega, fun x hx => ?_⟩
    rcases List.mem_cons.1 hx with rfl | hx
    · exact ⟨_, _, h2⟩
    · exact ⟨_, _, h4 x hx⟩
  | list _ _ _ h1 h2 => exact ⟨fun hk => by omega, fun x hx => ⟨_, _, h2 x hx⟩⟩
  | recd _ _ _ h1 h2 => exact ⟨fun hk => by omega, fun x hx => ⟨_, _, h2 x hx⟩⟩
  | block _ _ _ h1 h2 => exact ⟨fun hk => by omega, fun x hx => ⟨_, _, h2 x hx⟩⟩
  | num _ _ _ h1 h2 => exact ⟨fun _ => ⟨h1, h2⟩, fun x hx => by cases hx⟩
  | _ =>
    refine ⟨fun hk => by omega, fun x hx => ?_⟩
    first
      | (cases hx; done)
      | (simp only [List.mem_cons, List.not_mem_nil, or_false] at hx
         rcases hx with rfl | rfl | rfl <;> exact ⟨_, _, by assumption⟩)
      | (simp only [List.mem_cons, List.not_mem_nil, or_false] at hx
         rcases hx with rfl | rfl <;> exact ⟨_, _, by assumption⟩)
      | (simp only [List.mem_cons, List.not_mem_nil, or_false] at hx
         subst hx
         exact ⟨_, _, by assumption⟩)
def sm : List Bs → Nat
 | [] => 0
 | a :: l => a.length + 2 + sm l
theorem joinC_len : ∀ l : List Bs, (joinC l).length ≤ sm l
 | [] => by simp [joinC, sm]
 | [a] => by simp [joinC, sm]
 | a :: b :: l => by
  have := joinC_len (b :: l)
  simp only [joinC, sm, List.length_append, List.length_cons, List.length_nil] at this ⊢
  omega
def KL (l : List Node) : Prop := ∀ x ∈ l, ∀ m, (wr x m).length + 8 ≤ 64 * wg x
theorem KL.tail {x : Node} {l : List Node} (h : KL (x :: l)) : KL l := fun y hy => h y (by simp [hy])
theorem sm_len (m : M) : ∀ l : List Node, KL l → sm (l.map (wr · m)) ≤ 64 * wgs l
 | [], _ => by simp [sm]
 | x :: l, h => by
  have h1 := h x (by simp) m
  have h2 := sm_len m l h.tail
  simp only [List.map_cons, sm, wgs]; omega
theorem flat_len' : ∀ l : List Node, KL l → (l.flatMap fun x => wr x .stmt ++ [32]).length ≤ 64 * wgs l
 | [], _ => by simp
 | x :: l, h => by
  have h1 := h x (by simp) .stmt
  have h2 := flat_len' l h.tail
  simp only [List.flatMap_cons, List.length_append, List.length_cons, List.length_nil, wgs] at h2 ⊢; omega
theorem joinB_len : ∀ l : List Node, KL l → (joinB (l.map fun x => wr x .stmt)).length ≤ 64 * wgs l
 | [], _ => by simp [joinB]
 | [a], h => by
  have := h a (by simp) .stmt
  simp only [List.map_cons, List.map_nil, joinB, wgs]; omega
 | a :: b :: l, h => by
  have h1 := h a (by simp) .stmt
  have h2 := joinB_len (b :: l) h.tail
  simp only [List.map_cons, joinB, wgs, List.length_append, List.length_cons, List.length_nil] at h2 ⊢; omega
theorem kid_nil (i : Nat) (m : M) : kid (wrs []) i m = [] := by simp [kid, wrs]
theorem kid_zero (x : Node) (l : List Node) : kid (wrs (x :: l)) 0 = wr x := by simp [kid, wrs]
theorem kid_succ (x : Node) (l : List Node) (i : Nat) : kid (wrs (x :: l)) (i + 1) = kid (wrs l) i := by simp [kid, wrs]
theorem kid1_len (i : Nat) (m : M) : ∀ l : List Node, KL l → (kid (wrs l) i m).length ≤ 64 * wgs l
 | [], _ => by rw [kid_nil]; simp
 | x :: l, h => by
  have h1 := h x (by simp) m
  cases i with
  | zero => rw [kid_zero]; simp only [wgs]; omega
  | succ i => rw [kid_succ]; have := kid1_len i m l h.tail; simp only [wgs]; omega
theorem kid3_len (a b c : M) (l : List Node) (h : KL l) : (kid (wrs l) 0 a).length + (kid (wrs l) 1 b).length + (kid (wrs l) 2 c).length ≤ 64 * wgs l := by
 cases l with
 | nil => rw [kid_nil, kid_nil, kid_nil]; simp
 | cons x l =>
  have h1 := h x (by simp) a
  rw [kid_zero, kid_succ, kid_succ]
  cases l with
  | nil => rw [kid_nil, kid_nil]; simp only [wgs, List.length_nil]; omega
  | cons y l =>
   have h2 := h.tail y (by simp) b
   have h3 := kid1_len 0 c l h.tail.tail
   rw [kid_zero, kid_succ]
   simp only [wgs]; omega
theorem kidr_len (a b : M) (l : List Node) (h : KL l) : (kid (wrs l) 0 a).length + (joinC (((wrs l).drop 1).map (· b))).length ≤ 64 * wgs l := by
 cases l with
 | nil => rw [kid_nil]; simp [wrs, joinC]
 | cons x l =>
  have h1 := h x (by simp) a
  rw [kid_zero]
  have e : ((wrs (x :: l)).drop 1).map (· b) = l.map (wr · b) := by simp only [wrs, List.drop_succ_cons, List.drop_zero]; rw [wrs_map, List.map_map]; rfl
  rw [e]
  have h2 := joinC_len (l.map (wr · b))
  have h3 := sm_len b l h.tail
  simp only [wgs]; omega
theorem kidf_len (a b : M) : ∀ (l : List Node) (q : Nat), KL l → sm (((wrs l).take q).map (· a)) + (kid (wrs l) q b).length ≤ 64 * wgs l
 | [], q, _ => by rw [kid_nil]; simp [wrs, sm]
 | x :: l, 0, h => by
  have h1 := h x (by simp) b
  rw [kid_zero]
  simp only [List.take_zero, List.map_nil, sm, wgs]; omega
 | x :: l, q + 1, h => by
  have h1 := h x (by simp) a
  have h2 := kidf_len a b l q h.tail
  rw [kid_succ]
  simp only [wrs, List.take_succ_cons, List.map_cons, sm, wgs]; omega
theorem listed_len (o c : Bs) (l : List Bs) : (listed o c l).length ≤ o.length + c.length + (joinC l).length := by simp only [listed, List.length_append]; omega
theorem quote_le (l : Bs) : (Lexy.quote l).length ≤ 4 * l.length + 2 := by
 have : (l.flatMap Lexy.qb).length ≤ 4 * l.length := by
  induction l with
  | nil => simp
  | cons c r ih => have := (Lexy.qb_len c).2; simp only [List.flatMap_cons, List.length_append, List.length_cons]; omega
 simp only [Lexy.quote, List.length_cons, List.length_append, List.length_nil]; omega
theorem sgn_len (k : Int) (t : Bs) : (sgn k t).length ≤ t.length + 2 := by
 unfold sgn; split
 ·simp
 ·split
  ·simp
  ·omega
section
variable {k nu : Int} {t : Bs} {l : List Node}
theorem fn_len (h : KL l) : (wFn t (wrs l)).length ≤ t.length + 64 * wgs l + 12 := by
 have h1 := kidf_len .param .block l ((wrs l).length - 1) h
 have h2 := joinC_len (((wrs l).take ((wrs l).length - 1)).map (· M.param))
 have h3 := listed_len [40] [41] (((wrs l).take ((wrs l).length - 1)).map (· M.param))
 unfold wFn
 simp only [ln] at h3 ⊢
 by_cases ht : t = []
 ·rw [if_pos ht]; simp only [List.length_nil]; omega
 ·rw [if_neg ht]; simp only [List.length_cons]; omega
theorem fst_len (hk : k = 1 → 0 ≤ nu ∧ nu ≤ 9007199254740992) (h : KL l) : (wFst k nu t (wrs l)).length ≤ 4 * t.length + 64 * wgs l + 24 := by
 have hj : ∀ m : M, (joinC ((wrs l).map (· m))).length ≤ 64 * wgs l := fun m => by
  have h1 := joinC_len ((wrs l).map (· m))
  have h2 := sm_len m l h
  have e : (wrs l).map (· m) = l.map (wr · m) := by rw [wrs_map, List.map_map]; rfl
  rw [e] at h1 ⊢; omega
 unfold wFst
 by_cases h1 : k = 1
 ·rw [if_pos h1]
  have := Go.Lib.itoa_length_le nu (by have := hk h1; omega) (by have := hk h1; omega)
  omega
 rw [if_neg h1]
 by_cases h2 : k = 2
 ·rw [if_pos h2]; have := quote_le t; omega
 rw [if_neg h2]
 by_cases h3 : k = 3
 ·rw [if_pos h3]; split <;> simp
 rw [if_neg h3]
 by_cases h4 : k = 4
 ·rw [if_pos h4]; simp
 rw [if_neg h4]
 by_cases h5 : k = 5
 ·rw [if_pos h5]; omega
 rw [if_neg h5]
 by_cases h6 : k = 6
 ·rw [if_pos h6]; have h7 := listed_len [91] [93] ((wrs l).map (· (M.at (-2)))); have := hj (.at (-2)); simp only [List.length_cons, List.length_nil] at h7; omega
 rw [if_neg h6]
 by_cases h7 : k = 7
 ·rw [if_pos h7]; have h8 := listed_len [123] [125] ((wrs l).map (· M.pair)); have := hj .pair; simp only [List.length_cons, List.length_nil] at h8; omega
 rw [if_neg h7]
 by_cases h9 : k = 9
 ·rw [if_pos h9]; have := fn_len (t := t) h; omega
 rw [if_neg h9]; simp
theorem ex_len (hk : k = 1 → 0 ≤ nu ∧ nu ≤ 9007199254740992) (h : KL l) : (wEx k nu t (wrs l)).length ≤ 4 * t.length + 64 * wgs l + 24 := by
 have h3 := fun a b c => kid3_len a b c l h
 unfold wEx
 split
 ·have := h3 (.at 7) (.at (-2)) (.at (-2)); simp only [ln]; omega
 split
 ·have := h3 (.at 0) (.at (-2)) (.at (-2)); simp only [ln]; omega
 split
 ·have := h3 (.at (rank (.mk k nu t []))) (.at (rank (.mk k nu t []) + 1)) (.at (-2))
  have := sgn_len k t
  simp only [ln]; omega
 split
 ·have := kid1_len 0 (.at 6) l h; simp only [List.length_append]; omega
 split
 ·have h4 := kidr_len (.at 7) (.at (-2)) l h
  have h5 := listed_len [40] [41] (((wrs l).drop 1).map (· (M.at (-2))))
  simp only [ln] at h5 ⊢; omega
 split
 ·have := h3 (.at 7) (.at (-2)) (.at (-2)); simp only [ln]; omega
 split
 ·have := kid1_len 0 (.at 7) l h; simp only [List.length_append, List.length_cons]; omega
 ·exact fst_len hk h
theorem block_len (h : KL l) : (wBlock (wrs l)).length ≤ 64 * wgs l + 8 := by
 have e : ((wrs l).flatMap fun g => g .stmt ++ [32]) = l.flatMap fun x => wr x .stmt ++ [32] := by rw [wrs_map, List.flatMap_map]
 have := flat_len' l h
 unfold wBlock
 rw [e]
 simp only [ln]; omega
theorem ifs_len (h : KL l) : (wIfs l (wrs l)).length ≤ 64 * wgs l + 16 := by
 have h1 := kid3_len (.at (-2)) .block .ifs l h
 have h2 := kid3_len (.at (-2)) .block .block l h
 unfold wIfs
 simp only [ln]
 split
 ·split <;> simp only [ln] <;> omega
 ·simp only [List.length_nil]; omega
theorem tries_len (h : KL l) : (wTries nu t (wrs l)).length ≤ t.length + 64 * wgs l + 24 := by
 have h1 := kid3_len .block .block .block l h
 unfold wTries
 simp only [ln]
 split
 ·split <;> simp only [ln] <;> omega
 ·split <;> simp only [ln] <;> omega
theorem stmt_len (h : KL l) : (wStmt k nu t l (wrs l)).length ≤ t.length + 64 * wgs l + 24 := by
 have h3 := fun a b c => kid3_len a b c l h
 have hb := block_len h
 have hi := ifs_len h
 have ht := tries_len (nu := nu) (t := t) h
 have e2 := h3 (.at (-2)) .block .block
 have e1 := kid1_len 0 (.at (-2)) l h
 have ef := kid1_len 0 .fn l h
 unfold wStmt
 by_cases y20 : k = 20
 ·rw [if_pos y20]
  simp only [ln]; omega
 rw [if_neg y20]
 by_cases y21 : k = 21
 ·rw [if_pos y21]
  omega
 rw [if_neg y21]
 by_cases y22 : k = 22
 ·rw [if_pos y22]
  omega
 rw [if_neg y22]
 by_cases y23 : k = 23
 ·rw [if_pos y23]
  simp only [ln]; omega
 rw [if_neg y23]
 by_cases y24 : k = 24
 ·rw [if_pos y24]
  simp only [ln]; omega
 rw [if_neg y24]
 by_cases y25 : k = 25
 ·rw [if_pos y25]
  split <;> simp only [ln] <;> omega
 rw [if_neg y25]
 by_cases y26 : k = 26
 ·rw [if_pos y26]
  simp only [List.length_cons, List.length_nil]; omega
 rw [if_neg y26]
 by_cases y27 : k = 27
 ·rw [if_pos y27]
  simp only [List.length_cons, List.length_nil]; omega
 rw [if_neg y27]
 by_cases y28 : k = 28
 ·rw [if_pos y28]
  simp only [ln]; omega
 rw [if_neg y28]
 by_cases y29 : k = 29
 ·rw [if_pos y29]
  omega
 rw [if_neg y29]
 by_cases y30 : k = 30
 ·rw [if_pos y30]
  omega
 rw [if_neg y30]
 by_cases y31 : k = 31
 ·rw [if_pos y31]
  by_cases hf : front (l.getD 0 default) = 7 ∨ front (l.getD 0 default) = 9
  ·rw [if_pos hf]; simp only [ln]; omega
  ·rw [if_neg hf]; simp only [ln]; omega
 rw [if_neg y31]
 simp only [List.length_nil]; omega
end
theorem wr_len : ∀ n : Node, (∃ a b, Rt a b n) → ∀ m, (wr n m).length + 8 ≤ 64 * wg n := by
 refine ind fun k nu t l ih hr m => ?_
 obtain ⟨a, b, hr⟩ := hr
 obtain ⟨hk, hkids⟩ := rt_kids hr
 have h : KL l := fun x hx m => ih x hx (hkids x hx) m
 have h1 := ex_len (t := t) hk h
 have h2 := fst_len (t := t) hk h
 have h3 := fn_len (t := t) h
 have h4 := block_len h
 have h5 := ifs_len h
 have h6 := tries_len (nu := nu) (t := t) h
 have h7 := stmt_len (k := k) (nu := nu) (t := t) h
 have h8 := kid1_len 0 (.at (-2)) l h
 show (step k nu t l (wrs l) m).length + 8 ≤ 64 * (t.length + wgs l + 1)
 cases m <;> simp only [step]
 case «at» q =>
  split
  ·omega
  ·simp only [ln]; omega
 case pair => simp only [ln]; omega
 all_goals omega
end Wri

/-
  Texts that the law leans on: PlH. Conditions: as each says.
-/
import Derived.Test.YtonjdlialejedaaGreatDoorXBq
import Derived.Test.YtonjdlialejedaaGreatDoorXBn
import Derived.Test.YtonjdlialejedaaGreatDoorXAa
set_option linter.unusedSimpArgs false
set_option linter.unusedVariables false
namespace Wri
open Pars
open Lexy (Tk sg kw nm)
variable {fn lp : Bool}
def Sepd (fin : Bs) (m : List Tk) : Prop := ∃ z, m = sg [44] :: z ∨ m = sg fin :: z
theorem some_more {one : Nt} {fin : Bs} (hf : fin ≠ [44]) (T : Node → List Tk) : ∀ (l acc : List Node) (m : List Tk), (∀ x ∈ l, ∀ m', Sepd fin m' → Ev one fn lp (T x ++ m') x m') →
  Ev (.some fin one true acc) fn lp ((l.flatMap fun x => sg [44] :: T x) ++ sg fin :: m) (.mk 0 0 [] (acc ++ l)) m
 | [], acc, m, _ => ev_of 0 fun G _ => by
  simp only [List.flatMap_nil, List.nil_append, List.append_nil, run]
  rw [alt_some (is_sg _ _)]
 | x :: l, acc, m, h => by
  obtain ⟨F2, h2⟩ := some_more hf T l (acc ++ [x]) m fun y hy => h y (by simp [hy])
  have hs : Sepd fin ((l.flatMap fun x => sg [44] :: T x) ++ sg fin :: m) := by
   cases l with
   | nil => exact ⟨m, .inr rfl⟩
   | cons y l => exact ⟨_, .inl rfl⟩
  obtain ⟨F1, h1⟩ := h x (by simp) _ hs
  have e : ((x :: l).flatMap fun x => sg [44] :: T x) ++ sg fin :: m = sg [44] :: (T x ++ ((l.flatMap fun x => sg [44] :: T x) ++ sg fin :: m)) := by simp
  rw [e]
  refine ev_of (max F1 F2) fun G hG => ?_
  simp only [run, sep, if_true]
  rw [alt_no (no_sg (fun h => hf h.symm) _), must_some (is_sg _ _), and_some (h1 G (by omega)), h2 G (by omega)]
  simp
theorem tjoin_cons (a : List Tk) : ∀ l : List (List Tk), tjoin (a :: l) = a ++ l.flatMap fun x => sg [44] :: x
 | [] => by simp [tjoin]
 | b :: l => by
  have := tjoin_cons b l
  simp only [tjoin, List.flatMap_cons]
  rw [this]
  simp
theorem some_all {one : Nt} {fin : Bs} (hf : fin ≠ [44]) (hfs : fin ∉ starts) (hone : one = .statement ∨ one = .expression ∨ one = .cond ∨ (∃ k, one = .binary k) ∨ one = .unary ∨ one = .first ∨ one = .inner ∨ one = .block ∨ one = .param ∨ one = .pair) (T : Node → List Tk) (l : List Node) (m : List Tk) (h : ∀ x ∈ l, ∀ m', Sepd fin m' → Ev one fn lp (T x ++ m') x m') :
  Ev (.some fin one false []) fn lp (tjoin (l.map T) ++ sg fin :: m) (.mk 0 0 [] l) m := by
 cases l with
 | nil =>
  exact ev_of 0 fun G _ => by
   simp only [List.map_nil, tjoin, List.nil_append, run]
   rw [alt_some (is_sg _ _)]
 | cons x l =>
  obtain ⟨F2, h2⟩ := some_more hf T l [x] m fun y hy => h y (by simp [hy])
  have hs : Sepd fin ((l.flatMap fun x => sg [44] :: T x) ++ sg fin :: m) := by
   cases l with
   | nil => exact ⟨m, .inr rfl⟩
   | cons y l => exact ⟨_, .inl rfl⟩
  have hx := h x (by simp) _ hs
  have hno := is_no hfs hx hone
  obtain ⟨F1, h1⟩ := hx
  have e : tjoin ((x :: l).map T) ++ sg fin :: m = T x ++ ((l.flatMap fun x => sg [44] :: T x) ++ sg fin :: m) := by
   rw [List.map_cons, tjoin_cons, List.flatMap_map]; simp
  rw [e]
  refine ev_of (max F1 F2) fun G hG => ?_
  simp only [run, sep, if_false, Bool.false_eq_true, List.nil_append]
  rw [alt_no hno, and_some (h1 G (by omega)), h2 G (by omega)]
  rfl
theorem stopE_sep {fin : Bs} (h : fin ∉ fol 0) (h1 : fin ≠ [61]) (h2 : fin ≠ [63]) {m : List Tk} (hs : Sepd fin m) : StopE m := by
 obtain ⟨z, rfl | rfl⟩ := hs
 ·exact stopE_sg (by decide) (by decide) (by decide) z
 ·exact stopE_sg h h1 h2 z
def okHead (t : Tk) : Prop := (t.kind = 1 ∨ t.kind = 2 ∨ t.kind = 3) ∨ t ∈ [kw wTrue, kw wFalse, kw wNull, kw Pars.wFn, sg [91], sg [123], sg [40], sg [33], sg [45]]
def HT (n : Node) (l : List Tk) (f : Int) : Prop := ∃ t r, l = t :: r ∧ okHead t ∧ (t = kw Pars.wFn → f = 9) ∧ (t = sg [123] → f = 7)
theorem HT.app {n : Node} {l : List Tk} {f : Int} (h : HT n l f) (m : List Tk) : HT n (l ++ m) f := by
 obtain ⟨t, r, rfl, h1, h2⟩ := h; exact ⟨t, r ++ m, rfl, h1, h2⟩
theorem HT.at_ {n : Node} (h : HT n (tw n .ex) (front n)) (q : Int) : HT n (tw n (.at q)) (if rank n < q then 0 else front n) := by
 rw [tw_at]
 by_cases hq : q ≤ rank n
 ·rw [if_pos hq, if_neg (by omega)]; exact h
 ·rw [if_neg hq]; exact ⟨sg [40], _, rfl, .inr (by decide), fun e => absurd e (by decide), fun e => absurd e (by decide)⟩
theorem HT.head {n m : Node} {l : List Tk} {f : Int} (h : HT n l f) : HT m l f := h
theorem ht {n : Node} (h : Rt fn lp n) : isE n → HT n (tw n .ex) (front n) := by
 induction h with
 | num fn lp nu h1 h2 => intro _; exact ⟨_, _, rfl, .inl (.inr (.inl rfl)), fun e => absurd (congrArg Tk.kind e) (by simp [kw, nm]), fun e => absurd (congrArg Tk.kind e) (by simp [sg, nm])⟩
 | str fn lp t => intro _; exact ⟨_, _, rfl, .inl (.inr (.inr rfl)), fun e => absurd (congrArg Tk.kind e) (by simp [kw, nm]), fun e => absurd (congrArg Tk.kind e) (by simp [sg, nm])⟩
 | bool fn lp nu h => intro _; rcases h with rfl | rfl <;> exact ⟨_, _, rfl, .inr (by decide), by decide, by decide⟩
 | null => intro _; exact ⟨_, _, rfl, .inr (by decide), by decide, by decide⟩
 | var fn lp t h => intro _; exact ⟨_, _, rfl, .inl (.inl rfl), fun e => absurd (congrArg Tk.kind e) (by simp [kw, nm]), fun e => absurd (congrArg Tk.kind e) (by simp [sg, nm])⟩
 | list fn lp l h1 h2 ih => intro _; exact ⟨sg [91], _, rfl, .inr (by decide), fun e => absurd e (by decide), fun e => absurd e (by decide)⟩
 | recd fn lp l h1 h2 ih => intro _; exact ⟨sg [123], _, rfl, .inr (by decide), fun e => absurd e (by decide), fun _ => rfl⟩
 | func fn lp t ps b h1 h2 h3 h4 ih => intro _; exact ⟨kw Pars.wFn, _, rfl, .inr (by decide), fun _ => rfl, fun e => absurd e (by decide)⟩
 | call fn lp a l h1 h2 h3 h4 ih1 ih2 => intro _; exact ((ih1 h1).at_ 7).app _
 | index fn lp a b h1 h2 h3 h4 ih1 ih2 => intro _; exact ((((ih1 h1).at_ 7).app _).app _).app _
 | dot fn lp t a h1 h2 h3 ih => intro _; exact ((ih h2).at_ 7).app _
 | unary fn lp t a h1 h2 h3 ih => intro _; rcases h1 with rfl | rfl <;> exact ⟨_, _, rfl, .inr (by decide), fun e => absurd e (by decide), fun e => absurd e (by decide)⟩
 | binary fn lp t a b h1 h2 h3 h4 h5 ih1 ih2 => intro _; exact (((ih1 h2).at_ (rank (.mk 15 0 t []))).app _).app _
 | and_ fn lp a b h1 h2 h3 h4 ih1 ih2 => intro _; exact (((ih1 h1).at_ (rank (.mk 16 0 [] []))).app _).app _
 | or_ fn lp a b h1 h2 h3 h4 ih1 ih2 => intro _; exact (((ih1 h1).at_ (rank (.mk 17 0 [] []))).app _).app _
 | cond fn lp a b c h1 h2 h3 h4 h5 h6 ih1 ih2 ih3 => intro _; exact (((((ih1 h1).at_ 0).app _).app _).app _).app _
 | assign fn lp a b h1 h2 h3 h4 ih1 ih2 =>
  intro _
  have : isE a := by unfold isT at h1; unfold isE; omega
  exact (((ih1 this).at_ 7).app _).app _
 | _ => intro h; unfold isE at h; simp [Node.kind] at h
theorem ok_no {t : Tk} (h : okHead t) (hf : t ≠ kw Pars.wFn) (l : List Tk) : ∀ s ∈ [wLet, Pars.wFn, wIf, wWhile, wFor, wReturn, wBreak, wContinue, wThrow, wTry], is s (t :: l) = none := by
 intro s hs
 rcases h with h | h
 ·exact no_k (by omega) (by omega) s l
 ·simp only [List.mem_cons, List.not_mem_nil, or_false] at h
  rcases h with rfl | rfl | rfl | rfl | rfl | rfl | rfl | rfl | rfl
  ·exact no_kw (by rintro rfl; exact absurd hs (by decide)) l
  ·exact no_kw (by rintro rfl; exact absurd hs (by decide)) l
  ·exact no_kw (by rintro rfl; exact absurd hs (by decide)) l
  ·exact absurd rfl hf
  ·exact no_sg (by rintro rfl; exact absurd hs (by decide)) l
  ·exact no_sg (by rintro rfl; exact absurd hs (by decide)) l
  ·exact no_sg (by rintro rfl; exact absurd hs (by decide)) l
  ·exact no_sg (by rintro rfl; exact absurd hs (by decide)) l
  ·exact no_sg (by rintro rfl; exact absurd hs (by decide)) l
theorem ok_peek {t : Tk} (h : okHead t) (hf : t ≠ sg [123]) (l : List Tk) (a b : R) : peek [123] (t :: l) a b = b := by
 simp only [peek]
 rw [if_neg]
 rintro ⟨h4, h5⟩
 rcases h with h | h
 ·omega
 ·simp only [List.mem_cons, List.not_mem_nil, or_false] at h
  rcases h with rfl | rfl | rfl | rfl | rfl | rfl | rfl | rfl | rfl
  ·cases h4
  ·cases h4
  ·cases h4
  ·cases h4
  ·exact absurd h5 (by decide)
  ·exact absurd rfl hf
  ·exact absurd h5 (by decide)
  ·exact absurd h5 (by decide)
  ·exact absurd h5 (by decide)
structure PS (fn lp : Bool) (n : Node) : Prop where
 ex : isE n → EX fn lp n
 fn_ : n.kind = 9 → ∀ m, ∃ l, tw n .fn ++ m = kw Pars.wFn :: (if n.text = [] then l else nm n.text :: l) ∧ Ev (.function n.text) fn lp l n m
 pair : n.kind = 8 → ∀ m, StopE m → Ev .pair fn lp (tw n .pair ++ m) n m
 block : n.kind = 30 → ∀ m, Ev .block fn lp (tw n .block ++ m) n m
 ifs : n.kind = 22 → ∀ m, NoF m → ∃ l, tw n .ifs ++ m = kw wIf :: l ∧ Ev .ifs fn lp l n m
 stmt : 20 ≤ n.kind → ∀ m, NoF m → Ev .statement fn lp (tw n .stmt ++ m) n m
theorem PS.e {n : Node} (h : EX fn lp n) (hk : n.kind ≤ 19 := by simp [Node.kind]) (h8 : n.kind ≠ 8 := by simp [Node.kind]) (h9 : n.kind ≠ 9 := by simp [Node.kind]) : PS fn lp n :=
 ⟨fun _ => h, fun e => absurd e h9, fun e => absurd e h8, fun e => by omega, fun e => by omega, fun e => by omega⟩
theorem PS.s {n : Node} (h : ∀ m, NoF m → Ev .statement fn lp (tw n .stmt ++ m) n m) (hk : 20 ≤ n.kind := by simp [Node.kind]) (h2 : n.kind ≠ 22 := by simp [Node.kind]) (h3 : n.kind ≠ 30 := by simp [Node.kind]) : PS fn lp n :=
 ⟨fun e => by unfold isE at e; omega, fun e => by omega, fun e => by omega, fun e => absurd e h3, fun e => absurd e h2, fun _ => h⟩
theorem ev_body {f : Bool} {l m : List Tk} {n : Node} (h : Ev .block (fn || f) (!f) l n m) : Ev (.body f) fn lp l n m := by
 obtain ⟨F, h⟩ := h
 exact ev_of F fun G hG => by simp only [run]; exact h G hG
theorem block_go : ∀ (l acc : List Node) (m : List Tk), (∀ x ∈ l, ∀ m', NoF m' → Ev .statement fn lp (tw x .stmt ++ m') x m') →
  NoF ((l.flatMap fun x => tw x .stmt) ++ sg [125] :: m) ∧ Ev (.blockGo acc) fn lp ((l.flatMap fun x => tw x .stmt) ++ sg [125] :: m) (.mk 30 0 [] (acc ++ l)) m
 | [], acc, m, _ => ⟨noF_sg _ (by decide) m, ev_of 0 fun G _ => by
  simp only [List.flatMap_nil, List.nil_append, List.append_nil, run]
  rw [alt_some (is_sg _ _)]⟩
 | x :: l, acc, m, h => by
  obtain ⟨hn, F2, h2⟩ := block_go l (acc ++ [x]) m fun y hy => h y (by simp [hy])
  have hx := h x (by simp) _ hn
  have e : ((x :: l).flatMap fun x => tw x .stmt) ++ sg [125] :: m = tw x .stmt ++ ((l.flatMap fun x => tw x .stmt) ++ sg [125] :: m) := by simp
  rw [e]
  refine ⟨noF_ev hx, ?_⟩
  have hno := is_no (s := [125]) (by decide) hx (.inl rfl)
  obtain ⟨F1, h1⟩ := hx
  refine ev_of (max F1 F2) fun G hG => ?_
  simp only [run]
  rw [alt_no hno, and_some (h1 G (by omega)), h2 G (by omega)]
  simp
theorem rank15 {t : Bs} : ∀ t ∈ binS, (rankOf 0 Pars.ranks t).toNat < 6 ∧ t ∈ Pars.ranks.getD (rankOf 0 Pars.ranks t).toNat [] ∧ rankOf 0 Pars.ranks t = ((rankOf 0 Pars.ranks t).toNat : Int) ∧ t ≠ [124, 124] ∧ t ≠ [38, 38] := by decide
theorem ev_semi {a : Node} (h : EX fn lp a) (m : List Tk) : ∃ F, ∀ G, F ≤ G → run G .expression fn lp (tw a (.at (-2)) ++ sg [59] :: m) = some (a, sg [59] :: m) :=
 h.ex _ (stopE_sg (by decide) (by decide) (by decide) m)
theorem ev_close {a : Node} (h : EX fn lp a) (m : List Tk) : Ev .expression fn lp (tw a (.at (-2)) ++ sg [41] :: m) a (sg [41] :: m) :=
 h.ex _ (stopE_sg (by decide) (by decide) (by decide) m)
theorem rest_ex {c : Bs} (h : c ∉ fol 0) (h1 : c ≠ [61]) (h2 : c ≠ [63]) {a : Node} (ha : EX fn lp a) (m : List Tk) : Ev .expression fn lp (tw a (.at (-2)) ++ sg c :: m) a (sg c :: m) := ha.ex _ (stopE_sg h h1 h2 m)
set_option maxHeartbeats 2000000 in
theorem ps {n : Node} (h : Rt fn lp n) : PS fn lp n := by
 induction h with
 | num fn lp nu h1 h2 =>
  refine .e (.atom (by rfl) fun m => ev_of 0 fun G _ => ?_)
  rw [show tw _ .ex ++ m = ⟨2, [], nu.toNat⟩ :: m from rfl]
  simp only [run, tok, if_true]
  rw [Int.toNat_of_nonneg h1]
 | str fn lp t =>
  refine .e (.atom (by rfl) fun m => ev_of 0 fun G _ => ?_)
  rw [show tw _ .ex ++ m = ⟨3, t, 0⟩ :: m from rfl]
  simp [run, tok]
 | bool fn lp nu h =>
  rcases h with rfl | rfl
  ·refine .e (.atom (by rfl) fun m => ev_of 0 fun G _ => ?_)
   rw [show tw _ .ex ++ m = kw wFalse :: m from rfl]
   simp [run, tok, alt, is, kw]
  ·refine .e (.atom (by rfl) fun m => ev_of 0 fun G _ => ?_)
   rw [show tw _ .ex ++ m = kw wTrue :: m from rfl]
   simp [run, tok, alt, is, kw]
 | null fn lp =>
  refine .e (.atom (by rfl) fun m => ev_of 0 fun G _ => ?_)
  rw [show tw _ .ex ++ m = kw wNull :: m from rfl]
  simp [run, tok, alt, is, kw]
 | var fn lp t h =>
  refine .e (.atom (by rfl) fun m => ev_of 0 fun G _ => ?_)
  rw [show tw _ .ex ++ m = nm t :: m from rfl]
  simp [run, tok, nm]
 | list fn lp l h1 h2 ih =>
  refine .e (.atom (by rfl) fun m => ?_)
  have e : tw (.mk 6 0 [] l) .ex ++ m = sg [91] :: (tjoin (l.map fun x => tw x (.at (-2))) ++ sg [93] :: m) := by
   show tlisted [91] [93] ((tws l).map (· (.at (-2)))) ++ m = _
   rw [tws_map, List.map_map]
   unfold tlisted
   simp [Function.comp_def]
  rw [e]
  obtain ⟨F, h⟩ := some_all (fn := fn) (lp := lp) (one := .expression) (fin := [93]) (by decide) (by decide) (by simp) (fun x => tw x (.at (-2))) l m (fun x hx m' hs => ((ih x hx).ex (h1 x hx)).ex _ (stopE_sep (by decide) (by decide) (by decide) hs))
  refine ev_of F fun G hG => ?_
  simp only [run]
  have e2 : ∀ s : Bs, [91] ≠ s → is s (sg [91] :: (tjoin (l.map fun x => tw x (.at (-2))) ++ sg [93] :: m)) = none := fun s hs => no_sg hs _
  simp only [tok, show (sg [91]).kind = 4 from rfl, show ¬ (4 = 2) from by decide, show ¬ (4 = 3) from by decide, show ¬ (4 = 1) from by decide, if_false]
  rw [alt_no (e2 wTrue (by decide)), alt_no (e2 wFalse (by decide)), alt_no (e2 wNull (by decide)), alt_no (e2 Pars.wFn (by decide)), alt_some (is_sg _ _), and_some (h G hG)]
  rfl
 | recd fn lp l h1 h2 ih =>
  refine .e (.atom (by rfl) fun m => ?_)
  have e : tw (.mk 7 0 [] l) .ex ++ m = sg [123] :: (tjoin (l.map fun x => tw x .pair) ++ sg [125] :: m) := by
   show tlisted [123] [125] ((tws l).map (· .pair)) ++ m = _
   rw [tws_map, List.map_map]
   unfold tlisted
   simp [Function.comp_def]
  rw [e]
  obtain ⟨F, h⟩ := some_all (fn := fn) (lp := lp) (one := .pair) (fin := [125]) (by decide) (by decide) (by simp) (fun x => tw x .pair) l m (fun x hx m' hs => (ih x hx).pair (h1 x hx) _ (stopE_sep (by decide) (by decide) (by decide) hs))
  refine ev_of F fun G hG => ?_
  simp only [run]
  have e2 : ∀ s : Bs, [123] ≠ s → is s (sg [123] :: (tjoin (l.map fun x => tw x .pair) ++ sg [125] :: m)) = none := fun s hs => no_sg hs _
  simp only [tok, show (sg [123]).kind = 4 from rfl, show ¬ (4 = 2) from by decide, show ¬ (4 = 3) from by decide, show ¬ (4 = 1) from by decide, if_false]
  rw [alt_no (e2 wTrue (by decide)), alt_no (e2 wFalse (by decide)), alt_no (e2 wNull (by decide)), alt_no (e2 Pars.wFn (by decide)), alt_no (e2 [91] (by decide)), alt_some (is_sg _ _), and_some (h G hG)]
  rfl
 | pair fn lp t a h1 h2 h3 ih =>
  refine ⟨fun e => by simp [isE, Node.kind] at e, fun e => by simp [Node.kind] at e, fun _ m hs => ?_, fun e => by simp [Node.kind] at e, fun e => by simp [Node.kind] at e, fun e => by simp [Node.kind] at e⟩
  obtain ⟨F, h⟩ := (ih.ex h2).ex m hs
  rw [show tw (.mk 8 0 t [a]) .pair ++ m = nm t :: sg [58] :: (tw a (.at (-2)) ++ m) from by show ([nm t, sg [58]] ++ tw a (.at (-2))) ++ m = _; simp]
  refine ev_of F fun G hG => ?_
  simp only [run]
  rw [named_nm, must_some (is_sg _ _), and_some (h G hG)]
 | func fn lp t ps b h1 h2 h3 h4 ih =>
  have key : ∀ m, ∃ l, tw (.mk 9 0 t (ps.map (fun p => .mk 10 0 p []) ++ [b])) .fn ++ m = kw Pars.wFn :: (if t = [] then l else nm t :: l) ∧ Ev (.function t) fn lp l (.mk 9 0 t (ps.map (fun p => .mk 10 0 p []) ++ [b])) m := by
   intro m
   obtain ⟨F1, g1⟩ := some_all (fn := fn) (lp := lp) (one := .param) (fin := [41]) (by decide) (by decide) (by simp) (fun x => [nm x.text]) (ps.map fun p => .mk 10 0 p []) (tw b .block ++ m) (by
    intro x hx m' _
    obtain ⟨p, hp, rfl⟩ := List.mem_map.1 hx
    exact ev_of 0 fun G _ => by simp only [run, List.cons_append, List.nil_append]; exact named_nm _ _ _)
   obtain ⟨F2, g2⟩ := ev_body (fn := fn) (lp := lp) (f := true) (by rw [Bool.or_true]; exact ih.block h3 m)
   refine ⟨sg [40] :: (tjoin ((ps.map fun p => Node.mk 10 0 p []).map fun x => [nm x.text]) ++ sg [41] :: (tw b .block ++ m)), ?_, ev_of (max F1 F2) fun G hG => ?_⟩
   ·rw [tw_func, List.map_map]
    have e3 : ((fun x : Node => [nm x.text]) ∘ fun p : Bs => Node.mk 10 0 p []) = fun p => [nm p] := rfl
    rw [e3]
    unfold tlisted
    by_cases ht : t = []
    ·simp [ht]
    ·simp [ht]
   ·simp only [run]
    rw [must_some (is_sg _ _), and_some (g1 G (by omega)), and_some (g2 G (by omega))]
    rfl
  refine ⟨fun he => ?_, fun _ => key, fun e => by simp [Node.kind] at e, fun e => by simp [Node.kind] at e, fun e => by simp [Node.kind] at e, fun e => by simp [Node.kind] at e⟩
  have ht : t = [] := by have := he.2.2.2.2; simp [Node.kind, Node.text] at this; exact this
  subst ht
  refine .atom (by rfl) fun m => ?_
  obtain ⟨l, e, F, h⟩ := key m
  rw [if_pos rfl] at e
  rw [show tw (.mk 9 0 [] (ps.map (fun p => .mk 10 0 p []) ++ [b])) .ex = tw (.mk 9 0 [] (ps.map (fun p => .mk 10 0 p []) ++ [b])) .fn from rfl, e]
  refine ev_of F fun G hG => ?_
  simp only [run]
  simp only [tok, show (kw Pars.wFn).kind = 5 from rfl, show ¬ (5 = 2) from by decide, show ¬ (5 = 3) from by decide, show ¬ (5 = 1) from by decide, if_false]
  rw [alt_no (no_kw (show Pars.wFn ≠ wTrue from by decide) _), alt_no (no_kw (show Pars.wFn ≠ wFalse from by decide) _), alt_no (no_kw (show Pars.wFn ≠ wNull from by decide) _), alt_some (is_kw _ _), h G hG]
 | param fn lp t h =>
  exact ⟨fun e => by simp [isE, Node.kind] at e, fun e => by simp [Node.kind] at e, fun e => by simp [Node.kind] at e, fun e => by simp [Node.kind] at e, fun e => by simp [Node.kind] at e, fun e => by simp [Node.kind] at e⟩
 | call fn lp a l h1 h2 h3 h4 ih1 ih2 =>
  refine .e (.high (by show (7 : Int) ≤ 7; decide) ?_)
  intro m y r hp
  have e : tw (.mk 11 0 [] (a :: l)) (.at 7) ++ m = tw a (.at 7) ++ (sg [40] :: (tjoin (l.map fun x => tw x (.at (-2))) ++ sg [41] :: m)) := by
   show (tw a (.at 7) ++ tlisted [40] [41] ((tws l).map (· (.at (-2))))) ++ m = _
   rw [tws_map, List.map_map]
   unfold tlisted
   simp [Function.comp_def]
  rw [e]
  refine (ih1.ex h1).post _ y r ?_
  obtain ⟨F, h⟩ := some_all (fn := fn) (lp := lp) (one := .expression) (fin := [41]) (by decide) (by decide) (by simp) (fun x => tw x (.at (-2))) l m (fun x hx m' hs => ((ih2 x hx).ex (h3 x hx)).ex _ (stopE_sep (by decide) (by decide) (by decide) hs))
  obtain ⟨F2, hp⟩ := hp
  refine ev_of (max F F2) fun G hG => ?_
  simp only [run]
  rw [alt_some (is_sg _ _), and_some (h G (by omega))]
  exact hp G (by omega)
 | index fn lp a b h1 h2 h3 h4 ih1 ih2 =>
  refine .e (.high (by show (7 : Int) ≤ 7; decide) ?_)
  intro m y r hp
  have e : tw (.mk 12 0 [] [a, b]) (.at 7) ++ m = tw a (.at 7) ++ (sg [91] :: (tw b (.at (-2)) ++ sg [93] :: m)) := by show (tw a (.at 7) ++ [sg [91]] ++ tw b (.at (-2)) ++ [sg [93]]) ++ m = _; simp
  rw [e]
  refine (ih1.ex h1).post _ y r ?_
  obtain ⟨F, h⟩ := rest_ex (c := [93]) (by decide) (by decide) (by decide) (ih2.ex h3) m
  obtain ⟨F2, hp⟩ := hp
  refine ev_of (max F F2) fun G hG => ?_
  simp only [run]
  rw [alt_no (no_sg (show [91] ≠ [40] from by decide) _), alt_some (is_sg _ _), and_some (h G (by omega)), must_some (is_sg _ _)]
  exact hp G (by omega)
 | dot fn lp t a h1 h2 h3 ih =>
  refine .e (.high (by show (7 : Int) ≤ 7; decide) ?_)
  intro m y r hp
  have e : tw (.mk 13 0 t [a]) (.at 7) ++ m = tw a (.at 7) ++ (sg [46] :: nm t :: m) := by show (tw a (.at 7) ++ [sg [46], nm t]) ++ m = _; simp
  rw [e]
  refine (ih.ex h2).post _ y r ?_
  obtain ⟨F2, hp⟩ := hp
  refine ev_of F2 fun G hG => ?_
  simp only [run]
  rw [alt_no (no_sg (show [46] ≠ [40] from by decide) _), alt_no (no_sg (show [46] ≠ [91] from by decide) _), alt_some (is_sg _ _), named_nm]
  exact hp G (by omega)
 | unary fn lp t a h1 h2 h3 ih =>
  refine .e (.un (by rfl) ?_)
  intro m hs
  have e : tw (.mk 14 0 t [a]) (.at ((6 : Nat) : Int)) ++ m = sg t :: (tw a (.at ((6 : Nat) : Int)) ++ m) := rfl
  rw [e]
  have hb := (ih.ex h2).bin 6 (by omega) m hs
  obtain ⟨F, h⟩ := hb
  refine ev_bin6 (ev_of F fun G hG => ?_)
  have hu : run G .unary fn lp (tw a (.at ((6 : Nat) : Int)) ++ m) = some (a, m) := by have := h (G + 1) (by omega); simp only [run, if_true] at this; exact this
  simp only [run]
  rw [signs_hit (by rcases h1 with rfl | rfl <;> simp), and_some hu]
 | binary fn lp t a b h1 h2 h3 h4 h5 ih1 ih2 =>
  obtain ⟨r1, r2, r3, r4, r5⟩ := rank15 (t := t) t h1
  obtain ⟨r, hr⟩ : ∃ r, (rankOf 0 Pars.ranks t).toNat = r := ⟨_, rfl⟩
  rw [hr] at r1 r2 r3
  refine .e (.op (s := t) r1 r2 (by show rankOf 0 Pars.ranks t = _; exact r3) ?_ (by unfold joined; rw [if_neg r4, if_neg r5]) (ih1.ex h2) (ih2.ex h4))
  show tw a (.at (rankOf 0 Pars.ranks t)) ++ [sg t] ++ tw b (.at (rankOf 0 Pars.ranks t + 1)) = _
  rw [r3]; rfl
 | and_ fn lp a b h1 h2 h3 h4 ih1 ih2 =>
  exact .e (.op (s := [38, 38]) (r := 1) (by decide) (by decide) (by rfl) rfl rfl (ih1.ex h1) (ih2.ex h3))
 | or_ fn lp a b h1 h2 h3 h4 ih1 ih2 =>
  exact .e (.op (s := [124, 124]) (r := 0) (by decide) (by decide) (by rfl) rfl rfl (ih1.ex h1) (ih2.ex h3))
 | cond fn lp a b c h1 h2 h3 h4 h5 h6 ih1 ih2 ih3 =>
  refine .e (.low (by show (-1 : Int) < 0; decide) ?_)
  intro m hs
  have e : tw (.mk 18 0 [] [a, b, c]) (.at (-2)) ++ m = tw a (.at ((0 : Nat) : Int)) ++ (sg [63] :: (tw b (.at (-2)) ++ (sg [58] :: (tw c (.at (-2)) ++ m)))) := by show (tw a (.at 0) ++ [sg [63]] ++ tw b (.at (-2)) ++ [sg [58]] ++ tw c (.at (-2))) ++ m = _; simp
  rw [e]
  obtain ⟨F1, g1⟩ := (ih1.ex h1).bin 0 (by omega) (sg [63] :: (tw b (.at (-2)) ++ (sg [58] :: (tw c (.at (-2)) ++ m)))) (stop_sg (by decide) _)
  obtain ⟨F2, g2⟩ := rest_ex (c := [58]) (by decide) (by decide) (by decide) (ih2.ex h3) (tw c (.at (-2)) ++ m)
  obtain ⟨F3, g3⟩ := (ih3.ex h5).ex m hs
  refine ev_of (max F1 (max F2 F3) + 1) fun G hG => ?_
  obtain ⟨g, rfl⟩ : ∃ g, G = g + 1 := ⟨G - 1, by omega⟩
  have hc : run (g + 1) .cond fn lp (tw a (.at ((0 : Nat) : Int)) ++ (sg [63] :: (tw b (.at (-2)) ++ (sg [58] :: (tw c (.at (-2)) ++ m))))) = some (.mk 18 0 [] [a, b, c], m) := by
   simp only [run]
   rw [and_some (g1 g (by omega)), alt_some (is_sg _ _), and_some (g2 g (by omega)), must_some (is_sg _ _), and_some (g3 g (by omega))]
  rw [run, and_some hc, alt_no hs.2.1]
 | assign fn lp a b h1 h2 h3 h4 ih1 ih2 =>
  have ha : isE a := by unfold isT at h1; unfold isE; omega
  have hra : 7 ≤ rank a := by unfold isT at h1; unfold rank; rcases h1 with h | h | h <;> simp [h]
  refine .e (.low (by show (-2 : Int) < 0; decide) ?_)
  intro m hs
  have e : tw (.mk 19 0 [] [a, b]) (.at (-2)) ++ m = tw a (.at ((0 : Nat) : Int)) ++ (sg [61] :: (tw b (.at (-2)) ++ m)) := by
   show (tw a (.at 7) ++ [sg [61]] ++ tw b (.at (-2))) ++ m = _
   rw [at_same (n := a) (q := 7) (p := ((0 : Nat) : Int)) (by constructor <;> intro _ <;> omega)]; simp
  rw [e]
  obtain ⟨F1, g1⟩ := (ih1.ex ha).bin 0 (by omega) (sg [61] :: (tw b (.at (-2)) ++ m)) (stop_sg (by decide) _)
  obtain ⟨F2, g2⟩ := (ih2.ex h3).ex m hs
  refine ev_of (max F1 F2 + 1) fun G hG => ?_
  obtain ⟨g, rfl⟩ : ∃ g, G = g + 1 := ⟨G - 1, by omega⟩
  have hc : run (g + 1) .cond fn lp (tw a (.at ((0 : Nat) : Int)) ++ (sg [61] :: (tw b (.at (-2)) ++ m))) = some (a, sg [61] :: (tw b (.at (-2)) ++ m)) := by
   simp only [run]
   rw [and_some (g1 g (by omega)), alt_no (no_sg (show [61] ≠ [63] from by decide) _)]
  rw [run, and_some hc, alt_some (is_sg _ _)]
  rw [if_pos (show a.kind = 5 ∨ a.kind = 12 ∨ a.kind = 13 from h1), and_some (g2 (g + 1) (by omega))]
 | let_ fn lp t a h1 h2 h3 ih =>
  refine .s fun m hm => ?_
  have e : tw (.mk 20 0 t [a]) .stmt ++ m = kw wLet :: nm t :: sg [61] :: (tw a (.at (-2)) ++ sg [59] :: m) := by show ([kw wLet, nm t, sg [61]] ++ tw a (.at (-2)) ++ [sg [59]]) ++ m = _; simp
  rw [e]
  obtain ⟨F, h⟩ := ev_semi (ih.ex h2) m
  refine ev_of F fun G hG => ?_
  simp only [run]
  rw [alt_some (is_kw _ _), named_nm, must_some (is_sg _ _), and_some (h G hG)]
  exact must_some (is_sg _ _)
 | def_ fn lp f h1 h2 h3 ih =>
  refine .s fun m hm => ?_
  obtain ⟨l, e, F, h⟩ := ih.fn_ h1 m
  rw [if_neg h2] at e
  rw [show tw (.mk 21 0 [] [f]) .stmt = tw f .fn from rfl, e]
  refine ev_of F fun G hG => ?_
  simp only [run]
  rw [alt_no (no_kw (show Pars.wFn ≠ wLet from by decide) _), alt_some (is_kw _ _), named_nm, and_some (h G hG)]
 | if2 fn lp c b h1 h2 h3 h4 ih1 ih2 =>
  have key : ∀ m, NoF m → ∃ l, tw (.mk 22 0 [] [c, b]) .ifs ++ m = kw wIf :: l ∧ Ev .ifs fn lp l (.mk 22 0 [] [c, b]) m := by
   intro m hm
   refine ⟨sg [40] :: (tw c (.at (-2)) ++ sg [41] :: (tw b .block ++ m)), ?_, ?_⟩
   ·show ([kw wIf, sg [40]] ++ tw c (.at (-2)) ++ [sg [41]] ++ tw b .block ++ []) ++ m = _; simp
   ·obtain ⟨F1, g1⟩ := ev_inner (l' := []) (ev_close (ih1.ex h1) (tw b .block ++ m))
    obtain ⟨F2, g2⟩ := ih2.block h3 m
    refine ev_of (max F1 F2) fun G hG => ?_
    simp only [run]
    rw [and_some (g1 G (by omega)), and_some (g2 G (by omega)), alt_no hm.1]
  refine ⟨fun e => by simp [isE, Node.kind] at e, fun e => by simp [Node.kind] at e, fun e => by simp [Node.kind] at e, fun e => by simp [Node.kind] at e, fun _ => key, fun _ m hm => ?_⟩
  obtain ⟨l, e9, F, h⟩ := key m hm
  rw [show tw (.mk 22 0 [] [c, b]) .stmt = tw (.mk 22 0 [] [c, b]) .ifs from rfl, e9]
  refine ev_of F fun G hG => ?_
  simp only [run]
  rw [alt_no (no_kw (show wIf ≠ wLet from by decide) _), alt_no (no_kw (show wIf ≠ Pars.wFn from by decide) _), alt_some (is_kw _ _), h G hG]
 | if3 fn lp c b e h1 h2 h3 h4 h5 h6 ih1 ih2 ih3 =>
  have key : ∀ m, NoF m → ∃ l, tw (.mk 22 0 [] [c, b, e]) .ifs ++ m = kw wIf :: l ∧ Ev .ifs fn lp l (.mk 22 0 [] [c, b, e]) m := by
   intro m hm
   have e2 : tw (.mk 22 0 [] [c, b, e]) .ifs ++ m = kw wIf :: (sg [40] :: (tw c (.at (-2)) ++ sg [41] :: (tw b .block ++ (kw wElse :: ((if e.kind = 22 then tw e .ifs else tw e .block) ++ m))))) := by
    show ([kw wIf, sg [40]] ++ tw c (.at (-2)) ++ [sg [41]] ++ tw b .block ++ ([kw wElse] ++ (if e.kind = 22 then tw e .ifs else tw e .block))) ++ m = _; simp
   refine ⟨_, e2, ?_⟩
   obtain ⟨F1, g1⟩ := ev_inner (l' := []) (ev_close (ih1.ex h1) (tw b .block ++ (kw wElse :: ((if e.kind = 22 then tw e .ifs else tw e .block) ++ m))))
   obtain ⟨F2, g2⟩ := ih2.block h3 (kw wElse :: ((if e.kind = 22 then tw e .ifs else tw e .block) ++ m))
   by_cases hk : e.kind = 22
   ·obtain ⟨l, e3, F3, g3⟩ := ih3.ifs hk m hm
    rw [if_pos hk] at g1 g2 ⊢
    rw [e3] at g1 g2 ⊢
    refine ev_of (max F1 (max F2 F3)) fun G hG => ?_
    simp only [run]
    rw [and_some (g1 G (by omega)), and_some (g2 G (by omega)), alt_some (is_kw _ _), alt_some (is_kw _ _), and_some (g3 G (by omega))]
   ·have g3 := ih3.block (by omega) m
    have hno := is_no (s := wElse) (by decide) g3 (by simp)
    have hni : is wIf (tw e .block ++ m) = none := by
     have hb : ∃ q, tw e .block ++ m = sg [123] :: q := by cases e with | mk k nu t l => exact ⟨_, rfl⟩
     obtain ⟨q, hq⟩ := hb
     rw [hq]; exact no_sg (by decide) q
    obtain ⟨F3, g3⟩ := g3
    rw [if_neg hk] at g1 g2 ⊢
    refine ev_of (max F1 (max F2 F3)) fun G hG => ?_
    simp only [run]
    rw [and_some (g1 G (by omega)), and_some (g2 G (by omega)), alt_some (is_kw _ _), alt_no hni, and_some (g3 G (by omega))]
  refine ⟨fun e => by simp [isE, Node.kind] at e, fun e => by simp [Node.kind] at e, fun e => by simp [Node.kind] at e, fun e => by simp [Node.kind] at e, fun _ => key, fun _ m hm => ?_⟩
  obtain ⟨l, e9, F, h⟩ := key m hm
  rw [show tw (.mk 22 0 [] [c, b, e]) .stmt = tw (.mk 22 0 [] [c, b, e]) .ifs from rfl, e9]
  refine ev_of F fun G hG => ?_
  simp only [run]
  rw [alt_no (no_kw (show wIf ≠ wLet from by decide) _), alt_no (no_kw (show wIf ≠ Pars.wFn from by decide) _), alt_some (is_kw _ _), h G hG]
 | while_ fn lp c b h1 h2 h3 h4 ih1 ih2 =>
  refine .s fun m hm => ?_
  have e : tw (.mk 23 0 [] [c, b]) .stmt ++ m = kw wWhile :: (sg [40] :: (tw c (.at (-2)) ++ sg [41] :: (tw b .block ++ m))) := by show ([kw wWhile, sg [40]] ++ tw c (.at (-2)) ++ [sg [41]] ++ tw b .block) ++ m = _; simp
  rw [e]
  obtain ⟨F1, g1⟩ := ev_inner (l' := []) (ev_close (ih1.ex h1) (tw b .block ++ m))
  obtain ⟨F2, g2⟩ := ev_body (fn := fn) (lp := lp) (f := false) (by rw [Bool.or_false]; exact ih2.block h3 m)
  refine ev_of (max F1 F2) fun G hG => ?_
  simp only [run]
  rw [alt_no (no_kw (show wWhile ≠ wLet from by decide) _), alt_no (no_kw (show wWhile ≠ Pars.wFn from by decide) _), alt_no (no_kw (show wWhile ≠ wIf from by decide) _), alt_some (is_kw _ _), and_some (g1 G (by omega)), and_some (g2 G (by omega))]
 | for_ fn lp t c b h0 h1 h2 h3 h4 ih1 ih2 =>
  refine .s fun m hm => ?_
  have e : tw (.mk 24 0 t [c, b]) .stmt ++ m = kw wFor :: (sg [40] :: kw wLet :: nm t :: kw wOf :: (tw c (.at (-2)) ++ sg [41] :: (tw b .block ++ m))) := by show ([kw wFor, sg [40], kw wLet, nm t, kw wOf] ++ tw c (.at (-2)) ++ [sg [41]] ++ tw b .block) ++ m = _; simp
  rw [e]
  obtain ⟨F1, g1⟩ := ev_close (ih1.ex h1) (tw b .block ++ m)
  obtain ⟨F2, g2⟩ := ev_body (fn := fn) (lp := lp) (f := false) (by rw [Bool.or_false]; exact ih2.block h3 m)
  refine ev_of (max F1 F2 + 1) fun G hG => ?_
  obtain ⟨g, rfl⟩ : ∃ g, G = g + 1 := ⟨G - 1, by omega⟩
  rw [run]
  rw [alt_no (no_kw (show wFor ≠ wLet from by decide) _), alt_no (no_kw (show wFor ≠ Pars.wFn from by decide) _), alt_no (no_kw (show wFor ≠ wIf from by decide) _), alt_no (no_kw (show wFor ≠ wWhile from by decide) _), alt_some (is_kw _ _)]
  simp only [run]
  rw [must_some (is_sg _ _), must_some (is_kw _ _), named_nm, must_some (is_kw _ _), and_some (g1 g (by omega)), must_some (is_sg _ _), and_some (g2 g (by omega))]
 | ret0 lp =>
  refine .s fun m hm => ?_
  have e : tw (.mk 25 0 [] []) .stmt ++ m = kw wReturn :: sg [59] :: m := by show ([kw wReturn] ++ [] ++ [sg [59]]) ++ m = _; simp
  rw [e]
  refine ev_of 0 fun G hG => ?_
  simp only [run]
  rw [alt_no (no_kw (show wReturn ≠ wLet from by decide) _), alt_no (no_kw (show wReturn ≠ Pars.wFn from by decide) _), alt_no (no_kw (show wReturn ≠ wIf from by decide) _), alt_no (no_kw (show wReturn ≠ wWhile from by decide) _), alt_no (no_kw (show wReturn ≠ wFor from by decide) _), alt_some (is_kw _ _), if_neg (by decide), alt_some (is_sg _ _)]
 | ret1 lp a h1 h2 ih =>
  refine .s fun m hm => ?_
  have e : tw (.mk 25 0 [] [a]) .stmt ++ m = kw wReturn :: (tw a (.at (-2)) ++ sg [59] :: m) := by show ([kw wReturn] ++ tw a (.at (-2)) ++ [sg [59]]) ++ m = _; simp
  rw [e]
  have hx : Ev .expression true lp (tw a (.at (-2)) ++ sg [59] :: m) a (sg [59] :: m) := ev_semi (ih.ex h1) m
  have hno := is_no (s := [59]) (by decide) hx (by simp)
  obtain ⟨F, h⟩ := hx
  refine ev_of F fun G hG => ?_
  simp only [run]
  rw [alt_no (no_kw (show wReturn ≠ wLet from by decide) _), alt_no (no_kw (show wReturn ≠ Pars.wFn from by decide) _), alt_no (no_kw (show wReturn ≠ wIf from by decide) _), alt_no (no_kw (show wReturn ≠ wWhile from by decide) _), alt_no (no_kw (show wReturn ≠ wFor from by decide) _), alt_some (is_kw _ _), if_neg (by decide), alt_no hno, and_some (h G hG)]
  exact must_some (is_sg _ _)
 | brk fn =>
  refine .s fun m hm => ?_
  rw [show tw (.mk 26 0 [] []) .stmt ++ m = kw wBreak :: sg [59] :: m from rfl]
  refine ev_of 0 fun G hG => ?_
  simp only [run]
  rw [alt_no (no_kw (show wBreak ≠ wLet from by decide) _), alt_no (no_kw (show wBreak ≠ Pars.wFn from by decide) _), alt_no (no_kw (show wBreak ≠ wIf from by decide) _), alt_no (no_kw (show wBreak ≠ wWhile from by decide) _), alt_no (no_kw (show wBreak ≠ wFor from by decide) _), alt_no (no_kw (show wBreak ≠ wReturn from by decide) _), alt_some (is_kw _ _), if_neg (by decide)]
  exact must_some (is_sg _ _)
 | cont fn =>
  refine .s fun m hm => ?_
  rw [show tw (.mk 27 0 [] []) .stmt ++ m = kw wContinue :: sg [59] :: m from rfl]
  refine ev_of 0 fun G hG => ?_
  simp only [run]
  rw [alt_no (no_kw (show wContinue ≠ wLet from by decide) _), alt_no (no_kw (show wContinue ≠ Pars.wFn from by decide) _), alt_no (no_kw (show wContinue ≠ wIf from by decide) _), alt_no (no_kw (show wContinue ≠ wWhile from by decide) _), alt_no (no_kw (show wContinue ≠ wFor from by decide) _), alt_no (no_kw (show wContinue ≠ wReturn from by decide) _), alt_no (no_kw (show wContinue ≠ wBreak from by decide) _), alt_some (is_kw _ _), if_neg (by decide)]
  exact must_some (is_sg _ _)
 | throw fn lp a h1 h2 ih =>
  refine .s fun m hm => ?_
  have e : tw (.mk 28 0 [] [a]) .stmt ++ m = kw wThrow :: (tw a (.at (-2)) ++ sg [59] :: m) := by show ([kw wThrow] ++ tw a (.at (-2)) ++ [sg [59]]) ++ m = _; simp
  rw [e]
  obtain ⟨F, h⟩ := ev_semi (ih.ex h1) m
  refine ev_of F fun G hG => ?_
  simp only [run]
  rw [alt_no (no_kw (show wThrow ≠ wLet from by decide) _), alt_no (no_kw (show wThrow ≠ Pars.wFn from by decide) _), alt_no (no_kw (show wThrow ≠ wIf from by decide) _), alt_no (no_kw (show wThrow ≠ wWhile from by decide) _), alt_no (no_kw (show wThrow ≠ wFor from by decide) _), alt_no (no_kw (show wThrow ≠ wReturn from by decide) _), alt_no (no_kw (show wThrow ≠ wBreak from by decide) _), alt_no (no_kw (show wThrow ≠ wContinue from by decide) _), alt_some (is_kw _ _), and_some (h G hG)]
  exact must_some (is_sg _ _)
 | try1 fn lp t b c h0 h1 h2 h3 h4 ih1 ih2 =>
  refine .s fun m hm => ?_
  have e : tw (.mk 29 1 t [b, c]) .stmt ++ m = kw wTry :: (tw b .block ++ (kw wCatch :: sg [40] :: nm t :: sg [41] :: (tw c .block ++ m))) := by show ([kw wTry] ++ tw b .block ++ ([kw wCatch, sg [40], nm t, sg [41]] ++ tw c .block) ++ []) ++ m = _; simp
  rw [e]
  obtain ⟨F1, g1⟩ := ih1.block h1 (kw wCatch :: sg [40] :: nm t :: sg [41] :: (tw c .block ++ m))
  obtain ⟨F2, g2⟩ := ih2.block h3 m
  refine ev_of (max F1 F2 + 1) fun G hG => ?_
  obtain ⟨g, rfl⟩ : ∃ g, G = g + 1 := ⟨G - 1, by omega⟩
  rw [run]
  rw [alt_no (no_kw (show wTry ≠ wLet from by decide) _), alt_no (no_kw (show wTry ≠ Pars.wFn from by decide) _), alt_no (no_kw (show wTry ≠ wIf from by decide) _), alt_no (no_kw (show wTry ≠ wWhile from by decide) _), alt_no (no_kw (show wTry ≠ wFor from by decide) _), alt_no (no_kw (show wTry ≠ wReturn from by decide) _), alt_no (no_kw (show wTry ≠ wBreak from by decide) _), alt_no (no_kw (show wTry ≠ wContinue from by decide) _), alt_no (no_kw (show wTry ≠ wThrow from by decide) _), alt_some (is_kw _ _)]
  simp only [run]
  rw [and_some (g1 g (by omega)), alt_some (is_kw _ _), must_some (is_sg _ _), named_nm, must_some (is_sg _ _), and_some (g2 g (by omega)), alt_no hm.2.1]
 | try2 fn lp b d h1 h2 h3 h4 ih1 ih2 =>
  refine .s fun m hm => ?_
  have e : tw (.mk 29 2 [] [b, d]) .stmt ++ m = kw wTry :: (tw b .block ++ (kw wFinally :: (tw d .block ++ m))) := by show ([kw wTry] ++ tw b .block ++ [] ++ ([kw wFinally] ++ tw d .block)) ++ m = _; simp
  rw [e]
  obtain ⟨F1, g1⟩ := ih1.block h1 (kw wFinally :: (tw d .block ++ m))
  obtain ⟨F2, g2⟩ := ih2.block h3 m
  refine ev_of (max F1 F2 + 1) fun G hG => ?_
  obtain ⟨g, rfl⟩ : ∃ g, G = g + 1 := ⟨G - 1, by omega⟩
  rw [run]
  rw [alt_no (no_kw (show wTry ≠ wLet from by decide) _), alt_no (no_kw (show wTry ≠ Pars.wFn from by decide) _), alt_no (no_kw (show wTry ≠ wIf from by decide) _), alt_no (no_kw (show wTry ≠ wWhile from by decide) _), alt_no (no_kw (show wTry ≠ wFor from by decide) _), alt_no (no_kw (show wTry ≠ wReturn from by decide) _), alt_no (no_kw (show wTry ≠ wBreak from by decide) _), alt_no (no_kw (show wTry ≠ wContinue from by decide) _), alt_no (no_kw (show wTry ≠ wThrow from by decide) _), alt_some (is_kw _ _)]
  simp only [run]
  rw [and_some (g1 g (by omega)), alt_no (no_kw (show wFinally ≠ wCatch from by decide) _), alt_some (is_kw _ _), and_some (g2 g (by omega))]
 | try3 fn lp t b c d h0 h1 h2 h3 h4 h5 h6 ih1 ih2 ih3 =>
  refine .s fun m hm => ?_
  have e : tw (.mk 29 3 t [b, c, d]) .stmt ++ m = kw wTry :: (tw b .block ++ (kw wCatch :: sg [40] :: nm t :: sg [41] :: (tw c .block ++ (kw wFinally :: (tw d .block ++ m))))) := by show ([kw wTry] ++ tw b .block ++ ([kw wCatch, sg [40], nm t, sg [41]] ++ tw c .block) ++ ([kw wFinally] ++ tw d .block)) ++ m = _; simp
  rw [e]
  obtain ⟨F1, g1⟩ := ih1.block h1 (kw wCatch :: sg [40] :: nm t :: sg [41] :: (tw c .block ++ (kw wFinally :: (tw d .block ++ m))))
  obtain ⟨F2, g2⟩ := ih2.block h3 (kw wFinally :: (tw d .block ++ m))
  obtain ⟨F3, g3⟩ := ih3.block h5 m
  refine ev_of (max F1 (max F2 F3) + 1) fun G hG => ?_
  obtain ⟨g, rfl⟩ : ∃ g, G = g + 1 := ⟨G - 1, by omega⟩
  rw [run]
  rw [alt_no (no_kw (show wTry ≠ wLet from by decide) _), alt_no (no_kw (show wTry ≠ Pars.wFn from by decide) _), alt_no (no_kw (show wTry ≠ wIf from by decide) _), alt_no (no_kw (show wTry ≠ wWhile from by decide) _), alt_no (no_kw (show wTry ≠ wFor from by decide) _), alt_no (no_kw (show wTry ≠ wReturn from by decide) _), alt_no (no_kw (show wTry ≠ wBreak from by decide) _), alt_no (no_kw (show wTry ≠ wContinue from by decide) _), alt_no (no_kw (show wTry ≠ wThrow from by decide) _), alt_some (is_kw _ _)]
  simp only [run]
  rw [and_some (g1 g (by omega)), alt_some (is_kw _ _), must_some (is_sg _ _), named_nm, must_some (is_sg _ _), and_some (g2 g (by omega)), alt_some (is_kw _ _), and_some (g3 g (by omega))]
 | block fn lp l h1 h2 ih =>
  have key : ∀ m, Ev .block fn lp (tw (.mk 30 0 [] l) .block ++ m) (.mk 30 0 [] l) m := by
   intro m
   obtain ⟨_, F, h⟩ := block_go l [] m fun x hx => (ih x hx).stmt (h1 x hx).1
   rw [tw_blk, show [sg [123]] ++ (l.flatMap fun x => tw x .stmt) ++ [sg [125]] ++ m = sg [123] :: ((l.flatMap fun x => tw x .stmt) ++ sg [125] :: m) from by simp]
   refine ev_of F fun G hG => ?_
   simp only [run]
   rw [must_some (is_sg _ _), h G hG, List.nil_append]
  refine ⟨fun e => by simp [isE, Node.kind] at e, fun e => by simp [Node.kind] at e, fun e => by simp [Node.kind] at e, fun _ => key, fun e => by simp [Node.kind] at e, fun _ m hm => ?_⟩
  obtain ⟨F, h⟩ := key m
  have e : tw (.mk 30 0 [] l) .stmt ++ m = sg [123] :: ((l.flatMap fun x => tw x .stmt) ++ sg [125] :: m) := by rw [show tw (.mk 30 0 [] l) .stmt = tw (.mk 30 0 [] l) .block from rfl, tw_blk]; simp
  have e2 : tw (.mk 30 0 [] l) .block ++ m = sg [123] :: ((l.flatMap fun x => tw x .stmt) ++ sg [125] :: m) := by rw [tw_blk]; simp
  rw [e]
  rw [e2] at h
  refine ev_of F fun G hG => ?_
  simp only [run]
  rw [alt_no (no_sg (show [123] ≠ wLet from by decide) _), alt_no (no_sg (show [123] ≠ Pars.wFn from by decide) _), alt_no (no_sg (show [123] ≠ wIf from by decide) _), alt_no (no_sg (show [123] ≠ wWhile from by decide) _), alt_no (no_sg (show [123] ≠ wFor from by decide) _), alt_no (no_sg (show [123] ≠ wReturn from by decide) _), alt_no (no_sg (show [123] ≠ wBreak from by decide) _), alt_no (no_sg (show [123] ≠ wContinue from by decide) _), alt_no (no_sg (show [123] ≠ wThrow from by decide) _), alt_no (no_sg (show [123] ≠ wTry from by decide) _)]
  rw [show ∀ l a b, peek [123] (sg [123] :: l) a b = a from fun l a b => rfl, h G hG]
 | expr fn lp a h1 h2 ih =>
  refine .s fun m hm => ?_
  have e1 : tw (.mk 31 0 [] [a]) .stmt ++ m = (if front a = 7 ∨ front a = 9 then [sg [40]] ++ tw a (.at (-2)) ++ [sg [41]] else tw a (.at (-2))) ++ sg [59] :: m := by show ((if front a = 7 ∨ front a = 9 then [sg [40]] ++ tw a (.at (-2)) ++ [sg [41]] else tw a (.at (-2))) ++ [sg [59]]) ++ m = _; simp
  rw [e1]
  have hst : StopE (sg [59] :: m) := stopE_sg (by decide) (by decide) (by decide) m
  by_cases hf : front a = 7 ∨ front a = 9
  ·rw [if_pos hf]
   have e2 : [sg [40]] ++ tw a (.at (-2)) ++ [sg [41]] ++ sg [59] :: m = sg [40] :: (tw a (.at (-2)) ++ sg [41] :: (sg [59] :: m)) := by simp
   rw [e2]
   obtain ⟨F, h⟩ := ev_up (ev_paren (ev_close (ih.ex h1) (sg [59] :: m))) hst
   refine ev_of F fun G hG => ?_
   simp only [run]
   rw [alt_no (no_sg (show [40] ≠ wLet from by decide) _), alt_no (no_sg (show [40] ≠ Pars.wFn from by decide) _), alt_no (no_sg (show [40] ≠ wIf from by decide) _), alt_no (no_sg (show [40] ≠ wWhile from by decide) _), alt_no (no_sg (show [40] ≠ wFor from by decide) _), alt_no (no_sg (show [40] ≠ wReturn from by decide) _), alt_no (no_sg (show [40] ≠ wBreak from by decide) _), alt_no (no_sg (show [40] ≠ wContinue from by decide) _), alt_no (no_sg (show [40] ≠ wThrow from by decide) _), alt_no (no_sg (show [40] ≠ wTry from by decide) _)]
   rw [show ∀ l a b, peek [123] (sg [40] :: l) a b = b from fun l a b => rfl, and_some (h G hG)]
   exact must_some (is_sg _ _)
  ·rw [if_neg hf]
   obtain ⟨F, h⟩ := (ih.ex h1).ex _ hst
   obtain ⟨t, r, ht, hok, hh1, hh2⟩ := (ht h2 h1).at_ (-2)
   have hra := (rank_ge a).1
   rw [if_neg (by omega)] at hh1 hh2
   rw [ht] at h ⊢
   have q := ok_no hok (fun e => hf (.inr (hh1 e))) (r ++ sg [59] :: m)
   have q2 := ok_peek hok (fun e => hf (.inl (hh2 e))) (r ++ sg [59] :: m)
   rw [List.cons_append] at h ⊢
   refine ev_of F fun G hG => ?_
   simp only [run]
   rw [alt_no (q wLet (by decide)), alt_no (q Pars.wFn (by decide)), alt_no (q wIf (by decide)), alt_no (q wWhile (by decide)), alt_no (q wFor (by decide)), alt_no (q wReturn (by decide)), alt_no (q wBreak (by decide)), alt_no (q wContinue (by decide)), alt_no (q wThrow (by decide)), alt_no (q wTry (by decide)), q2, and_some (h G hG)]
   exact must_some (is_sg _ _)
end Wri

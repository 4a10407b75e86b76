/-
  Texts that the law leans on: PwK, LexW, PlA, PlD. Conditions: as each says.
-/
import Derived.Test.YtonjdlialejedaaGreatDoorSAz
import Derived.Test.YtonjdlialejedaaGreatDoorSAa
import Derived.Test.YtonjdlialejedaaGreatDoorSAb
import Derived.Test.YtonjdlialejedaaGreatDoorSBf
set_option linter.unusedSimpArgs false
set_option linter.unusedVariables false
namespace Go.Proofs.YtonjdlialejedaaGreatDoor
open Go.Lib (hid)
open Go.RowKit
theorem right_le : ∀ N, RightLe N
 | 0 => by intro n cs w S fn lp h; cases n; simp [Wri.wg] at h
 | N + 1 => by
  have IH := right_le N
  intro n cs w S fn lp h hb hn he
  obtain ⟨k, nu, t, l⟩ := n
  exact right_step IH k nu t l cs w S fn lp h hb hn he
theorem right_any {n : Pars.Node} {cs : Array Value} {w : World} {S : Nat → Prop} (fn lp : Bool) (hb : Wri.wg n ≤ 70368744177000) (hn : NodeAt w S n cs) (he : EnvW w) :
  Calls Tryz.prog 29 #[.agg cs, .bool fn, .bool lp] w fun e w' => e = .returned (.bool (Wri.right n fn lp)) ∧ Below w.heap.size w w' := right_le _ n cs w S fn lp (Nat.le_refl _) hb hn he
mutual
theorem size_wg : ∀ n : Pars.Node, Pars.size n ≤ Wri.wg n
 | .mk _ _ t l => by simp only [Pars.size, Wri.wg]; have := sizes_wgs l; omega
theorem sizes_wgs : ∀ l : List Pars.Node, Pars.sizes l ≤ Wri.wgs l
 | [] => by simp [Pars.sizes]
 | n :: l => by simp only [Pars.sizes, Wri.wgs]; have := size_wg n; have := sizes_wgs l; omega
end
set_option maxRecDepth 100000 in
set_option maxHeartbeats 4000000 in
theorem check_is {n : Pars.Node} {cs : Array Value} {w : World} {S : Nat → Prop} (hb : Wri.wg n ≤ 70368744177000) (hn : NodeAt w S n cs) (he : EnvW w) :
  Calls Tryz.prog 18 #[.agg cs] w fun e w' => e = .returned (.int .i64 (Wri.check n : Int)) ∧ Below w.heap.size w w' := by
 have hsz := Nat.le_trans (size_wg n) hb
 have hds := Pars.deep_size n
 have HN := hid (NodeAt.keep (S1 := fun _ => True) (w1 := w) (fun _ _ _ => trivial) (Nat.le_refl _) (fun _ _ _ => rfl) hn)
 have HE := hid he
 have hinf : (Tryz.prog.info? 24).map (·.size) = some cs.size := by rw [NodeAt.size hn]; exact info_nod
 have HINF := hid hinf
 have hc0 : cs[0]? = some (.int .i64 n.kind) := by obtain ⟨k, nu, t, l⟩ := n; unfold NodeAt at hn; obtain ⟨A, cap, css, rfl, _⟩ := hn; rfl
 have HC0 := hid hc0
 have HCK : Hid (Wri.check n = if n.kind ≠ 30 ∨ Wri.right n false false = false then 3 else if 40 < Pars.deep n then 2 else 0) := hid rfl
 obtain ⟨k, hk⟩ : ∃ k, n.kind = k := ⟨_, rfl⟩
 obtain ⟨rb, hrb⟩ : ∃ b, Wri.right n false false = b := ⟨_, rfl⟩
 have HRB := hid hrb
 rw [hk] at HC0
 rw [hk, hrb] at HCK
 clear hn he hinf hc0 hk hrb
 go_enter Tryz.func18, Tryz.ntmps18
 go_upto_region 1 with fail
 refine gen_world (F := fun W => Box W w.heap.size 24 cs ∧ Below w.heap.size w W) ⟨Box.new w _ _, below1 w _⟩ ?_
 rintro W0 ⟨b0, hU⟩
 have NB := hid b0
 have HU := hid hU
 have c0 := b0.cell 0
 rw [HC0.out] at c0
 clear b0 hU
 by_cases y : k = 30
 ·subst y
  have nb := NB.out
  go_wp2_with (refine wpList_load_row_g (by kernel_rfl) 24 (.tmp 1) rfl w.heap.size rfl _ cs _ nb Tryz.underlying24 rfl HINF.out ?_)
  refine (right_any false false hb (HN.out.keep (w1 := W0) (S1 := fun _ => True) (fun _ _ _ => trivial) HU.out.size (fun g _ hg => HU.out.block g hg)) (HE.out.below HU.out HE.out.big)).mono ?_
  rw [HRB.out]
  rintro e w1 ⟨rfl, hb1⟩
  have hsz1 := HU.out.size
  replace NB := bl NB hb1
  replace HU := hid (HU.out.trans (hb1.mono hsz1))
  clear hb1 hsz1 nb c0
  cases rb with
  | false =>
   go_wp2
   go_ret
   exact ⟨by rw [HCK.out]; rfl, HU.out⟩
  | true =>
   have nb := NB.out
   go_wp2_with (refine wpList_load_row rfl 24 (.tmp 1) rfl w.heap.size rfl _ cs (0, 0) _ nb Tryz.underlying24 rfl HINF.out ?_)
   refine (deep_any (HN.out.keep (w1 := w1) (S1 := fun _ => True) (fun _ _ _ => trivial) HU.out.size (fun g _ hg => HU.out.block g hg)) (by omega)).mono ?_
   rintro e w2 ⟨rfl, hb2⟩
   have hsz1 := HU.out.size
   replace HU := hid (HU.out.trans (hb2.mono hsz1))
   clear hb2 hsz1 nb
   by_cases z : 40 < Pars.deep n
   ·have d1 : decide ((40 : Int) < (Pars.deep n : Int)) = true := decide_eq_true (by omega)
    have d2 : (40 : Int) < (Pars.deep n : Int) := by omega
    have HZ := hid z
    clear z
    go_wp2
    go_ret
    exact ⟨by rw [HCK.out, if_neg (by simp), if_pos HZ.out]; rfl, HU.out⟩
   ·have d1 : decide ((40 : Int) < (Pars.deep n : Int)) = false := decide_eq_false (by omega)
    have d2 : ¬ (40 : Int) < (Pars.deep n : Int) := by omega
    have HZ := hid z
    clear z
    go_wp2
    go_ret
    exact ⟨by rw [HCK.out, if_neg (by simp), if_neg HZ.out]; rfl, HU.out⟩
 ·have n30 : (k == 30) = false := bn y
  have b30 : (k != 30) = true := by simp [bne, n30]
  have HY := hid y
  clear y
  go_wp2
  go_ret
  exact ⟨by rw [HCK.out, if_pos (.inl HY.out)]; rfl, HU.out⟩
end Go.Proofs.YtonjdlialejedaaGreatDoor
namespace Lexy
def shift (q : Nat) (x : Tok) : Tok := ⟨x.toTk, x.lo + q, x.hi + q⟩
theorem lex_shift {p : Nat} {l : Bs} {ts : List Tok} (h : Lex p l ts) (q : Nat) : Lex (p + q) l (ts.map (shift q)) := by
 induction h with
 | done p l hd => exact .done _ _ hd
 | more p l t n ts hne hn _ ih =>
  have e1 : p + skp false l + q = p + q + skp false l := by omega
  have e2 : p + skp false l + n + q = p + q + skp false l + n := by omega
  simp only [List.map_cons, shift]
  rw [e1, e2]
  rw [e2] at ih
  exact .more _ _ t n _ hne hn ih
theorem lex_gap {p k : Nat} {l r : Bs} {ts : List Tok} (hs : skp false r = k + skp false l) (hd : r.drop (k + skp false l) = l.drop (skp false l)) (h : Lex (p + k) l ts) : Lex p r ts := by
 generalize hq : p + k = q at h
 cases h with
 | done _ _ he => exact .done _ _ (by rw [hs, hd]; exact he)
 | more _ _ t n ts hne hn hr =>
  subst hq
  have e1 : p + k + skp false l = p + skp false r := by omega
  rw [e1] at hr ⊢
  have hd' : r.drop (skp false r) = l.drop (skp false l) := by rw [hs]; exact hd
  rw [← hd'] at hne hn hr
  exact .more _ _ t n _ hne hn hr
end Lexy
namespace Lexy
def LexT (l : Bs) (ts : List Tk) : Prop := ∃ full, Lex 0 l full ∧ full.map (·.toTk) = ts
theorem map_shift (q : Nat) (l : List Tok) : (l.map (shift q)).map (·.toTk) = l.map (·.toTk) := by
 rw [List.map_map]; rfl
theorem LexT.at_ {l : Bs} {ts : List Tk} (h : LexT l ts) (p : Nat) : ∃ full, Lex p l full ∧ full.map (·.toTk) = ts := by
 obtain ⟨full, h1, h2⟩ := h
 exact ⟨_, by have := lex_shift h1 p; rwa [Nat.zero_add] at this, by rw [map_shift]; exact h2⟩
theorem lexT_blank {z : Bs} {zs : List Tk} (h : LexT z zs) : LexT (32 :: z) zs := by
 obtain ⟨full, h1, h2⟩ := h.at_ 1
 refine ⟨full, lex_gap (p := 0) (k := 1) (l := z) ?_ ?_ h1, h2⟩
 ·simp [skp, isBlank]
 ·rw [Nat.add_comm, List.drop_succ_cons]
theorem lexT_tok {a z : Bs} {t : Tk} {zs : List Tk} (hs : skp false (a ++ z) = 0) (ha : a ≠ []) (hn : next (a ++ z) = .ok (t, a.length)) (h : LexT z zs) : LexT (a ++ z) (t :: zs) := by
 obtain ⟨full, h1, h2⟩ := h.at_ a.length
 have e : (a ++ z).drop (skp false (a ++ z)) = a ++ z := by rw [hs]; rfl
 refine ⟨⟨t, 0 + skp false (a ++ z), 0 + skp false (a ++ z) + a.length⟩ :: full, .more 0 (a ++ z) t a.length full ?_ ?_ ?_, ?_⟩
 ·rw [e]; intro h; exact ha (List.append_eq_nil_iff.1 h).1
 ·rw [e]; exact hn
 ·rw [e, hs, List.drop_left' rfl]; simpa using h1
 ·simp [h2]
def W (P : UInt8 → Bool) (b : Bs) (ts : List Tk) : Prop := ∀ z zs, (∀ c, z.head? = some c → P c = true) → LexT z zs → LexT (b ++ z) (ts ++ zs)
def all : UInt8 → Bool := fun _ => true
def noN : UInt8 → Bool := fun c => !isNameB c
theorem W.weak {P Q : UInt8 → Bool} {b : Bs} {ts : List Tk} (h : W P b ts) (hq : ∀ c, Q c = true → P c = true) : W Q b ts := fun z zs hz => h z zs fun c hc => hq c (hz c hc)
theorem W.n {b : Bs} {ts : List Tk} (h : W all b ts) : W noN b ts := h.weak fun _ _ => rfl
theorem w_nil (P : UInt8 → Bool) : W P [] [] := fun _ _ _ h => h
theorem W.app {P Q : UInt8 → Bool} {b c : Bs} {ts us : List Tk} (h : W P b ts) (h2 : W Q c us) (hp : ∀ z : Bs, (∀ d, z.head? = some d → Q d = true) → ∀ d, (c ++ z).head? = some d → P d = true) : W Q (b ++ c) (ts ++ us) := by
 intro z zs hz hl
 rw [List.append_assoc, List.append_assoc]
 exact h _ _ (hp z hz) (h2 z zs hz hl)
theorem W.after {Q : UInt8 → Bool} {b c : Bs} {ts us : List Tk} (h : W all b ts) (h2 : W Q c us) : W Q (b ++ c) (ts ++ us) := h.app h2 fun _ _ _ _ => rfl
theorem W.ahead {P Q : UInt8 → Bool} {b c : Bs} {d : UInt8} {ts us : List Tk} (h : W P b ts) (hd : P d = true) (h2 : W Q (d :: c) us) : W Q (b ++ (d :: c)) (ts ++ us) := h.app h2 fun z _ e he => by simp at he; subst he; exact hd
theorem w_blank : W all [32] [] := fun z zs _ h => lexT_blank h
def sg (s : Bs) : Tk := ⟨4, s, 0⟩
def kw (s : Bs) : Tk := ⟨5, s, 0⟩
def nm (s : Bs) : Tk := ⟨1, s, 0⟩
theorem w_sign1 (c : UInt8) (hc : c ∈ [40, 41, 91, 93, 123, 125, 44, 59, 58, 46, 63, 43, 45, 42, 37]) : W all [c] [sg [c]] := by
 intro z zs _ h
 simp only [List.mem_cons, List.not_mem_nil, or_false] at hc
 refine lexT_tok (a := [c]) ?_ (by simp) ?_ h
 ·rcases hc with rfl | rfl | rfl | rfl | rfl | rfl | rfl | rfl | rfl | rfl | rfl | rfl | rfl | rfl | rfl <;> simp [skp, isBlank]
 ·have e : ∀ d r, z = d :: r → [c, d] ∉ signs := by
   intro d r _
   rcases hc with rfl | rfl | rfl | rfl | rfl | rfl | rfl | rfl | rfl | rfl | rfl | rfl | rfl | rfl | rfl <;> simp [signs]
  have h1 : [c] ∈ signs := by
   rcases hc with rfl | rfl | rfl | rfl | rfl | rfl | rfl | rfl | rfl | rfl | rfl | rfl | rfl | rfl | rfl <;> decide
  have h2 : isLetter c = false ∧ isDigit c = false ∧ (c == 34) = false := by
   rcases hc with rfl | rfl | rfl | rfl | rfl | rfl | rfl | rfl | rfl | rfl | rfl | rfl | rfl | rfl | rfl <;> decide
  have h3 : sign (c :: z) = .ok (sg [c], 1) := by
   unfold sign
   have hn : ¬ (2 ≤ (c :: z).length ∧ (c :: z).take 2 ∈ signs) := by
    rintro ⟨a, b⟩
    cases z with
    | nil => simp at a
    | cons d r => exact e d r rfl (by simpa using b)
   rw [if_neg hn, if_pos ⟨by simp, by simpa using h1⟩]
   rfl
  simp only [List.cons_append, List.nil_append, next, h2.1, h2.2.1, h2.2.2, if_false, Bool.false_eq_true, h3, List.length_cons, List.length_nil]
theorem w_sign (s : Bs) (hs : s ∈ signs) : W all (s ++ [32]) [sg s] := by
 intro z zs _ h
 rw [List.append_assoc]
 refine lexT_tok (a := s) ?_ ?_ ?_ (lexT_blank h)
 ·simp only [signs, List.mem_cons, List.not_mem_nil, or_false] at hs
  rcases hs with rfl | rfl | rfl | rfl | rfl | rfl | rfl | rfl | rfl | rfl | rfl | rfl | rfl | rfl | rfl | rfl | rfl | rfl | rfl | rfl | rfl | rfl | rfl | rfl | rfl | rfl <;> simp [skp, isBlank]
 ·rintro rfl; exact absurd hs (by decide)
 ·have hz : ∀ q : Bs, [32] ++ q = 32 :: q := fun q => rfl
  rw [hz]
  simp only [signs, List.mem_cons, List.not_mem_nil, or_false] at hs
  rcases hs with rfl | rfl | rfl | rfl | rfl | rfl | rfl | rfl | rfl | rfl | rfl | rfl | rfl | rfl | rfl | rfl | rfl | rfl | rfl | rfl | rfl | rfl | rfl | rfl | rfl | rfl <;> simp [next, sign, signs, isLetter, isDigit, sg]
theorem w_not : W (fun c => c != 61) [33] [sg [33]] := by
 intro z zs hz h
 refine lexT_tok (a := [33]) (by simp [skp, isBlank]) (by simp) ?_ h
 have e : ∀ d r, z = d :: r → [33, d] ∉ signs := by
  intro d r hr
  have hd := hz d (by rw [hr]; rfl)
  simp at hd
  simp [signs, hd]
 have h3 : sign (33 :: z) = .ok (sg [33], 1) := by
  unfold sign
  have hn : ¬ (2 ≤ (33 :: z).length ∧ (33 :: z).take 2 ∈ signs) := by
   rintro ⟨a, b⟩
   cases z with
   | nil => simp at a
   | cons d r => exact e d r rfl (by simpa using b)
  rw [if_neg hn, if_pos ⟨by simp, by simp [signs]⟩]
  rfl
 have h2 : isLetter 33 = false ∧ isDigit 33 = false ∧ ((33 : UInt8) == 34) = false := by decide
 simp only [List.cons_append, List.nil_append, next, h2.1, h2.2.1, h2.2.2, if_false, Bool.false_eq_true, h3, List.length_cons, List.length_nil]
theorem w_word (w : Bs) (c : UInt8) (r : Bs) (hw : w = c :: r) (hc : isLetter c = true) (ha : ∀ d ∈ w, isNameB d = true) : W noN w [⟨if w ∈ kws then 5 else 1, w, 0⟩] := by
 intro z zs hz h
 have hlen : nameLen (w ++ z) = w.length := by
  unfold nameLen
  rw [List.takeWhile_append_of_pos ha]
  cases z with
  | nil => simp
  | cons d q =>
   have := hz d rfl
   simp only [noN, Bool.not_eq_true'] at this
   simp [this]
 refine lexT_tok (a := w) ?_ (by rw [hw]; simp) ?_ h
 ·rw [hw]
  have h1 : isBlank c = false := by
   cases hb : isBlank c with
   | false => rfl
   | true =>
    simp only [isBlank, Bool.or_eq_true, beq_iff_eq] at hb
    rcases hb with ((rfl | rfl) | rfl) | rfl <;> exact absurd hc (by decide)
  have h2 : (c == 47) = false := by
   cases hb : (c == 47) with
   | false => rfl
   | true => have := eq_of_beq hb; subst this; exact absurd hc (by decide)
  simp [skp, h1, h2]
 ·rw [show next (w ++ z) = .ok (⟨if (w ++ z).take (nameLen (w ++ z)) ∈ kws then 5 else 1, (w ++ z).take (nameLen (w ++ z)), 0⟩, nameLen (w ++ z)) from by
   rw [hw]; simp only [List.cons_append, next, hc, if_true]]
  rw [hlen, List.take_left' rfl]
theorem w_kw (w : Bs) (hw : w ∈ kws) : W noN w [kw w] := by
 have h : ∃ c r, w = c :: r ∧ isLetter c = true ∧ ∀ d ∈ w, isNameB d = true := by
  simp only [kws, List.mem_cons, List.not_mem_nil, or_false] at hw
  rcases hw with rfl | rfl | rfl | rfl | rfl | rfl | rfl | rfl | rfl | rfl | rfl | rfl | rfl | rfl | rfl | rfl | rfl <;> exact ⟨_, _, rfl, by decide, by decide⟩
 obtain ⟨c, r, h1, h2, h3⟩ := h
 have := w_word w c r h1 h2 h3
 rwa [if_pos hw] at this
theorem w_kwb (w : Bs) (hw : w ∈ kws) : W all (w ++ [32]) [kw w] := (w_kw w hw).ahead (c := []) (by decide) w_blank
structure IsName (w : Bs) : Prop where
 head : ∃ c r, w = c :: r ∧ isLetter c = true
 all : ∀ d ∈ w, isNameB d = true
 no : w ∉ kws
theorem IsName.w {w : Bs} (h : IsName w) : W noN w [nm w] := by
 obtain ⟨c, r, h1, h2⟩ := h.head
 have := w_word w c r h1 h2 h.all
 rwa [if_neg h.no] at this
theorem isName_of {s : Bs} (h : Wri.name s = true) : IsName s := by
 unfold Wri.name at h
 split at h
 case h_2 => cases h
 rename_i t heq
 simp only [Bool.and_eq_true, decide_eq_true_eq] at h
 obtain ⟨hk, ht⟩ := h
 unfold toks at heq
 split at heq
 ·cases heq
 have hl := (lex_of _ _ _ _ heq).1
 cases hl with
 | more _ _ tk n ts hne hn _ =>
  simp only at hk ht
  have hsk := skp_le false s
  cases hd : s.drop (skp false s) with
  | nil => exact absurd hd hne
  | cons c r =>
   rw [hd] at hn
   simp only [next] at hn
   by_cases h1 : isLetter c = true
   ·rw [if_pos h1] at hn
    simp only [Res.ok.injEq, Prod.mk.injEq] at hn
    obtain ⟨rfl, hn⟩ := hn
    simp only at ht hk
    have hle : ((c :: r).take (nameLen (c :: r))).length ≤ (c :: r).length := by rw [List.length_take]; omega
    rw [ht, ← hd, List.length_drop] at hle
    have hz : skp false s = 0 := by
     cases s with
     | nil => simp [skp]
     | cons a b => simp only [List.length_cons] at hle hsk ⊢; omega
    rw [hz, List.drop_zero] at hd
    subst hd
    have hall := all_tw isNameB (c :: r)
    unfold nameLen at ht
    rw [take_tw] at ht
    rw [ht] at hall
    refine ⟨⟨c, r, rfl, h1⟩, hall, ?_⟩
    intro hin
    unfold nameLen at hk
    rw [take_tw, ht, if_pos hin] at hk
    cases hk
   ·exfalso
    rw [if_neg h1] at hn
    split at hn
    ·split at hn
     ·cases hn
     ·split at hn
      ·cases hn
      ·simp only [Res.ok.injEq, Prod.mk.injEq] at hn; obtain ⟨rfl, _⟩ := hn; cases hk
    ·split at hn
     ·split at hn
      ·cases hn
      ·simp only [Res.ok.injEq, Prod.mk.injEq] at hn; obtain ⟨rfl, _⟩ := hn; cases hk
     ·unfold sign at hn
      split at hn
      ·simp only [Res.ok.injEq, Prod.mk.injEq] at hn; obtain ⟨rfl, _⟩ := hn; cases hk
      ·split at hn
       ·simp only [Res.ok.injEq, Prod.mk.injEq] at hn; obtain ⟨rfl, _⟩ := hn; cases hk
       ·cases hn
theorem w_quote (l : Bs) : W Lexy.all (quote l) [⟨3, l, 0⟩] := by
 intro z zs _ h
 refine lexT_tok (a := quote l) (by simp [quote, skp, isBlank]) (by simp [quote]) ?_ h
 have h1 := toks_quote l
 have h2 := txt_quote l
 unfold txt at h2
 have h3 := (txtF_app _ z.length _ z _ _ h2).1
 have h4 : txt ((l.flatMap qb ++ [34]) ++ z) = some (l, (l.flatMap qb).length + 1) := by
  unfold txt; rw [List.length_append]; exact h3
 have e : quote l ++ z = 34 :: ((l.flatMap qb ++ [34]) ++ z) := by simp [quote]
 rw [e]
 simp only [next]
 rw [if_neg (by decide), if_neg (by decide), if_pos (by decide), h4]
 simp [quote]; omega
end Lexy
namespace Lexy
theorem numF_app : ∀ (a b : Bs) (n : Nat), numF n (a ++ b) = (numF n a).bind fun m => numF m b
 | [], b, n => rfl
 | c :: a, b, n => by
  simp only [List.cons_append, numF]
  split
  ·rfl
  ·exact numF_app a b _
theorem dig_nat {d : Nat} (h : d < 10) : (UInt8.ofNat (48 + d)).toNat = 48 + d := by
 rw [UInt8.toNat_ofNat']; omega
theorem numF_dec (u : Nat) : u ≤ 9007199254740992 → numF 0 (Go.Lib.decDigits u) = some u := by
 induction u using Nat.strongRecOn with
 | _ u ih =>
  intro hu
  by_cases h : u < 10
  ·rw [Go.Lib.decDigits, dif_pos h]
   simp only [numF, dig_nat h]
   rw [if_neg (by omega)]
   simp
  ·rw [Go.Lib.decDigits, dif_neg h, numF_app, ih (u / 10) (by omega) (by omega)]
   simp only [Option.bind_some, numF, dig_nat (show u % 10 < 10 by omega)]
   rw [if_neg (by omega)]
   congr 1
   omega
theorem dec_digit (u : Nat) : ∀ d ∈ Go.Lib.decDigits u, isDigit d = true := by
 induction u using Nat.strongRecOn with
 | _ u ih =>
  have key : ∀ k, k < 10 → isDigit (UInt8.ofNat (48 + k)) = true := fun k hk => by
   unfold isDigit; rw [dig_nat hk]; simp; omega
  by_cases h : u < 10
  ·rw [Go.Lib.decDigits, dif_pos h]
   intro d hd
   simp only [List.mem_cons, List.not_mem_nil, or_false] at hd
   subst hd
   exact key u h
  ·rw [Go.Lib.decDigits, dif_neg h]
   intro d hd
   rcases List.mem_append.1 hd with hd | hd
   ·exact ih (u / 10) (by omega) d hd
   ·simp only [List.mem_cons, List.not_mem_nil, or_false] at hd
    subst hd
    exact key _ (by omega)
theorem dec_ne (u : Nat) : Go.Lib.decDigits u ≠ [] := by
 rw [Go.Lib.decDigits]
 split <;> simp
theorem digit_no {c : UInt8} (h : isDigit c = true) : isLetter c = false ∧ isBlank c = false ∧ (c == 47) = false ∧ (c == 34) = false := by
 have h0 : 48 ≤ c.toNat ∧ c.toNat ≤ 57 := by unfold isDigit at h; simpa using h
 have e : ∀ n : UInt8, (c.toNat ≠ n.toNat) → (c == n) = false := fun n hn => by
  cases hb : (c == n) with
  | false => rfl
  | true => exact absurd (congrArg UInt8.toNat (eq_of_beq hb)) hn
 refine ⟨?_, ?_, e _ (by show _ ≠ 47; omega), e _ (by show _ ≠ 34; omega)⟩
 ·unfold isLetter
  rw [e 95 (by show _ ≠ 95; omega)]
  simp; omega
 ·unfold isBlank
  rw [e 32 (by show _ ≠ 32; omega), e 9 (by show _ ≠ 9; omega), e 10 (by show _ ≠ 10; omega), e 13 (by show _ ≠ 13; omega)]
  rfl
theorem w_num (u : Nat) (hu : u ≤ 9007199254740992) : W noN (Go.Lib.decDigits u) [⟨2, [], u⟩] := by
 intro z zs hz h
 have hne := dec_ne u
 have hd := dec_digit u
 have hn := numF_dec u hu
 generalize Go.Lib.decDigits u = w at hne hd hn
 cases w with
 | nil => exact absurd rfl hne
 | cons c r =>
  have hc := digit_no (hd c (by simp))
  have hlen : digLen ((c :: r) ++ z) = (c :: r).length := by
   unfold digLen
   rw [List.takeWhile_append_of_pos hd]
   cases z with
   | nil => simp
   | cons d q =>
    have := hz d rfl
    simp only [noN, isNameB, Bool.not_eq_true', Bool.or_eq_false_iff] at this
    simp [this.2]
  refine lexT_tok (a := c :: r) ?_ (by simp) ?_ h
  ·simp [skp, hc.2.1, hc.2.2.1]
  ·rw [List.cons_append]
   simp only [next, hc.1, hd c (by simp), if_true, if_false, Bool.false_eq_true]
   rw [← List.cons_append, hlen, List.take_left' rfl, List.drop_left' rfl, hn]
   simp only
   rw [if_neg]
   cases z with
   | nil => simp
   | cons d q =>
    have := hz d rfl
    simp only [noN, isNameB, Bool.not_eq_true', Bool.or_eq_false_iff] at this
    simp [this.1]
end Lexy
namespace Wri
open Pars (Node Bs)
open Lexy (Tk sg kw nm W noN all IsName LexT)
abbrev G := M → List Tk
def tkid (f : List G) (i : Nat) : G := f.getD i (fun _ => [])
def tjoin : List (List Tk) → List Tk
 | [] => []
 | [a] => a
 | a :: l => a ++ [sg [44]] ++ tjoin l
def tlisted (o c : Bs) (l : List (List Tk)) : List Tk := [sg o] ++ tjoin l ++ [sg c]
def tFn (t : Bs) (f : List G) : List Tk := [kw Pars.wFn] ++ (if t = [] then [] else [nm t]) ++ tlisted [40] [41] ((f.take (f.length - 1)).map (· .param)) ++ tkid f (f.length - 1) .block
def tFst (k nu : Int) (t : Bs) (f : List G) : List Tk :=
 if k = 1 then [⟨2, [], nu.toNat⟩] else if k = 2 then [⟨3, t, 0⟩] else if k = 3 then (if nu = 0 then [kw Pars.wFalse] else [kw Pars.wTrue]) else if k = 4 then [kw Pars.wNull] else if k = 5 then [nm t]
 else if k = 6 then tlisted [91] [93] (f.map (· (.at (-2)))) else if k = 7 then tlisted [123] [125] (f.map (· .pair)) else if k = 9 then tFn t f else []
def tEx (k nu : Int) (t : Bs) (f : List G) : List Tk :=
 if k = 19 then tkid f 0 (.at 7) ++ [sg [61]] ++ tkid f 1 (.at (-2))
 else if k = 18 then tkid f 0 (.at 0) ++ [sg [63]] ++ tkid f 1 (.at (-2)) ++ [sg [58]] ++ tkid f 2 (.at (-2))
 else if k = 17 ∨ k = 16 ∨ k = 15 then tkid f 0 (.at (rank (.mk k nu t []))) ++ [sg (sgn k t)] ++ tkid f 1 (.at (rank (.mk k nu t []) + 1))
 else if k = 14 then [sg t] ++ tkid f 0 (.at 6)
 else if k = 11 then tkid f 0 (.at 7) ++ tlisted [40] [41] ((f.drop 1).map (· (.at (-2))))
 else if k = 12 then tkid f 0 (.at 7) ++ [sg [91]] ++ tkid f 1 (.at (-2)) ++ [sg [93]]
 else if k = 13 then tkid f 0 (.at 7) ++ [sg [46], nm t]
 else tFst k nu t f
def tBlock (f : List G) : List Tk := [sg [123]] ++ (f.flatMap fun g => g .stmt) ++ [sg [125]]
def tIfs (l : List Node) (f : List G) : List Tk :=
 [kw Pars.wIf, sg [40]] ++ tkid f 0 (.at (-2)) ++ [sg [41]] ++ tkid f 1 .block ++
  (if f.length = 3 then [kw Pars.wElse] ++ (if (l.getD 2 default).kind = 22 then tkid f 2 .ifs else tkid f 2 .block) else [])
def tTries (nu : Int) (t : Bs) (f : List G) : List Tk :=
 [kw Pars.wTry] ++ tkid f 0 .block ++ (if nu = 2 then [] else [kw Pars.wCatch, sg [40], nm t, sg [41]] ++ tkid f 1 .block) ++
  (if 1 < nu then [kw Pars.wFinally] ++ tkid f (if nu = 2 then 1 else 2) .block else [])
def tStmt (k nu : Int) (t : Bs) (l : List Node) (f : List G) : List Tk :=
 if k = 20 then [kw Pars.wLet, nm t, sg [61]] ++ tkid f 0 (.at (-2)) ++ [sg [59]]
 else if k = 21 then tkid f 0 .fn
 else if k = 22 then tIfs l f
 else if k = 23 then [kw Pars.wWhile, sg [40]] ++ tkid f 0 (.at (-2)) ++ [sg [41]] ++ tkid f 1 .block
 else if k = 24 then [kw Pars.wFor, sg [40], kw Pars.wLet, nm t, kw Pars.wOf] ++ tkid f 0 (.at (-2)) ++ [sg [41]] ++ tkid f 1 .block
 else if k = 25 then [kw Pars.wReturn] ++ (if 0 < f.length then tkid f 0 (.at (-2)) else []) ++ [sg [59]]
 else if k = 26 then [kw Pars.wBreak, sg [59]]
 else if k = 27 then [kw Pars.wContinue, sg [59]]
 else if k = 28 then [kw Pars.wThrow] ++ tkid f 0 (.at (-2)) ++ [sg [59]]
 else if k = 29 then tTries nu t f
 else if k = 30 then tBlock f
 else if k = 31 then (if front (l.getD 0 default) = 7 ∨ front (l.getD 0 default) = 9 then [sg [40]] ++ tkid f 0 (.at (-2)) ++ [sg [41]] else tkid f 0 (.at (-2))) ++ [sg [59]]
 else []
def tstep (k nu : Int) (t : Bs) (l : List Node) (f : List G) : G
 | .ex => tEx k nu t f
 | .at q => if q ≤ rank (.mk k nu t []) then tEx k nu t f else [sg [40]] ++ tEx k nu t f ++ [sg [41]]
 | .fst => tFst k nu t f
 | .fn => tFn t f
 | .block => tBlock f
 | .ifs => tIfs l f
 | .tries => tTries nu t f
 | .stmt => tStmt k nu t l f
 | .param => [nm t]
 | .pair => [nm t, sg [58]] ++ tkid f 0 (.at (-2))
mutual
def tw : Node → G
 | .mk k nu t l => tstep k nu t l (tws l)
def tws : List Node → List G
 | [] => []
 | n :: l => tw n :: tws l
end
theorem tws_map : ∀ l : List Node, tws l = l.map tw
 | [] => rfl
 | n :: l => by simp only [tws, List.map_cons, tws_map l]
def HD (b : Bs) : Prop := ∃ c r, b = c :: r ∧ c ≠ 61
theorem HD.app {a : Bs} (h : HD a) (b : Bs) : HD (a ++ b) := by obtain ⟨c, r, rfl, hc⟩ := h; exact ⟨c, r ++ b, rfl, hc⟩
theorem name_hd {t : Bs} (h : name t = true) : HD t := by
 obtain ⟨c, r, h1, h2⟩ := (Lexy.isName_of h).head
 exact ⟨c, r, h1, by rintro rfl; exact absurd h2 (by decide)⟩
theorem dec_hd (u : Nat) : HD (Go.Lib.decDigits u) := by
 have h1 := Lexy.dec_ne u
 have h2 := Lexy.dec_digit u
 cases h : Go.Lib.decDigits u with
 | nil => exact absurd h h1
 | cons c r => exact ⟨c, r, rfl, by rintro rfl; exact absurd (h2 61 (by rw [h]; simp)) (by decide)⟩
theorem itoa_dec {nu : Int} (h : 0 ≤ nu) : Go.Lib.itoa nu = Go.Lib.decDigits nu.toNat := by unfold Go.Lib.itoa; rw [if_neg (by omega)]
theorem wr_at (n : Node) (q : Int) : wr n (.at q) = if q ≤ rank n then wr n .ex else [40] ++ wr n .ex ++ [41] := by
 cases n with | mk k nu t l => rfl
theorem tw_at (n : Node) (q : Int) : tw n (.at q) = if q ≤ rank n then tw n .ex else [sg [40]] ++ tw n .ex ++ [sg [41]] := by
 cases n with | mk k nu t l => rfl
theorem at_hd {n : Node} (h : HD (wr n .ex)) (q : Int) : HD (wr n (.at q)) := by
 rw [wr_at]
 split
 ·exact h
 ·exact ⟨40, _, rfl, by decide⟩
theorem ex_hd {n : Node} {fn lp : Bool} (h : Rt fn lp n) : isE n → HD (wr n .ex) := by
 induction h with
 | num fn lp nu h1 h2 => intro _; show HD (Go.Lib.itoa nu); rw [itoa_dec h1]; exact dec_hd _
 | str fn lp t => intro _; exact ⟨34, _, rfl, by decide⟩
 | bool fn lp nu h => intro _; rcases h with rfl | rfl <;> exact ⟨_, _, rfl, by decide⟩
 | null => intro _; exact ⟨_, _, rfl, by decide⟩
 | var fn lp t h => intro _; exact name_hd h
 | list fn lp l h1 h2 ih => intro _; exact ⟨91, _, rfl, by decide⟩
 | recd fn lp l h1 h2 ih => intro _; exact ⟨123, _, rfl, by decide⟩
 | func fn lp t ps b h1 h2 h3 h4 ih => intro _; exact ⟨102, _, rfl, by decide⟩
 | call fn lp a l h1 h2 h3 h4 ih1 ih2 => intro _; exact (at_hd (ih1 h1) 7).app _
 | index fn lp a b h1 h2 h3 h4 ih1 ih2 => intro _; exact (((at_hd (ih1 h1) 7).app _).app _).app _
 | dot fn lp t a h1 h2 h3 ih => intro _; exact (at_hd (ih h2) 7).app _
 | unary fn lp t a h1 h2 h3 ih => intro _; rcases h1 with rfl | rfl <;> exact ⟨_, _, rfl, by decide⟩
 | binary fn lp t a b h1 h2 h3 h4 h5 ih1 ih2 => intro _; exact ((at_hd (ih1 h2) _).app _).app _
 | and_ fn lp a b h1 h2 h3 h4 ih1 ih2 => intro _; exact ((at_hd (ih1 h1) _).app _).app _
 | or_ fn lp a b h1 h2 h3 h4 ih1 ih2 => intro _; exact ((at_hd (ih1 h1) _).app _).app _
 | cond fn lp a b c h1 h2 h3 h4 h5 h6 ih1 ih2 ih3 => intro _; exact ((((at_hd (ih1 h1) 0).app _).app _).app _).app _
 | assign fn lp a b h1 h2 h3 h4 ih1 ih2 =>
  intro _
  have : isE a := by unfold isT at h1; unfold isE; omega
  exact ((at_hd (ih1 this) 7).app _).app _
 | _ => intro h; unfold isE at h; simp [Node.kind] at h
theorem w_join (Q : UInt8 → Bool) (hq : Q 44 = true) : ∀ (l : List (Bs × List Tk)), (∀ x ∈ l, W Q x.1 x.2) → W Q (joinC (l.map (·.1))) (tjoin (l.map (·.2)))
 | [], _ => Lexy.w_nil Q
 | [a], h => h a (by simp)
 | a :: b :: l, h => by
  have ih := w_join Q hq (b :: l) fun x hx => h x (by simp only [List.mem_cons] at hx ⊢; exact .inr hx)
  have h1 := h a (by simp)
  have h2 : W Q (a.1 ++ ([44, 32] ++ joinC ((b :: l).map (·.1)))) (a.2 ++ ([sg [44]] ++ tjoin ((b :: l).map (·.2)))) :=
   h1.ahead (d := 44) (c := [32] ++ joinC ((b :: l).map (·.1))) hq (((Lexy.w_sign1 44 (by decide)).after Lexy.w_blank).after ih)
  simpa [joinC, tjoin, List.append_assoc] using h2
theorem w_listed (Q : UInt8 → Bool) (hq : Q 44 = true) (o c : UInt8) (ho : o ∈ [40, 41, 91, 93, 123, 125, 44, 59, 58, 46, 63, 43, 45, 42, 37]) (hc : c ∈ [40, 41, 91, 93, 123, 125, 44, 59, 58, 46, 63, 43, 45, 42, 37]) (hqc : Q c = true) (l : List (Bs × List Tk)) (h : ∀ x ∈ l, W Q x.1 x.2) : W all (listed [o] [c] (l.map (·.1))) (tlisted [o] [c] (l.map (·.2))) :=
 (((Lexy.w_sign1 o ho).after (w_join Q hq l h)).ahead hqc (Lexy.w_sign1 c hc))
theorem w_kids (m : M) (l : List Node) (h : ∀ x ∈ l, W noN (wr x m) (tw x m)) (o c : UInt8) (ho : o ∈ [40, 41, 91, 93, 123, 125, 44, 59, 58, 46, 63, 43, 45, 42, 37]) (hc : c ∈ [40, 41, 91, 93, 123, 125, 44, 59, 58, 46, 63, 43, 45, 42, 37]) (hqc : noN c = true) : W all (listed [o] [c] (l.map (wr · m))) (tlisted [o] [c] (l.map (tw · m))) := by
 have := w_listed noN (by decide) o c ho hc hqc (l.map fun x => (wr x m, tw x m)) (by
  intro x hx
  obtain ⟨y, hy, rfl⟩ := List.mem_map.1 hx
  exact h y hy)
 simpa [List.map_map, Function.comp_def] using this
end Wri

/-
  The origin and the text of an address. Conditions: as each says.
-/
import Derived.Test.YtdolmjeiakdfhaaGreatDoorUrX
import Derived.Test.YtdolmjeiakdfhaaGreatDoorUrSz
import Derived.Lib.AppendIntMem
namespace Go.Proofs.YtdolmjeiakdfhaaGreatDoor
set_option linter.unusedSimpArgs false
set_option linter.unusedVariables false
open Go.RowKit

def ItoaC : Prop := ∀ (n : Nat) (w : World), n ≤ 65535 → Env w → Calls Tryz.prog 51 #[.int .i64 (n : Int)] w fun e w' => e = .returned (.string (byt (Urly.digits n))) ∧ Below w.heap.size w w'
theorem itoaC : ItoaC := fun n w hn he => (Tryz.strconv_Itoa (n : Int) (by omega) (by omega) w he.p).mono fun e w' ⟨h1, k, os, h2⟩ => ⟨by rw [h1]; unfold Urly.digits Lib.itoa byt; simp, by rw [h2]; exact Lib.below_grow _ w (Nat.le_refl _) k os⟩
theorem origin_port0 {u : Urly.U} (h : u.port = 0) : byt u.scheme ++ ⟨#[58, 47, 47]⟩ ++ byt u.host = byt (Urly.origin u) := by
  rw [show (⟨#[58, 47, 47]⟩ : ByteArray) = byt [58, 47, 47] from rfl, byt_append, byt_append]
  unfold Urly.origin
  rw [if_neg (by simpa using h)]
  simp
theorem origin_port {u : Urly.U} (h : u.port ≠ 0) : byt u.scheme ++ ⟨#[58, 47, 47]⟩ ++ byt u.host ++ (⟨#[58]⟩ ++ byt (Urly.digits u.port)) = byt (Urly.origin u) := by
  rw [show (⟨#[58, 47, 47]⟩ : ByteArray) = byt [58, 47, 47] from rfl, show (⟨#[58]⟩ : ByteArray) = byt [58] from rfl, byt_append, byt_append, byt_append, byt_append]
  unfold Urly.origin
  rw [if_pos h]
  simp
def TextOut (s : List UInt8) (w : World) (e : Ending) (w' : World) : Prop := e = .returned (.string (byt s)) ∧ Below w.heap.size w w'
theorem textOut_mk {s : List UInt8} {S : ByteArray} {w w' : World} {e : Ending} (h : S = byt s) (he : e = .returned (.string S)) (hb : Below w.heap.size w w') : TextOut s w e w' := by subst h; exact ⟨he, hb⟩
set_option maxRecDepth 100000 in
set_option maxHeartbeats 4000000 in
theorem origin_any (u : Urly.U) (v : Value) (w : World) (hu : Urly.Sz u) (he : Env w) :
    Calls Tryz.prog 23 #[.agg (ucells u v)] w (TextOut (Urly.origin u) w) := by
  have hp := hu.port
  have q1 := byt_size u.scheme
  have q2 := byt_size u.host
  have q3 := byt_size (Urly.digits u.port)
  have q4 : (Urly.digits u.port).length ≤ 5 := (Urly.dec_len u.port hp).2
  have q5 := hu.scheme
  have q6 := hu.host
  have hw : Below w.heap.size w (w.alloc (.cells (ucells u v) 62)) := below1 w _
  have HI : Hid (∀ w1, Below w.heap.size w w1 → Calls Tryz.prog 51 #[.int .i64 (u.port : Int)] w1 fun e w' => e = .returned (.string (byt (Urly.digits u.port))) ∧ Below w1.heap.size w1 w') := Lib.hid (fun w1 h1 => itoaC u.port w1 hp (he.below h1))
  have HB := Lib.hid (Box.new w 62 (ucells u v))
  have HW := Lib.hid hw
  have c0 : (w.alloc (.cells (ucells u v) 62)).cell? ⟨w.heap.size, 0, none⟩ = some (.string (byt u.scheme)) := HB.out.cell 0
  have c1 : (w.alloc (.cells (ucells u v) 62)).cell? ⟨w.heap.size, 1, none⟩ = some (.string (byt u.host)) := HB.out.cell 1
  have c2 : (w.alloc (.cells (ucells u v) 62)).cell? ⟨w.heap.size, 2, none⟩ = some (.int .i64 (u.port : Int)) := HB.out.cell 2
  have H0 := Lib.hid (origin_port0 (u := u))
  have H1 := Lib.hid (origin_port (u := u))
  by_cases hz : u.port = 0
  · have HO := Lib.hid (H0.out hz)
    have hb : ((u.port : Int) != 0) = false := by rw [hz]; rfl
    obtain ⟨P, hP⟩ : ∃ P : Int, (u.port : Int) = P := ⟨_, rfl⟩
    rw [hP] at c2 hb
    obtain ⟨A, hA⟩ : ∃ A, byt u.scheme = A := ⟨_, rfl⟩
    obtain ⟨H, hH⟩ : ∃ A, byt u.host = A := ⟨_, rfl⟩
    rw [hA] at c0 HO q1
    rw [hH] at c1 HO q2
    obtain ⟨w1, hw1⟩ : ∃ w1, w.alloc (.cells (ucells u v) 62) = w1 := ⟨_, rfl⟩
    have HW1 := Lib.hid hw1
    have q1b : A.size ≤ 500 := by omega
    have q2b : H.size ≤ 100 := by omega
    clear hw hA hH hP H0 H1 hz he hw1 q1 q2 q3 q4 q5 q6 hu hp
    go_enter Tryz.func23, Tryz.ntmps23
    go_wp2
    go_ret
    exact textOut_mk HO.out rfl HW.out
  · have HO := Lib.hid (H1.out hz)
    have hb : ((u.port : Int) != 0) = true := by rw [bne, beq_no (by omega)]; rfl
    have HII := Lib.hid (HI.out _ HW.out)
    obtain ⟨P, hP⟩ : ∃ P : Int, (u.port : Int) = P := ⟨_, rfl⟩
    rw [hP] at c2 hb HII
    obtain ⟨A, hA⟩ : ∃ A, byt u.scheme = A := ⟨_, rfl⟩
    obtain ⟨H, hH⟩ : ∃ A, byt u.host = A := ⟨_, rfl⟩
    obtain ⟨D, hD⟩ : ∃ A, byt (Urly.digits u.port) = A := ⟨_, rfl⟩
    rw [hA] at c0 HO q1
    rw [hH] at c1 HO q2
    rw [hD] at HO HII q3
    have q3b : D.size ≤ 5 := by omega
    have q1b : A.size ≤ 500 := by omega
    have q2b : H.size ≤ 100 := by omega
    clear hw hA hH hD hP H0 H1 hz he HI q1 q2 q3 q4 q5 q6 hu hp
    go_enter Tryz.func23, Tryz.ntmps23
    go_wp2_with (fail)
    refine HII.out.mono ?_
    rintro e w1 ⟨rfl, hw1⟩
    have HW1 := Lib.hid (HW.out.trans (hw1.mono HW.out.size))
    clear hw1
    go_wp2
    go_ret
    exact textOut_mk HO.out rfl HW1.out
end Go.Proofs.YtdolmjeiakdfhaaGreatDoor

namespace Go.Proofs.YtdolmjeiakdfhaaGreatDoor
set_option linter.unusedSimpArgs false
set_option linter.unusedVariables false
open Go.RowKit

theorem flat_take (f : Urly.Bs → Urly.Bs) (l : List Urly.Bs) (k : Nat) : ((l.take k).flatMap f).length ≤ (l.flatMap f).length := by
  conv => rhs; rw [← List.take_append_drop k l]
  rw [List.flatMap_append, List.length_append]; omega
theorem mem_tot : ∀ {l : List (List UInt8)} {p : List UInt8}, p ∈ l → p.length ≤ Urly.tot l
  | x :: l, p, h => by
    simp only [Urly.tot, List.map_cons, List.sum_cons]
    rcases List.mem_cons.1 h with rfl | h
    · omega
    · have := mem_tot h
      simp only [Urly.tot] at this
      omega
/-- what was written so far. -/
def upTo (u : Urly.U) (k : Nat) : List UInt8 := Urly.origin u ++ (u.path.take k).flatMap (fun p => 47 :: Urly.enc p)
theorem upTo_zero (u : Urly.U) : upTo u 0 = Urly.origin u := by simp [upTo]
theorem upTo_succ {u : Urly.U} {k : Nat} {p : List UInt8} (h : u.path[k]? = some p) : upTo u (k + 1) = upTo u k ++ (47 :: Urly.enc p) := by
  unfold upTo
  rw [List.take_add_one, h]
  simp
theorem upTo_len {u : Urly.U} (h : Urly.Sz u) (k : Nat) : (upTo u k).length ≤ 20000 := by
  have h1 := (Urly.text_size h).2
  have h2 := flat_take (fun p => 47 :: Urly.enc p) u.path k
  unfold Urly.text at h1
  unfold upTo
  simp only [List.length_append] at h1 ⊢
  omega
theorem upTo_all (u : Urly.U) : upTo u u.path.length = Urly.origin u ++ u.path.flatMap (fun p => 47 :: Urly.enc p) := by unfold upTo; rw [List.take_length]
theorem text_ft {u : Urly.U} (h1 : u.asks = false) (h2 : u.points = false) : Urly.text u = upTo u u.path.length := by rw [upTo_all]; unfold Urly.text; rw [h1, h2]; simp
theorem text_f {u : Urly.U} (h1 : u.asks = false) (h2 : u.points = true) : Urly.text u = upTo u u.path.length ++ (35 :: u.fragment) := by rw [upTo_all]; unfold Urly.text; rw [h1, h2]; simp
theorem text_q {u : Urly.U} (h1 : u.asks = true) (h2 : u.points = false) : Urly.text u = upTo u u.path.length ++ (63 :: u.query) := by rw [upTo_all]; unfold Urly.text; rw [h1, h2]; simp
theorem text_qf {u : Urly.U} (h1 : u.asks = true) (h2 : u.points = true) : Urly.text u = upTo u u.path.length ++ (63 :: u.query) ++ (35 :: u.fragment) := by rw [upTo_all]; unfold Urly.text; rw [h1, h2]; simp
theorem one_app (c : UInt8) (s : List UInt8) : (⟨#[c]⟩ : ByteArray) ++ byt s = byt (c :: s) := by rw [show (⟨#[c]⟩ : ByteArray) = byt [c] from rfl, byt_append]; rfl
def EncodeC : Prop := ∀ (s : List UInt8) (w : World), s.length ≤ 1048576 → Calls Tryz.prog 106 #[.string (byt s)] w fun e w' => e = .returned (.string (byt (Urly.enc s))) ∧ Below w.heap.size w w'
theorem encodeC : EncodeC := fun s w h => encode_any s w h
set_option maxRecDepth 100000 in
set_option maxHeartbeats 8000000 in
theorem text_any (u : Urly.U) (v : Value) (w : World) (hu : Urly.Sz u) (he : Env w) (hv : Rd w 1 (txts u.path) u.path.length v) :
    Calls Tryz.prog 78 #[.agg (ucells u v)] w (TextOut (Urly.text u) w) := by
  have HE : Hid EncodeC := Lib.hid encodeC
  have HS : Hid WS := Lib.hid ws
  have HBS : Hid BS := Lib.hid bs
  have HO : Hid (∀ w1, Below w.heap.size w w1 → Calls Tryz.prog 23 #[.agg (ucells u v)] w1 (TextOut (Urly.origin u) w1)) := Lib.hid (fun w1 h1 => origin_any u v w1 hu (he.below h1))
  obtain ⟨A, cap, hv0, hcap1, hcap2, hcells⟩ := hv
  have HCE : Hid (∀ (k : Nat) (p : List UInt8), u.path[k]? = some p → ∃ g o, A = some ⟨g, o, none⟩ ∧ g < w.heap.size ∧ w.cell? ⟨g, o + k, none⟩ = some (.string (byt p))) := Lib.hid (fun k p hp => by
    have hlt := (List.getElem?_eq_some_iff.1 hp).1
    obtain ⟨g, o, h1, h2, h3⟩ := hcells (by omega)
    exact ⟨g, o, h1, h2, h3 k _ (by simp [txts, hp])⟩)
  have HU := Lib.hid hu
  have hnl : u.path.length ≤ 2000 := hu.seg
  obtain ⟨n, hn⟩ : ∃ n, u.path.length = n := ⟨_, rfl⟩
  rw [hn] at hv0 hnl hcap1
  have HN := Lib.hid hn
  have HB := Lib.hid (Box.new w 62 (ucells u v))
  have HW0 : Hid (Below w.heap.size w (w.alloc (.cells (ucells u v) 62))) := Lib.hid (below1 w _)
  subst hv0
  obtain ⟨cs, hcs⟩ : ∃ cs, ucells u (.slice A n cap) = cs := ⟨_, rfl⟩
  have HCS := Lib.hid hcs
  rw [hcs] at HB HW0 HO ⊢
  have k3 : cs[3]? = some (.slice A n cap) := by rw [← hcs]; rfl
  have k4 : cs[4]? = some (.string (byt u.query)) := by rw [← hcs]; rfl
  have k5 : cs[5]? = some (.bool u.asks) := by rw [← hcs]; rfl
  have k6 : cs[6]? = some (.string (byt u.fragment)) := by rw [← hcs]; rfl
  have k7 : cs[7]? = some (.bool u.points) := by rw [← hcs]; rfl
  have HK := Lib.hid (And.intro k3 (And.intro k4 (And.intro k5 (And.intro k6 k7))))
  have hisz : (Tryz.prog.info? 62).map (·.size) = some cs.size := by rw [← hcs]; exact info_url
  clear hcs hn hcells he hu k3 k4 k5 k6 k7
  go_enter Tryz.func78, Tryz.ntmps78
  go_wp2_with (refine wpList_load_row rfl 62 (.tmp 1) rfl w.heap.size rfl _ cs (0, 0) _ (HB.out.alloc _) Tryz.underlying62 rfl hisz ?_)
  refine (HO.out _ ((HW0.out.alloc (by simp) _))).mono ?_
  rintro e w1 ⟨rfl, hw1⟩
  have HB1 : Hid (Box w1 w.heap.size 62 cs) := Lib.hid ((HB.out.alloc _).below hw1 (by simp; omega))
  have HD1 : Hid (Bld (w.heap.size + 1) (w.heap.size + 1) [] w1) := Lib.hid (by
    have := bld_below (bld_new (w.alloc (.cells cs 62))) hw1
    simpa using this)
  have HW1 : Hid (Below w.heap.size w w1) := Lib.hid ((HW0.out.alloc (by simp) _).trans (hw1.mono (by simp; omega)))
  have hz1 : w.heap.size + 1 < w1.heap.size := by have := hw1.size; simp at this; omega
  have HOL : Hid ((Urly.origin u).length ≤ 5000000) := Lib.hid (by have := (Urly.text_size HU.out).1; omega)
  clear hw1 HO HB HW0
  go_wp2_with (fail)
  refine (HS.out (w.heap.size + 1) (w.heap.size + 1) [] (Urly.origin u) w1 HD1.out (by simp) HOL.out (by omega)).mono ?_
  rintro e w2 ⟨⟨v2, rfl⟩, hd2, hw2⟩
  have HB2 : Hid (Box w2 w.heap.size 62 cs) := Lib.hid (HB1.out.below hw2 (by omega))
  have HD2 : Hid (Bld (w.heap.size + 1) (w.heap.size + 1) (upTo u 0) w2) := Lib.hid (by rw [upTo_zero]; simpa using hd2)
  have HW2 : Hid (Below w.heap.size w w2) := Lib.hid (HW1.out.trans (hw2.mono (by omega)))
  have hz2 : w.heap.size + 1 < w2.heap.size := by have := hw2.size; omega
  have c3 : w2.cell? ⟨w.heap.size, 3, none⟩ = some (.slice A n cap) := (HB2.out.cell 3).trans HK.out.1
  clear hd2 hw2 HB1 HD1 HW1 HOL hz1
  go_wp2
  go_loopg [5, 12] (n - 0) (fun g _ v wr => ∃ (k : Nat), k ≤ n ∧ g = n - k ∧ v = .int .i64 (k : Int) ∧ Bld (w.heap.size + 1) (w.heap.size + 1) (upTo u k) wr ∧ Below (w.heap.size + 1) w2 wr)
  case atStart => exact ⟨0, by omega, rfl, rfl, HD2.out, Below.refl _ _⟩
  case round =>
    obtain ⟨k, hk, hg, rfl, hb, hw⟩ := hrel
    have HG := Lib.hid hg
    have HBD := Lib.hid hb
    have HW := Lib.hid hw
    have hzr := hw.size
    clear hg hb hw
    by_cases hlt : k < n
    · obtain ⟨p, hp⟩ : ∃ p, u.path[k]? = some p := ⟨_, List.getElem?_eq_getElem (by rw [HN.out]; exact hlt)⟩
      obtain ⟨g, o, rfl, hgl, hcell⟩ := HCE.out k p hp
      have hl1 : decide ((k : Int) < (n : Int)) = true := decide_eq_true (by omega)
      have hl2 : (k : Int) < (n : Int) := by omega
      have hc : wr.cell? ⟨g, o + k, none⟩ = some (.string (byt p)) := by
        rw [HW.out.cell (p := ⟨g, o + k, none⟩) (by show g < w.heap.size + 1; omega), HW2.out.cell (p := ⟨g, o + k, none⟩) hgl]
        exact hcell
      have hpl : p.length ≤ 2000 := by have := mem_tot (List.mem_of_getElem? hp); have := HU.out.tot; omega
      have HEN := Lib.hid (fun w => HE.out p w (by omega))
      have HUP := Lib.hid (upTo_succ hp)
      have hel := Urly.enc_len p
      have hes := byt_size (Urly.enc p)
      have HAP := Lib.hid (one_app 47 (Urly.enc p))
      have HEL : Hid ((47 :: Urly.enc p).length ≤ 5000000) := Lib.hid (by simp; omega)
      obtain ⟨P, hP⟩ : ∃ P, byt p = P := ⟨_, rfl⟩
      rw [hP] at hc HEN
      obtain ⟨E, hE⟩ : ∃ E, byt (Urly.enc p) = E := ⟨_, rfl⟩
      rw [hE] at HEN HAP hes
      have hes2 : E.size ≤ 6000 := by omega
      clear hp hcell hpl hel hes hP hE
      go_wp2_with (fail)
      refine (HEN.out _).mono ?_
      rintro e w3 ⟨rfl, hw3⟩
      have HB3 : Hid (Bld (w.heap.size + 1) (w.heap.size + 1) (upTo u k) w3) := Lib.hid (bld_below HBD.out hw3)
      have HW3 : Hid (Below (w.heap.size + 1) w2 w3) := Lib.hid (HW.out.trans (hw3.mono (by omega)))
      have hz3 := HW3.out.size
      clear hw3 HBD HW HEN
      go_wp2_with (fail)
      rw [HAP.out]
      refine (HS.out (w.heap.size + 1) (w.heap.size + 1) (upTo u k) (47 :: Urly.enc p) w3 HB3.out (by have := upTo_len HU.out k; omega) HEL.out (by omega)).mono ?_
      rintro e w4 ⟨⟨v4, rfl⟩, hd4, hw4⟩
      have HD4 : Hid (Bld (w.heap.size + 1) (w.heap.size + 1) (upTo u (k + 1)) w4) := Lib.hid (by rw [HUP.out]; exact hd4)
      have HW4 : Hid (Below (w.heap.size + 1) w2 w4) := Lib.hid (HW3.out.trans hw4)
      clear hd4 hw4
      go_wp2
      go_roundg (n - (k + 1))
      case measure => rw [HG.out]; omega
      case rel => exact ⟨k + 1, by omega, rfl, by go_num, HD4.out, HW4.out⟩
    · have hl1 : decide ((k : Int) < (n : Int)) = false := decide_eq_false (by omega)
      have hl2 : ¬ (k : Int) < (n : Int) := by omega
      have hkn : k = n := by omega
      have HBR : Hid (Box wr w.heap.size 62 cs) := Lib.hid (HB2.out.below HW.out (by omega))
      have c4 : wr.cell? ⟨w.heap.size, 4, none⟩ = some (.string (byt u.query)) := (HBR.out.cell 4).trans HK.out.2.1
      have c5 : wr.cell? ⟨w.heap.size, 5, none⟩ = some (.bool u.asks) := (HBR.out.cell 5).trans HK.out.2.2.1
      have c6 : wr.cell? ⟨w.heap.size, 6, none⟩ = some (.string (byt u.fragment)) := (HBR.out.cell 6).trans HK.out.2.2.2.1
      have c7 : wr.cell? ⟨w.heap.size, 7, none⟩ = some (.bool u.points) := (HBR.out.cell 7).trans HK.out.2.2.2.2
      have HWR : Hid (Below w.heap.size w wr) := Lib.hid (HW2.out.trans (HW.out.mono (by omega)))
      have HBN : Hid (Bld (w.heap.size + 1) (w.heap.size + 1) (upTo u n) wr) := Lib.hid (by rw [← hkn]; exact HBD.out)
      have HUL : Hid ((upTo u n).length ≤ 20000) := Lib.hid (upTo_len HU.out n)
      have HAPQ := Lib.hid (one_app 63 u.query)
      have HAPF := Lib.hid (one_app 35 u.fragment)
      have q1 := byt_size u.query
      have q2 := byt_size u.fragment
      have q3 := HU.out.query
      have q4 := HU.out.fragment
      have HQL : Hid ((63 :: u.query).length ≤ 2000) := Lib.hid (by simp; omega)
      have HFL : Hid ((35 :: u.fragment).length ≤ 2000) := Lib.hid (by simp; omega)
      obtain ⟨Q, hQ⟩ : ∃ P, byt u.query = P := ⟨_, rfl⟩
      obtain ⟨F, hF⟩ : ∃ P, byt u.fragment = P := ⟨_, rfl⟩
      rw [hQ] at c4 HAPQ q1
      rw [hF] at c6 HAPF q2
      have q5 : Q.size ≤ 1500 := by omega
      have q6 : F.size ≤ 1500 := by omega
      have HTX := Lib.hid (And.intro (text_ft (u := u)) (And.intro (text_f (u := u)) (And.intro (text_q (u := u)) (text_qf (u := u)))))
      rw [HN.out] at HTX
      obtain ⟨bq, hbq⟩ : ∃ b, u.asks = b := ⟨_, rfl⟩
      obtain ⟨bf, hbf⟩ : ∃ b, u.points = b := ⟨_, rfl⟩
      rw [hbq] at c5
      rw [hbf] at c7
      have HBQ := Lib.hid hbq
      have HBF := Lib.hid hbf
      clear hQ hF q1 q2 q3 q4 hbq hbf hkn HB2 HW2 HBD HW HE HCE HK c3
      cases bq with
      | false =>
        cases bf with
        | false =>
          go_wp2_with (fail)
          refine (HBS.out (w.heap.size + 1) (w.heap.size + 1) (upTo u n) wr HBN.out (by omega)).mono ?_
          rintro e w9 ⟨rfl, hw9⟩
          have HW9 := Lib.hid (HWR.out.trans (hw9.mono (by omega)))
          clear hw9
          go_wp2
          go_ret
          exact textOut_mk (by rw [HTX.out.1 HBQ.out HBF.out]) rfl HW9.out
        | true =>
          go_wp2_with (fail)
          rw [HAPF.out]
          refine (HS.out (w.heap.size + 1) (w.heap.size + 1) (upTo u n) (35 :: u.fragment) wr HBN.out (by have := HUL.out; omega) (by have := HFL.out; omega) (by omega)).mono ?_
          rintro e w5 ⟨⟨v5, rfl⟩, hd5, hw5⟩
          have HD5 := Lib.hid hd5
          have HW5 : Hid (Below w.heap.size w w5) := Lib.hid (HWR.out.trans (hw5.mono (by omega)))
          have hz5 := hw5.size
          clear hd5 hw5
          go_wp2_with (fail)
          refine (HBS.out (w.heap.size + 1) (w.heap.size + 1) _ w5 HD5.out (by omega)).mono ?_
          rintro e w9 ⟨rfl, hw9⟩
          have HW9 := Lib.hid (HW5.out.trans (hw9.mono (by omega)))
          clear hw9
          go_wp2
          go_ret
          exact textOut_mk (by rw [HTX.out.2.1 HBQ.out HBF.out]) rfl HW9.out
      | true =>
        go_wp2_with (fail)
        rw [HAPQ.out]
        refine (HS.out (w.heap.size + 1) (w.heap.size + 1) (upTo u n) (63 :: u.query) wr HBN.out (by have := HUL.out; omega) (by have := HQL.out; omega) (by omega)).mono ?_
        rintro e w5 ⟨⟨v5, rfl⟩, hd5, hw5⟩
        have HD5 := Lib.hid hd5
        have HW5 : Hid (Below w.heap.size w w5) := Lib.hid (HWR.out.trans (hw5.mono (by omega)))
        have hz5 := hw5.size
        have c6' : w5.cell? ⟨w.heap.size, 6, none⟩ = some (.string F) := by rw [hw5.cell (p := ⟨w.heap.size, 6, none⟩) (by show w.heap.size < w.heap.size + 1; omega)]; exact c6
        have c7' : w5.cell? ⟨w.heap.size, 7, none⟩ = some (.bool bf) := by rw [hw5.cell (p := ⟨w.heap.size, 7, none⟩) (by show w.heap.size < w.heap.size + 1; omega)]; exact c7
        clear hd5 hw5 c4 c5 c6 c7 HBR
        cases bf with
        | false =>
          go_wp2_with (fail)
          refine (HBS.out (w.heap.size + 1) (w.heap.size + 1) _ w5 HD5.out (by omega)).mono ?_
          rintro e w9 ⟨rfl, hw9⟩
          have HW9 := Lib.hid (HW5.out.trans (hw9.mono (by omega)))
          clear hw9
          go_wp2
          go_ret
          exact textOut_mk (by rw [HTX.out.2.2.1 HBQ.out HBF.out]) rfl HW9.out
        | true =>
          go_wp2_with (fail)
          rw [HAPF.out]
          refine (HS.out (w.heap.size + 1) (w.heap.size + 1) _ (35 :: u.fragment) w5 HD5.out (by have := HUL.out; have := HQL.out; simp only [List.length_append]; omega) (by have := HFL.out; omega) (by omega)).mono ?_
          rintro e w6 ⟨⟨v6, rfl⟩, hd6, hw6⟩
          have HD6 := Lib.hid hd6
          have HW6 : Hid (Below w.heap.size w w6) := Lib.hid (HW5.out.trans (hw6.mono (by omega)))
          have hz6 := hw6.size
          clear hd6 hw6
          go_wp2_with (fail)
          refine (HBS.out (w.heap.size + 1) (w.heap.size + 1) _ w6 HD6.out (by omega)).mono ?_
          rintro e w9 ⟨rfl, hw9⟩
          have HW9 := Lib.hid (HW6.out.trans (hw9.mono (by omega)))
          clear hw9
          go_wp2
          go_ret
          exact textOut_mk (by rw [HTX.out.2.2.2 HBQ.out HBF.out]; simp) rfl HW9.out
end Go.Proofs.YtdolmjeiakdfhaaGreatDoor

/-
  Ray: the document's RightReply.
-/
import Derived.Test.YtlckgkpgllhpbaaDoorRax
import Derived.Test.YtlckgkpgllhpbaaDoorAyt
import Derived.Test.YtlckgkpgllhpbaaDoorRec
namespace Go.Proofs.YtlckgkpgllhpbaaDoor
open Go.RowKit

def g5 (k h0 h1 h2 h3 h4 : Int) (path data : List UInt8) : Bool := (decide (k < 1) || (decide (14 < k) || (decide (h0 < 0) || (decide (h1 < 0) || (decide (h2 < 0) || (decide (h3 < 0) || (decide (h4 < 0) || (decide (1000 < h4) || (decide (220 < (path.length : Int)) || decide (1000 < (data.length : Int)))))))))))
def g6 (z0 z1 z2 z3 z4 z5 z6 z7 z8 z9 : Int) (ls : List (List UInt8)) : Bool := (decide (z0 < 0) || (decide (z1 < 0) || (decide (z2 < 0) || (decide (z3 < 0) || (decide (z4 < 0) || (decide (z5 < 0) || (decide (z6 < 0) || (decide (z7 < 0) || (decide (z8 < 0) || (decide (z9 < 0) || decide (500 < (ls.length : Int))))))))))))
def g7 (ls : List (List UInt8)) : Bool := ls.any fun t => decide (220 < t.length)
def g8 (deep cz : Bool) (ck : Int) (np : Nat) (ls : List (List UInt8)) : Bool := (!cz && (ck != 0)) || ((!deep && (decide (0 < (np : Int)) || decide (0 < (ls.length : Int)))) || decide (16 < (np : Int)))
/-- RightReply of a part, as it is wanted. -/
def RAnsFlat (lo hi : Nat) (q : Fy × Nat) : Prop := ∀ (pl : Py) (w : World), Rd w lo hi pl.A q.1.data → RdT w lo hi pl.L q.1.ls → RdM w lo hi pl.B q.1.c.2 → hi ≤ w.heap.size → Calls Tryd.prog 40 #[yval q.1 pl q.2, .bool false] w fun e w' => e = .returned (.bool (decide (PartY q))) ∧ Fr NoB w w'
set_option maxHeartbeats 12800000 in
set_option maxRecDepth 8000 in
theorem rans_core (k h0 h1 h2 h3 h4 : Int) (path : List UInt8) (A : Option Addr) (data : List UInt8) (c : Nat) (z0 z1 z2 z3 z4 z5 z6 z7 z8 z9 : Int) (L : Option Addr) (ls : List (List UInt8)) (n : Nat) (ver : Int) (B : Option Addr) (ms : List Mem) (d : Nat) (P : Option Addr) (np e' : Nat) (deep : Bool) (l : List (Fy × Nat)) (lo hi : Nat) (w : World)
    (hT : RdT w lo hi L ls) (hM : RdM w lo hi B ms) (hP : RdPy w lo hi P l) (hh : hi ≤ w.heap.size) (hml : ms.length ≤ 140737488355328) (hnp : (deep = true ∨ np = 0) → np = l.length) (hfl : ∀ q ∈ l, RAnsFlat lo hi q) :
    Calls Tryd.prog 40 #[.agg #[.int .u8 k, .int .i64 h0, .int .i64 h1, .int .i64 h2, .int .i64 h3, .int .i64 h4, .string ⟨path.toArray⟩, .slice A data.length c, .int .i64 z0, .int .i64 z1, .int .i64 z2, .int .i64 z3, .int .i64 z4, .int .i64 z5, .int .i64 z6, .int .i64 z7, .int .i64 z8, .int .i64 z9, .slice L ls.length n, .int .i64 ver, .slice B ms.length d, .slice P np e'], .bool deep] w fun e w' => e = .returned (.bool (!g5 k h0 h1 h2 h3 h4 path data && (!g6 z0 z1 z2 z3 z4 z5 z6 z7 z8 z9 ls && (!g7 ls && (!g8 deep (ver == 0 && (ms.length : Int) == 0) (chk ver ms) np ls && !(l.any fun q => !decide (PartY q))))))) ∧ Fr NoB w w' := by
  have HT := Lib.hid hT
  have HP := Lib.hid hP
  have HFL := Lib.hid hfl
  have HNP := Lib.hid hnp
  have HCK := Lib.hid (fun W (F : Fr NoB w W) => rcheck_calls ver B ms d lo hi W (hM.fr F hh (fun _ _ _ x => x)) (Nat.le_trans hh F.size) hml)
  obtain ⟨R5, hR5⟩ : ∃ R, g5 k h0 h1 h2 h3 h4 path data = R := ⟨_, rfl⟩
  obtain ⟨R6, hR6⟩ : ∃ R, g6 z0 z1 z2 z3 z4 z5 z6 z7 z8 z9 ls = R := ⟨_, rfl⟩
  obtain ⟨R7, hR7⟩ : ∃ R, g7 ls = R := ⟨_, rfl⟩
  obtain ⟨cz, hcz⟩ : ∃ R, (ver == 0 && (ms.length : Int) == 0) = R := ⟨_, rfl⟩
  obtain ⟨R8, hR8⟩ : ∃ R, g8 deep cz (chk ver ms) np ls = R := ⟨_, rfl⟩
  obtain ⟨R9, hR9⟩ : ∃ R, (l.any fun q => !decide (PartY q)) = R := ⟨_, rfl⟩
  have HNO := fun W => rnone_calls ver B ms.length d W
  rw [hcz] at HNO
  rw [hR5, hR6, hR7, hcz, hR8, hR9]
  obtain ⟨ck, hck⟩ : ∃ x, chk ver ms = x := ⟨_, rfl⟩
  rw [hck] at HCK hR8
  have HNO := Lib.hid HNO
  have HR5 := Lib.hid hR5
  have HR6 := Lib.hid hR6
  have HR7 := Lib.hid hR7
  have HR8 := Lib.hid hR8
  have HR9 := Lib.hid hR9
  clear hT hM hP hnp hfl hR5 hR6 hR7 hcz hR8 hR9 hck hml
  have HA := Lib.hid (heap_alloc_new w (.cells #[.int .u8 k, .int .i64 h0, .int .i64 h1, .int .i64 h2, .int .i64 h3, .int .i64 h4, .string ⟨path.toArray⟩, .slice A data.length c, .int .i64 z0, .int .i64 z1, .int .i64 z2, .int .i64 z3, .int .i64 z4, .int .i64 z5, .int .i64 z6, .int .i64 z7, .int .i64 z8, .int .i64 z9, .slice L ls.length n, .int .i64 ver, .slice B ms.length d, .slice P np e'] 43))
  have FA := Lib.hid ((Fr.refl NoB w).alloc (.cells #[.int .u8 k, .int .i64 h0, .int .i64 h1, .int .i64 h2, .int .i64 h3, .int .i64 h4, .string ⟨path.toArray⟩, .slice A data.length c, .int .i64 z0, .int .i64 z1, .int .i64 z2, .int .i64 z3, .int .i64 z4, .int .i64 z5, .int .i64 z6, .int .i64 z7, .int .i64 z8, .int .i64 z9, .slice L ls.length n, .int .i64 ver, .slice B ms.length d, .slice P np e'] 43))
  go_enter Tryd.func40, Tryd.ntmps40
  go_wp2_with (first | (with_reducible refine held_load (ty := 37) ?_) | fail)
  unfold Held
  generalize w.alloc (.cells #[.int .u8 k, .int .i64 h0, .int .i64 h1, .int .i64 h2, .int .i64 h3, .int .i64 h4, .string ⟨path.toArray⟩, .slice A data.length c, .int .i64 z0, .int .i64 z1, .int .i64 z2, .int .i64 z3, .int .i64 z4, .int .i64 z5, .int .i64 z6, .int .i64 z7, .int .i64 z8, .int .i64 z9, .slice L ls.length n, .int .i64 ver, .slice B ms.length d, .slice P np e'] 43) = wa at HA FA ⊢
  generalize hNA : w.heap.size = NA at HA ⊢
  clear hNA
  have hrg : wa.rangeAt NA 8 #[.int .i64 z0, .int .i64 z1, .int .i64 z2, .int .i64 z3, .int .i64 z4, .int .i64 z5, .int .i64 z6, .int .i64 z7, .int .i64 z8, .int .i64 z9].toList := by
    have h := World.rangeAt_of_block HA.out 8 10
    exact h
  refine wpList_load_mid rfl 37 (.tmp 8) rfl NA 8 rfl #[.int .i64 z0, .int .i64 z1, .int .i64 z2, .int .i64 z3, .int .i64 z4, .int .i64 z5, .int .i64 z6, .int .i64 z7, .int .i64 z8, .int .i64 z9].toList _ hrg Tryd.underlying37 rfl stsize10b ?_
  show wpList _ _ _ _ _ _
  go_wp2_with (first | (with_reducible refine held_store (ty := 37) ?_) | fail)
  unfold Held
  refine wpList_store_row rfl 37 _ _ rfl wa.heap.size #[.int .i64 z0, .int .i64 z1, .int .i64 z2, .int .i64 z3, .int .i64 z4, .int .i64 z5, .int .i64 z6, .int .i64 z7, .int .i64 z8, .int .i64 z9] ?_ ?_ _ _ (heap_alloc_new wa _) stsize10b rfl (by simp [Value.oneCell']) ?_
  · rfl
  · rfl
  rw [World.setRow_alloc_new]
  have hb := heap_alloc_new wa (.cells #[.int .i64 z0, .int .i64 z1, .int .i64 z2, .int .i64 z3, .int .i64 z4, .int .i64 z5, .int .i64 z6, .int .i64 z7, .int .i64 z8, .int .i64 z9] 37)
  have f2 := (Fr.refl NoB wa).alloc (.cells #[.int .i64 z0, .int .i64 z1, .int .i64 z2, .int .i64 z3, .int .i64 z4, .int .i64 z5, .int .i64 z6, .int .i64 z7, .int .i64 z8, .int .i64 z9] 37)
  generalize wa.alloc (.cells #[.int .i64 z0, .int .i64 z1, .int .i64 z2, .int .i64 z3, .int .i64 z4, .int .i64 z5, .int .i64 z6, .int .i64 z7, .int .i64 z8, .int .i64 z9] 37) = w2 at hb f2 ⊢
  generalize wa.heap.size = NS at hb ⊢
  have HB := Lib.hid hb
  have HA2 := Lib.hid (f2.at_ HA.out (fun x => x))
  have F2 := Lib.hid (FA.out.then f2)
  clear hb f2 hrg HA FA
  go_upto_region 2 with (fail)
  try simp only [Act.put]
  go_cut [0, 59] (fun _ r W => r = .bool R5 ∧ w2 = W)
  case first =>
    as_aux_lemma =>
    have c0 := (cells_of HA2.out 0).1
    have c1 := (cells_of HA2.out 1).1
    have c2 := (cells_of HA2.out 2).1
    have c3 := (cells_of HA2.out 3).1
    have c4 := (cells_of HA2.out 4).1
    have c5 := (cells_of HA2.out 5).1
    have c6 := (cells_of HA2.out 6).1
    have c7 := (cells_of HA2.out 7).1
    simp only [List.getElem?_toArray, List.getElem?_cons_zero, List.getElem?_cons_succ] at c0 c1 c2 c3 c4 c5 c6 c7
    by_cases q0 : k < 1
    · have E0 : Hid (decide (k < 1) = true) := Lib.hid (decide_eq_true q0)
      go_wp2
      all_goals go_meet
      all_goals exact ⟨by rw [← HR5.out]; simp only [g5, E0.out, Bool.true_or], rfl⟩
    have E0 : Hid (decide (k < 1) = false) := Lib.hid (decide_eq_false q0)
    by_cases q1 : 14 < k
    · have E1 : Hid (decide (14 < k) = true) := Lib.hid (decide_eq_true q1)
      go_wp2
      all_goals go_meet
      all_goals exact ⟨by rw [← HR5.out]; simp only [g5, E0.out, E1.out, Bool.true_or, Bool.or_true], rfl⟩
    have E1 : Hid (decide (14 < k) = false) := Lib.hid (decide_eq_false q1)
    by_cases q2 : h0 < 0
    · have E2 : Hid (decide (h0 < 0) = true) := Lib.hid (decide_eq_true q2)
      go_wp2
      all_goals go_meet
      all_goals exact ⟨by rw [← HR5.out]; simp only [g5, E0.out, E1.out, E2.out, Bool.true_or, Bool.or_true], rfl⟩
    have E2 : Hid (decide (h0 < 0) = false) := Lib.hid (decide_eq_false q2)
    by_cases q3 : h1 < 0
    · have E3 : Hid (decide (h1 < 0) = true) := Lib.hid (decide_eq_true q3)
      go_wp2
      all_goals go_meet
      all_goals exact ⟨by rw [← HR5.out]; simp only [g5, E0.out, E1.out, E2.out, E3.out, Bool.true_or, Bool.or_true], rfl⟩
    have E3 : Hid (decide (h1 < 0) = false) := Lib.hid (decide_eq_false q3)
    by_cases q4 : h2 < 0
    · have E4 : Hid (decide (h2 < 0) = true) := Lib.hid (decide_eq_true q4)
      go_wp2
      all_goals go_meet
      all_goals exact ⟨by rw [← HR5.out]; simp only [g5, E0.out, E1.out, E2.out, E3.out, E4.out, Bool.true_or, Bool.or_true], rfl⟩
    have E4 : Hid (decide (h2 < 0) = false) := Lib.hid (decide_eq_false q4)
    by_cases q5 : h3 < 0
    · have E5 : Hid (decide (h3 < 0) = true) := Lib.hid (decide_eq_true q5)
      go_wp2
      all_goals go_meet
      all_goals exact ⟨by rw [← HR5.out]; simp only [g5, E0.out, E1.out, E2.out, E3.out, E4.out, E5.out, Bool.true_or, Bool.or_true], rfl⟩
    have E5 : Hid (decide (h3 < 0) = false) := Lib.hid (decide_eq_false q5)
    by_cases q6 : h4 < 0
    · have E6 : Hid (decide (h4 < 0) = true) := Lib.hid (decide_eq_true q6)
      go_wp2
      all_goals go_meet
      all_goals exact ⟨by rw [← HR5.out]; simp only [g5, E0.out, E1.out, E2.out, E3.out, E4.out, E5.out, E6.out, Bool.true_or, Bool.or_true], rfl⟩
    have E6 : Hid (decide (h4 < 0) = false) := Lib.hid (decide_eq_false q6)
    by_cases q7 : 1000 < h4
    · have E7 : Hid (decide (1000 < h4) = true) := Lib.hid (decide_eq_true q7)
      go_wp2
      all_goals go_meet
      all_goals exact ⟨by rw [← HR5.out]; simp only [g5, E0.out, E1.out, E2.out, E3.out, E4.out, E5.out, E6.out, E7.out, Bool.true_or, Bool.or_true], rfl⟩
    have E7 : Hid (decide (1000 < h4) = false) := Lib.hid (decide_eq_false q7)
    by_cases q8 : 220 < (path.length : Int)
    · have E8 : Hid (decide (220 < (path.length : Int)) = true) := Lib.hid (decide_eq_true q8)
      go_wp2
      all_goals go_meet
      all_goals exact ⟨by rw [← HR5.out]; simp only [g5, E0.out, E1.out, E2.out, E3.out, E4.out, E5.out, E6.out, E7.out, E8.out, Bool.true_or, Bool.or_true], rfl⟩
    have E8 : Hid (decide (220 < (path.length : Int)) = false) := Lib.hid (decide_eq_false q8)
    by_cases q9 : 1000 < (data.length : Int)
    · have E9 : Hid (decide (1000 < (data.length : Int)) = true) := Lib.hid (decide_eq_true q9)
      go_wp2
      all_goals go_meet
      all_goals exact ⟨by rw [← HR5.out]; simp only [g5, E0.out, E1.out, E2.out, E3.out, E4.out, E5.out, E6.out, E7.out, E8.out, E9.out, Bool.or_true], rfl⟩
    have E9 : Hid (decide (1000 < (data.length : Int)) = false) := Lib.hid (decide_eq_false q9)
    go_wp2
    all_goals go_meet
    all_goals exact ⟨by rw [← HR5.out]; simp only [g5, E0.out, E1.out, E2.out, E3.out, E4.out, E5.out, E6.out, E7.out, E8.out, E9.out, Bool.or_false], rfl⟩
  case rest =>
    obtain ⟨rfl, rfl⟩ := hcut
    cases R5
    rotate_left
    · go_wp2
      go_ret
      exact ⟨rfl, F2.out⟩
    go_upto_region 4 with (fail)
    try simp only [Act.put, List.setIfInBounds_toArray, List.set_cons_zero, List.set_cons_succ]
    go_cut [0, 113] (fun _ r W => r = .bool R6 ∧ w2 = W)
    case first =>
      as_aux_lemma =>
      have y0 := (cells_of HB.out 0).1
      have y1 := (cells_of HB.out 1).1
      have y2 := (cells_of HB.out 2).1
      have y3 := (cells_of HB.out 3).1
      have y4 := (cells_of HB.out 4).1
      have y5 := (cells_of HB.out 5).1
      have y6 := (cells_of HB.out 6).1
      have y7 := (cells_of HB.out 7).1
      have y8 := (cells_of HB.out 8).1
      have y9 := (cells_of HB.out 9).1
      simp only [List.getElem?_toArray, List.getElem?_cons_zero, List.getElem?_cons_succ] at y0 y1 y2 y3 y4 y5 y6 y7 y8 y9
      have c18 := (cells_of HA2.out 18).1
      simp only [List.getElem?_toArray, List.getElem?_cons_zero, List.getElem?_cons_succ] at c18
      by_cases q0 : z0 < 0
      · have E0 : Hid (decide (z0 < 0) = true) := Lib.hid (decide_eq_true q0)
        go_wp2
        all_goals go_meet
        all_goals exact ⟨by rw [← HR6.out]; simp only [g6, E0.out, Bool.true_or], rfl⟩
      have E0 : Hid (decide (z0 < 0) = false) := Lib.hid (decide_eq_false q0)
      by_cases q1 : z1 < 0
      · have E1 : Hid (decide (z1 < 0) = true) := Lib.hid (decide_eq_true q1)
        go_wp2
        all_goals go_meet
        all_goals exact ⟨by rw [← HR6.out]; simp only [g6, E0.out, E1.out, Bool.true_or, Bool.or_true], rfl⟩
      have E1 : Hid (decide (z1 < 0) = false) := Lib.hid (decide_eq_false q1)
      by_cases q2 : z2 < 0
      · have E2 : Hid (decide (z2 < 0) = true) := Lib.hid (decide_eq_true q2)
        go_wp2
        all_goals go_meet
        all_goals exact ⟨by rw [← HR6.out]; simp only [g6, E0.out, E1.out, E2.out, Bool.true_or, Bool.or_true], rfl⟩
      have E2 : Hid (decide (z2 < 0) = false) := Lib.hid (decide_eq_false q2)
      by_cases q3 : z3 < 0
      · have E3 : Hid (decide (z3 < 0) = true) := Lib.hid (decide_eq_true q3)
        go_wp2
        all_goals go_meet
        all_goals exact ⟨by rw [← HR6.out]; simp only [g6, E0.out, E1.out, E2.out, E3.out, Bool.true_or, Bool.or_true], rfl⟩
      have E3 : Hid (decide (z3 < 0) = false) := Lib.hid (decide_eq_false q3)
      by_cases q4 : z4 < 0
      · have E4 : Hid (decide (z4 < 0) = true) := Lib.hid (decide_eq_true q4)
        go_wp2
        all_goals go_meet
        all_goals exact ⟨by rw [← HR6.out]; simp only [g6, E0.out, E1.out, E2.out, E3.out, E4.out, Bool.true_or, Bool.or_true], rfl⟩
      have E4 : Hid (decide (z4 < 0) = false) := Lib.hid (decide_eq_false q4)
      by_cases q5 : z5 < 0
      · have E5 : Hid (decide (z5 < 0) = true) := Lib.hid (decide_eq_true q5)
        go_wp2
        all_goals go_meet
        all_goals exact ⟨by rw [← HR6.out]; simp only [g6, E0.out, E1.out, E2.out, E3.out, E4.out, E5.out, Bool.true_or, Bool.or_true], rfl⟩
      have E5 : Hid (decide (z5 < 0) = false) := Lib.hid (decide_eq_false q5)
      by_cases q6 : z6 < 0
      · have E6 : Hid (decide (z6 < 0) = true) := Lib.hid (decide_eq_true q6)
        go_wp2
        all_goals go_meet
        all_goals exact ⟨by rw [← HR6.out]; simp only [g6, E0.out, E1.out, E2.out, E3.out, E4.out, E5.out, E6.out, Bool.true_or, Bool.or_true], rfl⟩
      have E6 : Hid (decide (z6 < 0) = false) := Lib.hid (decide_eq_false q6)
      by_cases q7 : z7 < 0
      · have E7 : Hid (decide (z7 < 0) = true) := Lib.hid (decide_eq_true q7)
        go_wp2
        all_goals go_meet
        all_goals exact ⟨by rw [← HR6.out]; simp only [g6, E0.out, E1.out, E2.out, E3.out, E4.out, E5.out, E6.out, E7.out, Bool.true_or, Bool.or_true], rfl⟩
      have E7 : Hid (decide (z7 < 0) = false) := Lib.hid (decide_eq_false q7)
      by_cases q8 : z8 < 0
      · have E8 : Hid (decide (z8 < 0) = true) := Lib.hid (decide_eq_true q8)
        go_wp2
        all_goals go_meet
        all_goals exact ⟨by rw [← HR6.out]; simp only [g6, E0.out, E1.out, E2.out, E3.out, E4.out, E5.out, E6.out, E7.out, E8.out, Bool.true_or, Bool.or_true], rfl⟩
      have E8 : Hid (decide (z8 < 0) = false) := Lib.hid (decide_eq_false q8)
      by_cases q9 : z9 < 0
      · have E9 : Hid (decide (z9 < 0) = true) := Lib.hid (decide_eq_true q9)
        go_wp2
        all_goals go_meet
        all_goals exact ⟨by rw [← HR6.out]; simp only [g6, E0.out, E1.out, E2.out, E3.out, E4.out, E5.out, E6.out, E7.out, E8.out, E9.out, Bool.true_or, Bool.or_true], rfl⟩
      have E9 : Hid (decide (z9 < 0) = false) := Lib.hid (decide_eq_false q9)
      by_cases q10 : 500 < (ls.length : Int)
      · have E10 : Hid (decide (500 < (ls.length : Int)) = true) := Lib.hid (decide_eq_true q10)
        go_wp2
        all_goals go_meet
        all_goals exact ⟨by rw [← HR6.out]; simp only [g6, E0.out, E1.out, E2.out, E3.out, E4.out, E5.out, E6.out, E7.out, E8.out, E9.out, E10.out, Bool.or_true], rfl⟩
      have E10 : Hid (decide (500 < (ls.length : Int)) = false) := Lib.hid (decide_eq_false q10)
      go_wp2
      all_goals go_meet
      all_goals exact ⟨by rw [← HR6.out]; simp only [g6, E0.out, E1.out, E2.out, E3.out, E4.out, E5.out, E6.out, E7.out, E8.out, E9.out, E10.out, Bool.or_false], rfl⟩
    case rest =>
      obtain ⟨rfl, rfl⟩ := hcut
      cases R6
      rotate_left
      · go_wp2
        go_ret
        exact ⟨rfl, F2.out⟩
      have hl5 : ls.length ≤ 500 := by
        have h := HR6.out
        simp only [g6, Bool.or_eq_false_iff, decide_eq_false_iff_not] at h
        omega
      go_wp2
      go_loopw [6] (fun i W => ∃ j : Nat, j ≤ ls.length ∧ i = .int .i64 (j : Int) ∧ (∀ t ∈ ls.take j, ¬ 220 < t.length) ∧ Fr NoB w2 W) (fun i _ => ls.length - (intOf i).toNat)
      case atStart => exact ⟨0, Nat.zero_le _, rfl, by simp, Fr.refl _ _⟩
      case round =>
        obtain ⟨j, hj, rfl, hsf, hf⟩ := hrel
        have F := Lib.hid hf
        have HSF := Lib.hid hsf
        clear hf hsf
        have c18 := (cells_of (F.out.at_ HA2.out (fun x => x)) 18).1
        simp only [List.getElem?_toArray, List.getElem?_cons_zero, List.getElem?_cons_succ] at c18
        by_cases hlt : j < ls.length
        · as_aux_lemma =>
          have hki : (j : Int) < (ls.length : Int) := by omega
          have hk0 : (0 : Int) ≤ (j : Int) := by omega
          obtain ⟨b, o, rfl, hb1, hb2, h4⟩ := HT.out (by omega)
          have hg : ls[j]? = some ls[j] := List.getElem?_eq_getElem hlt
          have y0 := ((F2.out.then F.out).cell (p := ⟨b, o + j, none⟩) (by simp only; omega) (fun x => x)).trans (h4 j _ hg)
          clear h4
          generalize ls[j] = t at hg y0
          by_cases h2 : 220 < t.length
          · have h7 : R7 = true := by rw [← HR7.out]; exact List.any_eq_true.2 ⟨t, List.mem_of_getElem? hg, decide_eq_true h2⟩
            subst h7
            have h2i : (220 : Int) < (t.length : Int) := by omega
            clear HR7 HT HP HFL HNP HCK HNO HR8 HR9
            go_wp2
            go_ret
            exact ⟨rfl, F2.out.then F.out⟩
          · have h2i : ¬ (220 : Int) < (t.length : Int) := by omega
            have HS2 : Hid (∀ t ∈ ls.take (j + 1), ¬ 220 < t.length) := Lib.hid (fun u hu => by
              rw [List.take_add_one, hg] at hu
              rcases List.mem_append.1 hu with hu | hu
              · exact HSF.out u hu
              · simp at hu; rw [hu]; exact h2)
            clear hg
            go_wp2
            go_roundw
            case rel => exact ⟨j + 1, by omega, by go_num, HS2.out, F.out⟩
            case measure => simp [intOf]; omega
        · obtain rfl : j = ls.length := by omega
          have h7 : R7 = false := by
            have h := HSF.out
            rw [List.take_length] at h
            rw [← HR7.out]
            exact Bool.eq_false_iff.2 (fun hx => by obtain ⟨t, ht, h2⟩ := List.any_eq_true.1 hx; exact h t ht (of_decide_eq_true h2))
          subst h7
          have F3 := Lib.hid (F2.out.then F.out)
          have HA3 := Lib.hid (F.out.at_ HA2.out (fun x => x))
          clear HSF HR7 HT c18 F HA2 HB F2
          have c18 := (cells_of HA3.out 18).1
          have c19 := (cells_of HA3.out 19).1
          have c20 := (cells_of HA3.out 20).1
          have c21 := (cells_of HA3.out 21).1
          simp only [List.getElem?_toArray, List.getElem?_cons_zero, List.getElem?_cons_succ] at c18 c19 c20 c21
          go_upto_region 11 with (fail)
          go_cut [0, 1, 6, 159] (fun _ _ _ r W => r = .bool R8 ∧ Fr NoB wr W)
          case first =>
            cases cz
            · as_aux_lemma =>
              go_wp2_with (fail)
              refine (HNO.out _).mono ?_
              rintro e v1 ⟨rfl, f1⟩
              clear c18 c19 c20 c21
              have c19 := (cells_of (f1.at_ HA3.out (fun x => x)) 19).1
              have c20 := (cells_of (f1.at_ HA3.out (fun x => x)) 20).1
              simp only [List.getElem?_toArray, List.getElem?_cons_zero, List.getElem?_cons_succ] at c19 c20
              go_wp2_with (fail)
              refine (HCK.out _ (F3.out.then f1)).mono ?_
              rintro e v2 ⟨rfl, f2⟩
              clear c19 c20
              have c18 := (cells_of ((f1.then f2).at_ HA3.out (fun x => x)) 18).1
              have c21 := (cells_of ((f1.then f2).at_ HA3.out (fun x => x)) 21).1
              simp only [List.getElem?_toArray, List.getElem?_cons_zero, List.getElem?_cons_succ] at c18 c21
              have F12 := Lib.hid (f1.then f2)
              clear f1 f2 HNO HCK
              have hx : (ck != 0) = true ∨ (ck != 0) = false := by cases (ck != 0) <;> simp
              rcases hx with hx | hx
              · have E0 := Lib.hid hx
                go_wp2
                all_goals go_meet
                all_goals exact ⟨by rw [← HR8.out]; simp only [g8, E0.out, Bool.not_false, Bool.and_true, Bool.true_or], F12.out⟩
              have E0 := Lib.hid hx
              cases deep
              · by_cases q1 : (0 : Int) < (np : Int)
                · have q1n : 0 < np := by omega
                  have E1 := Lib.hid (decide_eq_true q1)
                  go_wp2
                  all_goals go_meet
                  all_goals exact ⟨by rw [← HR8.out]; simp only [g8, E0.out, E1.out, Bool.not_false, Bool.and_true, Bool.and_false, Bool.true_or, Bool.or_true], F12.out⟩
                have q1n : ¬ 0 < np := by omega
                by_cases q2 : (0 : Int) < (ls.length : Int)
                · have q2n : 0 < ls.length := by omega
                  have q2l : ¬ ls = [] := List.length_pos_iff.1 q2n
                  have E1 := Lib.hid (decide_eq_false q1)
                  have E2 := Lib.hid (decide_eq_true q2)
                  go_wp2
                  all_goals go_meet
                  all_goals exact ⟨by rw [← HR8.out]; simp only [g8, E0.out, E1.out, E2.out, Bool.not_false, Bool.and_true, Bool.and_false, Bool.true_or, Bool.or_true], F12.out⟩
                have q2e : ls = [] := List.eq_nil_of_length_eq_zero (by omega)
                have q3 : ¬ (16 : Int) < (np : Int) := by omega
                have E1 := Lib.hid (decide_eq_false q1)
                have E2 := Lib.hid (decide_eq_false q2)
                have E3 := Lib.hid (decide_eq_false q3)
                go_wp2
                all_goals go_meet
                all_goals exact ⟨by rw [← HR8.out]; simp only [g8, E0.out, E1.out, E2.out, E3.out, Bool.not_false, Bool.and_false, Bool.or_false], F12.out⟩
              · by_cases q3 : (16 : Int) < (np : Int)
                · have E3 := Lib.hid (decide_eq_true q3)
                  go_wp2
                  all_goals go_meet
                  all_goals exact ⟨by rw [← HR8.out]; simp only [g8, E0.out, E3.out, Bool.not_false, Bool.not_true, Bool.false_and, Bool.and_false, Bool.or_true], F12.out⟩
                have E3 := Lib.hid (decide_eq_false q3)
                go_wp2
                all_goals go_meet
                all_goals exact ⟨by rw [← HR8.out]; simp only [g8, E0.out, E3.out, Bool.not_false, Bool.not_true, Bool.false_and, Bool.and_false, Bool.or_false], F12.out⟩
            · as_aux_lemma =>
              go_wp2_with (fail)
              refine (HNO.out _).mono ?_
              rintro e v1 ⟨rfl, f1⟩
              clear c18 c19 c20 c21
              have c18 := (cells_of (f1.at_ HA3.out (fun x => x)) 18).1
              have c21 := (cells_of (f1.at_ HA3.out (fun x => x)) 21).1
              simp only [List.getElem?_toArray, List.getElem?_cons_zero, List.getElem?_cons_succ] at c18 c21
              have F12 := Lib.hid f1
              clear f1 HNO HCK
              cases deep
              · by_cases q1 : (0 : Int) < (np : Int)
                · have q1n : 0 < np := by omega
                  have E1 := Lib.hid (decide_eq_true q1)
                  go_wp2
                  all_goals go_meet
                  all_goals exact ⟨by rw [← HR8.out]; simp only [g8,  E1.out, Bool.not_false, Bool.not_true, Bool.and_true, Bool.false_and, Bool.true_or, Bool.or_true], F12.out⟩
                have q1n : ¬ 0 < np := by omega
                by_cases q2 : (0 : Int) < (ls.length : Int)
                · have q2n : 0 < ls.length := by omega
                  have q2l : ¬ ls = [] := List.length_pos_iff.1 q2n
                  have E1 := Lib.hid (decide_eq_false q1)
                  have E2 := Lib.hid (decide_eq_true q2)
                  go_wp2
                  all_goals go_meet
                  all_goals exact ⟨by rw [← HR8.out]; simp only [g8,  E1.out, E2.out, Bool.not_false, Bool.not_true, Bool.and_true, Bool.false_and, Bool.true_or, Bool.or_true], F12.out⟩
                have q2e : ls = [] := List.eq_nil_of_length_eq_zero (by omega)
                have q3 : ¬ (16 : Int) < (np : Int) := by omega
                have E1 := Lib.hid (decide_eq_false q1)
                have E2 := Lib.hid (decide_eq_false q2)
                have E3 := Lib.hid (decide_eq_false q3)
                go_wp2
                all_goals go_meet
                all_goals exact ⟨by rw [← HR8.out]; simp only [g8,  E1.out, E2.out, E3.out, Bool.not_false, Bool.not_true, Bool.false_and, Bool.and_false, Bool.or_false], F12.out⟩
              · by_cases q3 : (16 : Int) < (np : Int)
                · have E3 := Lib.hid (decide_eq_true q3)
                  go_wp2
                  all_goals go_meet
                  all_goals exact ⟨by rw [← HR8.out]; simp only [g8,  E3.out, Bool.not_true, Bool.false_and, Bool.or_true], F12.out⟩
                have E3 := Lib.hid (decide_eq_false q3)
                go_wp2
                all_goals go_meet
                all_goals exact ⟨by rw [← HR8.out]; simp only [g8,  E3.out, Bool.not_true, Bool.false_and, Bool.or_false], F12.out⟩
          case rest =>
          obtain ⟨rfl, hfw⟩ := hcut
          have F4 := Lib.hid (F3.out.then hfw)
          have HA4 := Lib.hid (hfw.at_ HA3.out (fun x => x))
          clear hfw HA3 F3 c18 c19 c20 c21 HNO HCK
          cases R8
          rotate_left
          · go_wp2
            go_ret
            exact ⟨rfl, F4.out⟩
          have hnl : np = l.length := HNP.out (by
            have h := HR8.out
            cases deep
            · refine .inr ?_
              simp only [g8, Bool.not_false, Bool.true_and, Bool.or_eq_false_iff, decide_eq_false_iff_not] at h
              omega
            · exact .inl rfl)
          have hn16 : np ≤ 16 := by
            have h := HR8.out
            simp only [g8, Bool.or_eq_false_iff, decide_eq_false_iff_not] at h
            omega
          clear HNP HR8
          subst hnl
          go_wp2
          go_loopw [7] (fun i W => ∃ j : Nat, j ≤ l.length ∧ i = .int .i64 (j : Int) ∧ (∀ q ∈ l.take j, PartY q) ∧ Fr NoB wc W) (fun i _ => l.length - (intOf i).toNat)
          case atStart => exact ⟨0, Nat.zero_le _, rfl, by simp, Fr.refl _ _⟩
          case round =>
            obtain ⟨j, hj, rfl, hsf, hf⟩ := hrel
            have F := Lib.hid hf
            have HSF := Lib.hid hsf
            clear hf hsf
            have c21 := (cells_of (F.out.at_ HA4.out (fun x => x)) 21).1
            simp only [List.getElem?_toArray, List.getElem?_cons_zero, List.getElem?_cons_succ] at c21
            by_cases hlt : j < l.length
            · as_aux_lemma =>
              have hki : (j : Int) < (l.length : Int) := by omega
              have hk0 : (0 : Int) ≤ (j : Int) := by omega
              obtain ⟨b, o, rfl, hb1, hb2, h4⟩ := HP.out (by omega)
              have hg : l[j]? = some l[j] := List.getElem?_eq_getElem hlt
              obtain ⟨pl, hcs, r1, r2, r3⟩ := h4 j l[j] hg
              have hfq := HFL.out l[j] (List.getElem_mem hlt)
              clear h4
              generalize l[j] = q at hg hcs r1 r2 r3 hfq
              have FF : Fr NoB w wr := F4.out.then F.out
              have HQ := Lib.hid (hfq pl wr (r1.fr FF hh (fun _ _ _ x => x)) (r2.fr FF hh (fun _ _ _ x => x)) (r3.fr FF hh (fun _ _ _ x => x)) (Nat.le_trans hh FF.size))
              have hL : Hid (wr.rangeAt b (o + j * 22) (ycells q.1 pl q.2).toList) := Lib.hid (fun i v hv => (FF.cell (p := ⟨b, o + j * 22 + i, none⟩) (by simp only; omega) (fun x => x)).trans (hcs i v (by simpa using hv)))
              have HG := Lib.hid hg
              clear hfq r1 r2 r3 hcs FF HP HFL hg
              go_wp2_with (first | (with_reducible refine held_load (ty := 43) ?_) | fail)
              unfold Held
              refine wpList_load_mid rfl 43 (.tmp 170) rfl b (o + j * 22) rfl _ _ hL.out Tryd.underlying43 rfl rsizeY2 ?_
              go_wp2_with (fail)
              refine HQ.out.mono ?_
              rintro e v5 ⟨rfl, f5⟩
              have F5 := Lib.hid f5
              clear f5 HQ hL c21
              by_cases hq : PartY q
              · rw [decide_eq_true hq]
                have HS2 : Hid (∀ q ∈ l.take (j + 1), PartY q) := Lib.hid (fun u hu => by
                  rw [List.take_add_one, HG.out] at hu
                  rcases List.mem_append.1 hu with hu | hu
                  · exact HSF.out u hu
                  · simp at hu; rw [hu]; exact hq)
                clear hq
                go_wp2
                go_roundw
                case rel => exact ⟨j + 1, by omega, by go_num, HS2.out, F.out.then F5.out⟩
                case measure => simp [intOf]; omega
              · rw [decide_eq_false hq]
                have h9 : R9 = true := by rw [← HR9.out]; exact List.any_eq_true.2 ⟨q, List.mem_of_getElem? HG.out, by simp [hq]⟩
                subst h9
                clear HR9 hq
                go_wp2
                go_ret
                exact ⟨rfl, (F4.out.then F.out).then F5.out⟩
            · obtain rfl : j = l.length := by omega
              have h9 : R9 = false := by
                have h := HSF.out
                rw [List.take_length] at h
                rw [← HR9.out]
                exact Bool.eq_false_iff.2 (fun hx => by obtain ⟨t, ht, h2⟩ := List.any_eq_true.1 hx; simp [h t ht] at h2)
              subst h9
              clear HR9 HSF
              go_wp2
              go_ret
              exact ⟨rfl, F4.out.then F.out⟩
end Go.Proofs.YtlckgkpgllhpbaaDoor

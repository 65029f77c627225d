/-
  Raf: the document's fits.
-/
import Derived.Test.YtlckgkpgllhpbaaDoorRao
namespace Go.Proofs.YtlckgkpgllhpbaaDoor
open Go.RowKit

def z1 (h0 h1 h2 h3 h4 : Bool) (path data : List UInt8) (fl ve : Int) (wa : Bool) : Bool := (!h0 && !path.isEmpty) || ((!h1 && decide (0 < (data.length : Int))) || ((!h2 && fl != 0) || ((!h3 && ve != 0) || (!h4 && wa))))
def z2 (h5 h6 h7 h8 h9 : Bool) (so la ti fr : Int) (ml np : Nat) : Bool := (!h5 && so != 0) || ((!h6 && la != 0) || ((!h7 && ti != 0) || ((!h8 && (fr != 0 || decide (0 < (ml : Int)))) || (!h9 && decide (0 < (np : Int))))))
def z3 (pl dl : Nat) (fl ve la fr : Int) (ml : Nat) : Bool := decide (220 < (pl : Int)) || (decide (1000 < (dl : Int)) || (decide (fl < 0) || (decide (3 < fl) || (decide (ve < -1) || (decide (la < 0) || (decide (fr < 0) || decide (7 < (ml : Int))))))))
def z4 (h5 h7 : Bool) (so ti : Int) : Bool := (!h5 || (decide (1 ≤ so) && decide (so ≤ 3))) && (!h7 || (decide (1 ≤ ti) && decide (ti ≤ 1000)))
def C2 (h0 h1 h2 h3 h4 : Bool) : Prop := (h0 = false ∧ h1 = false ∧ h2 = false ∧ h3 = false ∧ h4 = false) ∨ (h0 = true ∧ h1 = true ∧ h2 = true ∧ h3 = false ∧ h4 = false) ∨ (h0 = true ∧ h1 = false ∧ h2 = false ∧ h3 = true ∧ h4 = false) ∨ (h0 = true ∧ h1 = true ∧ h2 = false ∧ h3 = true ∧ h4 = false) ∨ (h0 = true ∧ h1 = false ∧ h2 = false ∧ h3 = false ∧ h4 = true) ∨ (h0 = true ∧ h1 = false ∧ h2 = false ∧ h3 = false ∧ h4 = false)
def C4 (h5 h6 h7 h8 h9 : Bool) : Prop := (h5 = false ∧ h6 = true ∧ h7 = true ∧ h8 = false ∧ h9 = false) ∨ (h5 = false ∧ h6 = false ∧ h7 = false ∧ h8 = false ∧ h9 = false) ∨ (h5 = false ∧ h6 = false ∧ h7 = false ∧ h8 = false ∧ h9 = true) ∨ (h5 = false ∧ h6 = false ∧ h7 = false ∧ h8 = true ∧ h9 = false) ∨ (h5 = true ∧ h6 = true ∧ h7 = false ∧ h8 = false ∧ h9 = false)
theorem has_C2 {k : Int} (hk : 1 ≤ k ∧ k ≤ 14) : C2 (decide (hP k)) (decide (hD k)) (decide (k = 3)) (decide (hV k)) (decide (hW k)) := by
  have h : k = 1 ∨ k = 2 ∨ k = 3 ∨ k = 4 ∨ k = 5 ∨ k = 6 ∨ k = 7 ∨ k = 8 ∨ k = 9 ∨ k = 10 ∨ k = 11 ∨ k = 12 ∨ k = 13 ∨ k = 14 := by omega
  unfold C2
  rcases h with rfl | rfl | rfl | rfl | rfl | rfl | rfl | rfl | rfl | rfl | rfl | rfl | rfl | rfl <;> decide
theorem has_C4 {k : Int} (hk : 1 ≤ k ∧ k ≤ 14) : C4 (decide (k = 14)) (decide (hL k)) (decide (k = 1)) (decide (k = 12)) (decide (k = 11)) := by
  have h : k = 1 ∨ k = 2 ∨ k = 3 ∨ k = 4 ∨ k = 5 ∨ k = 6 ∨ k = 7 ∨ k = 8 ∨ k = 9 ∨ k = 10 ∨ k = 11 ∨ k = 12 ∨ k = 13 ∨ k = 14 := by omega
  unfold C4
  rcases h with rfl | rfl | rfl | rfl | rfl | rfl | rfl | rfl | rfl | rfl | rfl | rfl | rfl | rfl <;> decide
theorem fits_bool (k x s t : Int) (path data : List UInt8) (fl ve : Int) (wa : Bool) (so la ti fr : Int) (ms : List Mem) (np : Nat) (hk : 1 ≤ k ∧ k ≤ 14) :
    decide (FitsA ⟨k, x, s, t, path, data, fl, ve, wa, so, la, ti, fr, ms⟩ np) = (!z1 (decide (hP k)) (decide (hD k)) (decide (k = 3)) (decide (hV k)) (decide (hW k)) path data fl ve wa && (!z2 (decide (k = 14)) (decide (hL k)) (decide (k = 1)) (decide (k = 12)) (decide (k = 11)) so la ti fr ms.length np && (!z3 path.length data.length fl ve la fr ms.length && z4 (decide (k = 14)) (decide (k = 1)) so ti))) := by
  have e1 : (!path.isEmpty) = true ↔ ¬ path = [] := by cases path <;> simp
  have e2 : decide (0 < (data.length : Int)) = true ↔ ¬ data = [] := by cases data <;> simp
  have e3 : decide (0 < (ms.length : Int)) = true ↔ ¬ ms = [] := by cases ms <;> simp
  have e4 : decide (0 < (np : Int)) = true ↔ ¬ np = 0 := by simp; omega
  rw [Bool.eq_iff_iff, decide_eq_true_eq]
  simp only [Bool.and_eq_true, Bool.not_eq_true', ← Bool.not_eq_true]
  unfold z1 z2 z3 z4 FitsA ZeroA LimA
  simp only [Bool.or_eq_true, Bool.and_eq_true, e1, e2, e3, e4, bne_iff_ne, Bool.not_eq_true', decide_eq_false_iff_not, decide_eq_true_eq, ne_eq]
  have hb : (wa = false) ↔ ¬ wa = true := by cases wa <;> simp
  have l1 : ((path.length : Int) ≤ 220 ↔ path.length ≤ 220) := by omega
  constructor
  · rintro ⟨-, ⟨a1, a2, a3, a4, a5, a6, a7, a8, a9, a10⟩, b1, b2, b3, b4, b5, b6, b7, b8, b9, b10⟩
    refine ⟨?_, ?_, ?_, ?_, ?_⟩
    · rintro (⟨h, h'⟩ | ⟨h, h'⟩ | ⟨h, h'⟩ | ⟨h, h'⟩ | ⟨h, h'⟩)
      · exact h' (a1.resolve_left h)
      · exact h' (a2.resolve_left h)
      · exact h' (a3.resolve_left h)
      · exact h' (a4.resolve_left h)
      · exact hb.1 (a5.resolve_left h) h'
    · rintro (⟨h, h'⟩ | ⟨h, h'⟩ | ⟨h, h'⟩ | ⟨h, h'⟩ | ⟨h, h'⟩)
      · exact h' (a6.resolve_left h)
      · exact h' (a7.resolve_left h)
      · exact h' (a8.resolve_left h)
      · have := a9.resolve_left h; exact h'.elim (fun q => q this.1) (fun q => q this.2)
      · exact h' (a10.resolve_left h)
    · omega
    · by_cases h : k = 14
      · exact .inr (b9 h)
      · exact .inl h
    · by_cases h : k = 1
      · exact .inr (b10 h)
      · exact .inl h
  · rintro ⟨a, a', a'', c, c'⟩
    refine ⟨hk, ⟨?_, ?_, ?_, ?_, ?_, ?_, ?_, ?_, ?_, ?_⟩, by omega, by omega, by omega, by omega, by omega, by omega, by omega, by omega, fun h => c.resolve_left (fun q => q h), fun h => c'.resolve_left (fun q => q h)⟩
    · exact Classical.byContradiction fun h => a (.inl (by simpa using h))
    · exact Classical.byContradiction fun h => a (.inr (.inl (by simpa using h)))
    · exact Classical.byContradiction fun h => a (.inr (.inr (.inl (by simpa using h))))
    · exact Classical.byContradiction fun h => a (.inr (.inr (.inr (.inl (by simpa using h)))))
    · exact Classical.byContradiction fun h => a (.inr (.inr (.inr (.inr (by simpa using h)))))
    · exact Classical.byContradiction fun h => a' (.inl (by simpa using h))
    · exact Classical.byContradiction fun h => a' (.inr (.inl (by simpa using h)))
    · exact Classical.byContradiction fun h => a' (.inr (.inr (.inl (by simpa using h))))
    · refine Classical.byContradiction fun h => a' (.inr (.inr (.inr (.inl ?_))))
      rw [not_or] at h
      exact ⟨h.1, Classical.byContradiction fun q => h.2 (by rw [not_or, Classical.not_not, Classical.not_not] at q; exact q)⟩
    · exact Classical.byContradiction fun h => a' (.inr (.inr (.inr (.inr (by simpa using h)))))

set_option maxRecDepth 8000 in
theorem rfits_no (f : Fa) (p : Pl) (np : Nat) (w : World) (hk : ¬ (1 ≤ f.k ∧ f.k ≤ 14)) :
    Calls Tryd.prog 37 #[aval f p np] w fun e w' => e = .returned (.bool false) ∧ Fr NoB w w' := by
  obtain ⟨k, x, s, t, path, data, fl, ve, wa, so, la, ti, fr, ms⟩ := f
  obtain ⟨A, c, B, d, P, e'⟩ := p
  have HOF := Lib.hid (fun W => rof_no k hk W)
  simp only [aval, acells]
  clear hk
  have k0 := (cells_of (heap_alloc_new w (.cells #[.int .u8 k, .int .i64 x, .int .i64 s, .int .i64 t, .string ⟨path.toArray⟩, .slice A data.length c, .int .i64 fl, .int .i64 ve, .bool wa, .int .u8 so, .int .i64 la, .int .i64 ti, .int .i64 fr, .slice B ms.length d, .slice P np e'] 29)) 0).1
  simp only [List.getElem?_toArray, List.getElem?_cons_zero] at k0
  have FA := Lib.hid ((Fr.refl NoB w).alloc (.cells #[.int .u8 k, .int .i64 x, .int .i64 s, .int .i64 t, .string ⟨path.toArray⟩, .slice A data.length c, .int .i64 fl, .int .i64 ve, .bool wa, .int .u8 so, .int .i64 la, .int .i64 ti, .int .i64 fr, .slice B ms.length d, .slice P np e'] 29))
  go_enter Tryd.func37, Tryd.ntmps37
  go_wp2_with (fail)
  refine (HOF.out _).mono ?_
  rintro e w1 ⟨rfl, f1⟩
  go_wp2_with (first | (with_reducible refine held_store (ty := 111) ?_) | fail)
  unfold Held
  refine wpList_store_row rfl 111 _ _ rfl w1.heap.size #[.bool false, .bool false, .bool false, .bool false, .bool false, .bool false, .bool false, .bool false, .bool false, .bool false] ?_ ?_ _ _ (heap_alloc_new w1 _) hsize10 rfl (by simp [Value.oneCell']) ?_
  · rfl
  · rfl
  rw [World.setRow_alloc_new]
  go_wp2
  go_ret
  exact ⟨rfl, (FA.out.then f1).alloc _⟩
set_option maxHeartbeats 6400000 in
set_option maxRecDepth 8000 in
theorem rfits_core (k x s t : Int) (path data : List UInt8) (fl ve : Int) (wa : Bool) (so la ti fr : Int) (ms : List Mem) (p : Pl) (np : Nat) (h0 h1 h2 h3 h4 h5 h6 h7 h8 h9 : Bool) (hc2 : C2 h0 h1 h2 h3 h4) (hc4 : C4 h5 h6 h7 h8 h9) (w : World)
    (hof : ∀ W, Calls Tryd.prog 68 #[.int .u8 k] W fun e w' => e = .returned (.tuple #[.agg #[.bool h0, .bool h1, .bool h2, .bool h3, .bool h4, .bool h5, .bool h6, .bool h7, .bool h8, .bool h9], .bool true]) ∧ Fr NoB W w') :
    Calls Tryd.prog 37 #[aval ⟨k, x, s, t, path, data, fl, ve, wa, so, la, ti, fr, ms⟩ p np] w fun e w' => e = .returned (.bool (!z1 h0 h1 h2 h3 h4 path data fl ve wa && (!z2 h5 h6 h7 h8 h9 so la ti fr ms.length np && (!z3 path.length data.length fl ve la fr ms.length && z4 h5 h7 so ti)))) ∧ Fr NoB w w' := by
  obtain ⟨A, c, B, d, P, e'⟩ := p
  simp only [aval, acells]
  have HOF := Lib.hid hof
  have HC2 := Lib.hid hc2
  have HC4 := Lib.hid hc4
  obtain ⟨R1, hR1⟩ : ∃ R, z1 h0 h1 h2 h3 h4 path data fl ve wa = R := ⟨_, rfl⟩
  obtain ⟨R2, hR2⟩ : ∃ R, z2 h5 h6 h7 h8 h9 so la ti fr ms.length np = R := ⟨_, rfl⟩
  obtain ⟨R3, hR3⟩ : ∃ R, z3 path.length data.length fl ve la fr ms.length = R := ⟨_, rfl⟩
  obtain ⟨R4, hR4⟩ : ∃ R, z4 h5 h7 so ti = R := ⟨_, rfl⟩
  rw [hR1, hR2, hR3, hR4]
  have HR1 := Lib.hid hR1
  have HR2 := Lib.hid hR2
  have HR3 := Lib.hid hR3
  have HR4 := Lib.hid hR4
  clear hof hc2 hc4 hR1 hR2 hR3 hR4
  have HA := Lib.hid (heap_alloc_new w (.cells #[.int .u8 k, .int .i64 x, .int .i64 s, .int .i64 t, .string ⟨path.toArray⟩, .slice A data.length c, .int .i64 fl, .int .i64 ve, .bool wa, .int .u8 so, .int .i64 la, .int .i64 ti, .int .i64 fr, .slice B ms.length d, .slice P np e'] 29))
  have FA := Lib.hid ((Fr.refl NoB w).alloc (.cells #[.int .u8 k, .int .i64 x, .int .i64 s, .int .i64 t, .string ⟨path.toArray⟩, .slice A data.length c, .int .i64 fl, .int .i64 ve, .bool wa, .int .u8 so, .int .i64 la, .int .i64 ti, .int .i64 fr, .slice B ms.length d, .slice P np e'] 29))
  have k0 := (cells_of HA.out 0).1
  simp only [List.getElem?_toArray, List.getElem?_cons_zero] at k0
  go_enter Tryd.func37, Tryd.ntmps37
  go_wp2_with (fail)
  refine (HOF.out _).mono ?_
  rintro e w1 ⟨rfl, f1⟩
  have HA1 := Lib.hid (f1.at_ HA.out (fun x => x))
  have F1 := Lib.hid (FA.out.then f1)
  clear f1 k0 HA FA
  generalize w.heap.size = NA at HA1 ⊢
  go_wp2_with (first | (with_reducible refine held_store (ty := 111) ?_) | fail)
  unfold Held
  refine wpList_store_row rfl 111 _ _ rfl w1.heap.size #[.bool h0, .bool h1, .bool h2, .bool h3, .bool h4, .bool h5, .bool h6, .bool h7, .bool h8, .bool h9] ?_ ?_ _ _ (heap_alloc_new w1 _) hsize10 rfl (by simp [Value.oneCell']) ?_
  · rfl
  · rfl
  rw [World.setRow_alloc_new]
  have hh := heap_alloc_new w1 (.cells #[.bool h0, .bool h1, .bool h2, .bool h3, .bool h4, .bool h5, .bool h6, .bool h7, .bool h8, .bool h9] 111)
  have f2 := (Fr.refl NoB w1).alloc (.cells #[.bool h0, .bool h1, .bool h2, .bool h3, .bool h4, .bool h5, .bool h6, .bool h7, .bool h8, .bool h9] 111)
  generalize w1.alloc (.cells #[.bool h0, .bool h1, .bool h2, .bool h3, .bool h4, .bool h5, .bool h6, .bool h7, .bool h8, .bool h9] 111) = w2 at hh f2 ⊢
  generalize w1.heap.size = NH at hh ⊢
  have HH := Lib.hid hh
  have HA2 := Lib.hid (f2.at_ HA1.out (fun x => x))
  have F2 := Lib.hid (F1.out.then f2)
  clear hh f2 HA1 F1
  have c4 := (cells_of HA2.out 4).1
  have c5 := (cells_of HA2.out 5).1
  have c6 := (cells_of HA2.out 6).1
  have c7 := (cells_of HA2.out 7).1
  have c8 := (cells_of HA2.out 8).1
  have c9 := (cells_of HA2.out 9).1
  have c10 := (cells_of HA2.out 10).1
  have c11 := (cells_of HA2.out 11).1
  have c12 := (cells_of HA2.out 12).1
  have c13 := (cells_of HA2.out 13).1
  have c14 := (cells_of HA2.out 14).1
  have d0 := (cells_of HH.out 0).1
  have d1 := (cells_of HH.out 1).1
  have d2 := (cells_of HH.out 2).1
  have d3 := (cells_of HH.out 3).1
  have d4 := (cells_of HH.out 4).1
  have d5 := (cells_of HH.out 5).1
  have d6 := (cells_of HH.out 6).1
  have d7 := (cells_of HH.out 7).1
  have d8 := (cells_of HH.out 8).1
  have d9 := (cells_of HH.out 9).1
  simp only [List.getElem?_toArray, List.getElem?_cons_zero, List.getElem?_cons_succ] at c4 c5 c6 c7 c8 c9 c10 c11 c12 c13 c14 d0 d1 d2 d3 d4 d5 d6 d7 d8 d9
  go_upto_region 2 with (fail)
  go_cut [0, 62] (fun _ r W => r = .bool R1 ∧ w2 = W)
  case first =>
    clear HOF c9 c10 c11 c12 c13 c14 d5 d6 d7 d8 d9
    have hcl := HC2.out
    unfold C2 at hcl
    rcases hcl with ⟨rfl, rfl, rfl, rfl, rfl⟩ | ⟨rfl, rfl, rfl, rfl, rfl⟩ | ⟨rfl, rfl, rfl, rfl, rfl⟩ | ⟨rfl, rfl, rfl, rfl, rfl⟩ | ⟨rfl, rfl, rfl, rfl, rfl⟩ | ⟨rfl, rfl, rfl, rfl, rfl⟩
    · as_aux_lemma =>
      have hx0 : (path.isEmpty = false) ∨ (path.isEmpty = true) := by cases path <;> simp
      rcases hx0 with qp | qp
      · have E0 : Hid (path.isEmpty = false) := Lib.hid (qp)
        go_wp2
        all_goals go_meet
        all_goals exact ⟨by rw [← HR1.out]; simp only [z1, E0.out, Bool.not_false, Bool.true_and, Bool.and_true, Bool.true_or], rfl⟩
      have E0 : Hid (path.isEmpty = true) := Lib.hid (qp)
      have hx1 : (¬ data = []) ∨ (data = []) := by exact (Classical.em _).symm
      rcases hx1 with qd | qd
      · have qd2 : 0 < data.length := List.length_pos_iff.2 qd
        have qd3 : (0 : Int) < (data.length : Int) := by omega
        have E1 : Hid (decide (0 < (data.length : Int)) = true) := Lib.hid (decide_eq_true (by have := List.length_pos_iff.2 qd; omega))
        go_wp2
        all_goals go_meet
        all_goals exact ⟨by rw [← HR1.out]; simp only [z1, E0.out, E1.out, Bool.not_false, Bool.not_true, Bool.true_and, Bool.and_true, Bool.and_false, Bool.true_or, Bool.or_true], rfl⟩
      have E1 : Hid (decide (0 < (data.length : Int)) = false) := Lib.hid (decide_eq_false (by rw [qd]; simp))
      have hx2 : ((fl != 0) = true) ∨ ((fl != 0) = false) := by simp only [← Bool.not_eq_true]; exact Classical.em _
      rcases hx2 with qf | qf
      · have E2 : Hid ((fl != 0) = true) := Lib.hid (qf)
        go_wp2
        all_goals go_meet
        all_goals exact ⟨by rw [← HR1.out]; simp only [z1, E0.out, E1.out, E2.out, Bool.not_false, Bool.not_true, Bool.true_and, Bool.and_true, Bool.and_false, Bool.true_or, Bool.or_true], rfl⟩
      have E2 : Hid ((fl != 0) = false) := Lib.hid (qf)
      have hx3 : ((ve != 0) = true) ∨ ((ve != 0) = false) := by simp only [← Bool.not_eq_true]; exact Classical.em _
      rcases hx3 with qv | qv
      · have E3 : Hid ((ve != 0) = true) := Lib.hid (qv)
        go_wp2
        all_goals go_meet
        all_goals exact ⟨by rw [← HR1.out]; simp only [z1, E0.out, E1.out, E2.out, E3.out, Bool.not_false, Bool.not_true, Bool.true_and, Bool.and_true, Bool.and_false, Bool.true_or, Bool.or_true], rfl⟩
      have E3 : Hid ((ve != 0) = false) := Lib.hid (qv)
      have hx4 : (wa = true) ∨ (wa = false) := by cases wa <;> simp
      rcases hx4 with qw | qw
      · have E4 : Hid (wa = true) := Lib.hid (qw)
        go_wp2
        all_goals go_meet
        all_goals exact ⟨by rw [← HR1.out]; simp only [z1, E0.out, E1.out, E2.out, E3.out, E4.out, Bool.not_false, Bool.not_true, Bool.and_true, Bool.and_false, Bool.or_true], rfl⟩
      have E4 : Hid (wa = false) := Lib.hid (qw)
      go_wp2
      all_goals go_meet
      all_goals exact ⟨by rw [← HR1.out]; simp only [z1, E0.out, E1.out, E2.out, E3.out, E4.out, Bool.not_false, Bool.not_true, Bool.and_false, Bool.or_false], rfl⟩
    · as_aux_lemma =>
      have hx3 : ((ve != 0) = true) ∨ ((ve != 0) = false) := by simp only [← Bool.not_eq_true]; exact Classical.em _
      rcases hx3 with qv | qv
      · have E3 : Hid ((ve != 0) = true) := Lib.hid (qv)
        go_wp2
        all_goals go_meet
        all_goals exact ⟨by rw [← HR1.out]; simp only [z1, E3.out, Bool.not_false, Bool.not_true, Bool.true_and, Bool.and_true, Bool.false_and, Bool.true_or, Bool.or_true], rfl⟩
      have E3 : Hid ((ve != 0) = false) := Lib.hid (qv)
      have hx4 : (wa = true) ∨ (wa = false) := by cases wa <;> simp
      rcases hx4 with qw | qw
      · have E4 : Hid (wa = true) := Lib.hid (qw)
        go_wp2
        all_goals go_meet
        all_goals exact ⟨by rw [← HR1.out]; simp only [z1, E3.out, E4.out, Bool.not_false, Bool.not_true, Bool.and_true, Bool.false_and, Bool.and_false, Bool.or_true], rfl⟩
      have E4 : Hid (wa = false) := Lib.hid (qw)
      go_wp2
      all_goals go_meet
      all_goals exact ⟨by rw [← HR1.out]; simp only [z1, E3.out, E4.out, Bool.not_false, Bool.not_true, Bool.false_and, Bool.and_false, Bool.or_false], rfl⟩
    · as_aux_lemma =>
      have hx1 : (¬ data = []) ∨ (data = []) := by exact (Classical.em _).symm
      rcases hx1 with qd | qd
      · have qd2 : 0 < data.length := List.length_pos_iff.2 qd
        have qd3 : (0 : Int) < (data.length : Int) := by omega
        have E1 : Hid (decide (0 < (data.length : Int)) = true) := Lib.hid (decide_eq_true (by have := List.length_pos_iff.2 qd; omega))
        go_wp2
        all_goals go_meet
        all_goals exact ⟨by rw [← HR1.out]; simp only [z1, E1.out, Bool.not_false, Bool.not_true, Bool.true_and, Bool.and_true, Bool.false_and, Bool.true_or, Bool.or_true, Bool.false_or], rfl⟩
      have E1 : Hid (decide (0 < (data.length : Int)) = false) := Lib.hid (decide_eq_false (by rw [qd]; simp))
      have hx2 : ((fl != 0) = true) ∨ ((fl != 0) = false) := by simp only [← Bool.not_eq_true]; exact Classical.em _
      rcases hx2 with qf | qf
      · have E2 : Hid ((fl != 0) = true) := Lib.hid (qf)
        go_wp2
        all_goals go_meet
        all_goals exact ⟨by rw [← HR1.out]; simp only [z1, E1.out, E2.out, Bool.not_false, Bool.not_true, Bool.true_and, Bool.and_true, Bool.false_and, Bool.and_false, Bool.true_or, Bool.or_true, Bool.false_or], rfl⟩
      have E2 : Hid ((fl != 0) = false) := Lib.hid (qf)
      have hx4 : (wa = true) ∨ (wa = false) := by cases wa <;> simp
      rcases hx4 with qw | qw
      · have E4 : Hid (wa = true) := Lib.hid (qw)
        go_wp2
        all_goals go_meet
        all_goals exact ⟨by rw [← HR1.out]; simp only [z1, E1.out, E2.out, E4.out, Bool.not_false, Bool.not_true, Bool.and_true, Bool.false_and, Bool.and_false, Bool.or_true], rfl⟩
      have E4 : Hid (wa = false) := Lib.hid (qw)
      go_wp2
      all_goals go_meet
      all_goals exact ⟨by rw [← HR1.out]; simp only [z1, E1.out, E2.out, E4.out, Bool.not_false, Bool.not_true, Bool.false_and, Bool.and_false, Bool.or_false], rfl⟩
    · as_aux_lemma =>
      have hx2 : ((fl != 0) = true) ∨ ((fl != 0) = false) := by simp only [← Bool.not_eq_true]; exact Classical.em _
      rcases hx2 with qf | qf
      · have E2 : Hid ((fl != 0) = true) := Lib.hid (qf)
        go_wp2
        all_goals go_meet
        all_goals exact ⟨by rw [← HR1.out]; simp only [z1, E2.out, Bool.not_false, Bool.not_true, Bool.true_and, Bool.and_true, Bool.false_and, Bool.true_or, Bool.or_true, Bool.false_or], rfl⟩
      have E2 : Hid ((fl != 0) = false) := Lib.hid (qf)
      have hx4 : (wa = true) ∨ (wa = false) := by cases wa <;> simp
      rcases hx4 with qw | qw
      · have E4 : Hid (wa = true) := Lib.hid (qw)
        go_wp2
        all_goals go_meet
        all_goals exact ⟨by rw [← HR1.out]; simp only [z1, E2.out, E4.out, Bool.not_false, Bool.not_true, Bool.and_true, Bool.false_and, Bool.and_false, Bool.or_true], rfl⟩
      have E4 : Hid (wa = false) := Lib.hid (qw)
      go_wp2
      all_goals go_meet
      all_goals exact ⟨by rw [← HR1.out]; simp only [z1, E2.out, E4.out, Bool.not_false, Bool.not_true, Bool.false_and, Bool.and_false, Bool.or_false], rfl⟩
    · as_aux_lemma =>
      have hx1 : (¬ data = []) ∨ (data = []) := by exact (Classical.em _).symm
      rcases hx1 with qd | qd
      · have qd2 : 0 < data.length := List.length_pos_iff.2 qd
        have qd3 : (0 : Int) < (data.length : Int) := by omega
        have E1 : Hid (decide (0 < (data.length : Int)) = true) := Lib.hid (decide_eq_true (by have := List.length_pos_iff.2 qd; omega))
        go_wp2
        all_goals go_meet
        all_goals exact ⟨by rw [← HR1.out]; simp only [z1, E1.out, Bool.not_false, Bool.not_true, Bool.true_and, Bool.and_true, Bool.false_and, Bool.true_or, Bool.or_true, Bool.or_false], rfl⟩
      have E1 : Hid (decide (0 < (data.length : Int)) = false) := Lib.hid (decide_eq_false (by rw [qd]; simp))
      have hx2 : ((fl != 0) = true) ∨ ((fl != 0) = false) := by simp only [← Bool.not_eq_true]; exact Classical.em _
      rcases hx2 with qf | qf
      · have E2 : Hid ((fl != 0) = true) := Lib.hid (qf)
        go_wp2
        all_goals go_meet
        all_goals exact ⟨by rw [← HR1.out]; simp only [z1, E1.out, E2.out, Bool.not_false, Bool.not_true, Bool.true_and, Bool.and_true, Bool.false_and, Bool.and_false, Bool.true_or, Bool.or_true, Bool.or_false], rfl⟩
      have E2 : Hid ((fl != 0) = false) := Lib.hid (qf)
      have hx3 : ((ve != 0) = true) ∨ ((ve != 0) = false) := by simp only [← Bool.not_eq_true]; exact Classical.em _
      rcases hx3 with qv | qv
      · have E3 : Hid ((ve != 0) = true) := Lib.hid (qv)
        go_wp2
        all_goals go_meet
        all_goals exact ⟨by rw [← HR1.out]; simp only [z1, E1.out, E2.out, E3.out, Bool.not_false, Bool.not_true, Bool.and_true, Bool.false_and, Bool.and_false, Bool.or_true, Bool.or_false], rfl⟩
      have E3 : Hid ((ve != 0) = false) := Lib.hid (qv)
      go_wp2
      all_goals go_meet
      all_goals exact ⟨by rw [← HR1.out]; simp only [z1, E1.out, E2.out, E3.out, Bool.not_false, Bool.not_true, Bool.false_and, Bool.and_false, Bool.or_false], rfl⟩
    · as_aux_lemma =>
      have hx1 : (¬ data = []) ∨ (data = []) := by exact (Classical.em _).symm
      rcases hx1 with qd | qd
      · have qd2 : 0 < data.length := List.length_pos_iff.2 qd
        have qd3 : (0 : Int) < (data.length : Int) := by omega
        have E1 : Hid (decide (0 < (data.length : Int)) = true) := Lib.hid (decide_eq_true (by have := List.length_pos_iff.2 qd; omega))
        go_wp2
        all_goals go_meet
        all_goals exact ⟨by rw [← HR1.out]; simp only [z1, E1.out, Bool.not_false, Bool.not_true, Bool.true_and, Bool.and_true, Bool.false_and, Bool.true_or, Bool.or_true], rfl⟩
      have E1 : Hid (decide (0 < (data.length : Int)) = false) := Lib.hid (decide_eq_false (by rw [qd]; simp))
      have hx2 : ((fl != 0) = true) ∨ ((fl != 0) = false) := by simp only [← Bool.not_eq_true]; exact Classical.em _
      rcases hx2 with qf | qf
      · have E2 : Hid ((fl != 0) = true) := Lib.hid (qf)
        go_wp2
        all_goals go_meet
        all_goals exact ⟨by rw [← HR1.out]; simp only [z1, E1.out, E2.out, Bool.not_false, Bool.not_true, Bool.true_and, Bool.and_true, Bool.false_and, Bool.and_false, Bool.true_or, Bool.or_true], rfl⟩
      have E2 : Hid ((fl != 0) = false) := Lib.hid (qf)
      have hx3 : ((ve != 0) = true) ∨ ((ve != 0) = false) := by simp only [← Bool.not_eq_true]; exact Classical.em _
      rcases hx3 with qv | qv
      · have E3 : Hid ((ve != 0) = true) := Lib.hid (qv)
        go_wp2
        all_goals go_meet
        all_goals exact ⟨by rw [← HR1.out]; simp only [z1, E1.out, E2.out, E3.out, Bool.not_false, Bool.not_true, Bool.true_and, Bool.and_true, Bool.false_and, Bool.and_false, Bool.true_or, Bool.or_true], rfl⟩
      have E3 : Hid ((ve != 0) = false) := Lib.hid (qv)
      have hx4 : (wa = true) ∨ (wa = false) := by cases wa <;> simp
      rcases hx4 with qw | qw
      · have E4 : Hid (wa = true) := Lib.hid (qw)
        go_wp2
        all_goals go_meet
        all_goals exact ⟨by rw [← HR1.out]; simp only [z1, E1.out, E2.out, E3.out, E4.out, Bool.not_false, Bool.not_true, Bool.and_true, Bool.false_and, Bool.and_false, Bool.or_true], rfl⟩
      have E4 : Hid (wa = false) := Lib.hid (qw)
      go_wp2
      all_goals go_meet
      all_goals exact ⟨by rw [← HR1.out]; simp only [z1, E1.out, E2.out, E3.out, E4.out, Bool.not_false, Bool.not_true, Bool.false_and, Bool.and_false, Bool.or_false], rfl⟩
  case rest =>
    obtain ⟨rfl, rfl⟩ := hcut
    cases R1
    rotate_left
    · go_wp2
      go_ret
      exact ⟨rfl, F2.out⟩
    go_upto_region 4 with (fail)
    go_cut [0, 117] (fun _ r W => r = .bool R2 ∧ w2 = W)
    case first =>
      clear HOF c4 c5 c6 c7 c8 d0 d1 d2 d3 d4
      have hcl := HC4.out
      unfold C4 at hcl
      rcases hcl with ⟨rfl, rfl, rfl, rfl, rfl⟩ | ⟨rfl, rfl, rfl, rfl, rfl⟩ | ⟨rfl, rfl, rfl, rfl, rfl⟩ | ⟨rfl, rfl, rfl, rfl, rfl⟩ | ⟨rfl, rfl, rfl, rfl, rfl⟩
      · as_aux_lemma =>
        have hx5 : ((so != 0) = true) ∨ ((so != 0) = false) := by simp only [← Bool.not_eq_true]; exact Classical.em _
        rcases hx5 with qs | qs
        · have E5 : Hid ((so != 0) = true) := Lib.hid (qs)
          go_wp2
          all_goals go_meet
          all_goals exact ⟨by rw [← HR2.out]; simp only [z2, E5.out, Bool.not_false, Bool.not_true, Bool.true_and, Bool.and_true, Bool.false_and, Bool.true_or, Bool.false_or], rfl⟩
        have E5 : Hid ((so != 0) = false) := Lib.hid (qs)
        have hx8 : ((fr != 0) = true) ∨ ((fr != 0) = false) := by simp only [← Bool.not_eq_true]; exact Classical.em _
        rcases hx8 with qfr | qfr
        · have E8 : Hid ((fr != 0) = true) := Lib.hid (qfr)
          go_wp2
          all_goals go_meet
          all_goals exact ⟨by rw [← HR2.out]; simp only [z2, E5.out, E8.out, Bool.not_false, Bool.not_true, Bool.true_and, Bool.and_true, Bool.false_and, Bool.and_false, Bool.true_or, Bool.or_true], rfl⟩
        have E8 : Hid ((fr != 0) = false) := Lib.hid (qfr)
        have hx18 : (¬ ms = []) ∨ (ms = []) := by exact (Classical.em _).symm
        rcases hx18 with qm | qm
        · have qm2 : 0 < ms.length := List.length_pos_iff.2 qm
          have qm3 : (0 : Int) < (ms.length : Int) := by omega
          have E18 : Hid (decide (0 < (ms.length : Int)) = true) := Lib.hid (decide_eq_true (by have := List.length_pos_iff.2 qm; omega))
          go_wp2
          all_goals go_meet
          all_goals exact ⟨by rw [← HR2.out]; simp only [z2, E5.out, E8.out, E18.out, Bool.not_false, Bool.not_true, Bool.true_and, Bool.and_true, Bool.false_and, Bool.and_false, Bool.true_or, Bool.or_true], rfl⟩
        have E18 : Hid (decide (0 < (ms.length : Int)) = false) := Lib.hid (decide_eq_false (by rw [qm]; simp))
        have hx9 : (0 < np) ∨ (¬ 0 < np) := by exact Classical.em _
        rcases hx9 with qn | qn
        · have qn3 : (0 : Int) < (np : Int) := by omega
          have E9 : Hid (decide (0 < (np : Int)) = true) := Lib.hid (decide_eq_true (by omega))
          go_wp2
          all_goals go_meet
          all_goals exact ⟨by rw [← HR2.out]; simp only [z2, E5.out, E8.out, E18.out, E9.out, Bool.not_false, Bool.not_true, Bool.and_true, Bool.false_and, Bool.and_false, Bool.or_true, Bool.or_false], rfl⟩
        have E9 : Hid (decide (0 < (np : Int)) = false) := Lib.hid (decide_eq_false (by omega))
        have qn3 : ¬ (0 : Int) < (np : Int) := by omega
        go_wp2
        all_goals go_meet
        all_goals exact ⟨by rw [← HR2.out]; simp only [z2, E5.out, E8.out, E18.out, E9.out, Bool.not_false, Bool.not_true, Bool.false_and, Bool.and_false, Bool.or_false], rfl⟩
      · as_aux_lemma =>
        have hx5 : ((so != 0) = true) ∨ ((so != 0) = false) := by simp only [← Bool.not_eq_true]; exact Classical.em _
        rcases hx5 with qs | qs
        · have E5 : Hid ((so != 0) = true) := Lib.hid (qs)
          go_wp2
          all_goals go_meet
          all_goals exact ⟨by rw [← HR2.out]; simp only [z2, E5.out, Bool.not_false, Bool.true_and, Bool.and_true, Bool.true_or], rfl⟩
        have E5 : Hid ((so != 0) = false) := Lib.hid (qs)
        have hx6 : ((la != 0) = true) ∨ ((la != 0) = false) := by simp only [← Bool.not_eq_true]; exact Classical.em _
        rcases hx6 with ql | ql
        · have E6 : Hid ((la != 0) = true) := Lib.hid (ql)
          go_wp2
          all_goals go_meet
          all_goals exact ⟨by rw [← HR2.out]; simp only [z2, E5.out, E6.out, Bool.not_false, Bool.true_and, Bool.and_true, Bool.and_false, Bool.true_or, Bool.or_true], rfl⟩
        have E6 : Hid ((la != 0) = false) := Lib.hid (ql)
        have hx7 : ((ti != 0) = true) ∨ ((ti != 0) = false) := by simp only [← Bool.not_eq_true]; exact Classical.em _
        rcases hx7 with qt | qt
        · have E7 : Hid ((ti != 0) = true) := Lib.hid (qt)
          go_wp2
          all_goals go_meet
          all_goals exact ⟨by rw [← HR2.out]; simp only [z2, E5.out, E6.out, E7.out, Bool.not_false, Bool.true_and, Bool.and_true, Bool.and_false, Bool.true_or, Bool.or_true], rfl⟩
        have E7 : Hid ((ti != 0) = false) := Lib.hid (qt)
        have hx8 : ((fr != 0) = true) ∨ ((fr != 0) = false) := by simp only [← Bool.not_eq_true]; exact Classical.em _
        rcases hx8 with qfr | qfr
        · have E8 : Hid ((fr != 0) = true) := Lib.hid (qfr)
          go_wp2
          all_goals go_meet
          all_goals exact ⟨by rw [← HR2.out]; simp only [z2, E5.out, E6.out, E7.out, E8.out, Bool.not_false, Bool.true_and, Bool.and_true, Bool.and_false, Bool.true_or, Bool.or_true], rfl⟩
        have E8 : Hid ((fr != 0) = false) := Lib.hid (qfr)
        have hx18 : (¬ ms = []) ∨ (ms = []) := by exact (Classical.em _).symm
        rcases hx18 with qm | qm
        · have qm2 : 0 < ms.length := List.length_pos_iff.2 qm
          have qm3 : (0 : Int) < (ms.length : Int) := by omega
          have E18 : Hid (decide (0 < (ms.length : Int)) = true) := Lib.hid (decide_eq_true (by have := List.length_pos_iff.2 qm; omega))
          go_wp2
          all_goals go_meet
          all_goals exact ⟨by rw [← HR2.out]; simp only [z2, E5.out, E6.out, E7.out, E8.out, E18.out, Bool.not_false, Bool.true_and, Bool.and_true, Bool.and_false, Bool.true_or, Bool.or_true], rfl⟩
        have E18 : Hid (decide (0 < (ms.length : Int)) = false) := Lib.hid (decide_eq_false (by rw [qm]; simp))
        have hx9 : (0 < np) ∨ (¬ 0 < np) := by exact Classical.em _
        rcases hx9 with qn | qn
        · have qn3 : (0 : Int) < (np : Int) := by omega
          have E9 : Hid (decide (0 < (np : Int)) = true) := Lib.hid (decide_eq_true (by omega))
          go_wp2
          all_goals go_meet
          all_goals exact ⟨by rw [← HR2.out]; simp only [z2, E5.out, E6.out, E7.out, E8.out, E18.out, E9.out, Bool.not_false, Bool.and_true, Bool.and_false, Bool.or_true, Bool.or_false], rfl⟩
        have E9 : Hid (decide (0 < (np : Int)) = false) := Lib.hid (decide_eq_false (by omega))
        have qn3 : ¬ (0 : Int) < (np : Int) := by omega
        go_wp2
        all_goals go_meet
        all_goals exact ⟨by rw [← HR2.out]; simp only [z2, E5.out, E6.out, E7.out, E8.out, E18.out, E9.out, Bool.not_false, Bool.and_false, Bool.or_false], rfl⟩
      · as_aux_lemma =>
        have hx5 : ((so != 0) = true) ∨ ((so != 0) = false) := by simp only [← Bool.not_eq_true]; exact Classical.em _
        rcases hx5 with qs | qs
        · have E5 : Hid ((so != 0) = true) := Lib.hid (qs)
          go_wp2
          all_goals go_meet
          all_goals exact ⟨by rw [← HR2.out]; simp only [z2, E5.out, Bool.not_false, Bool.not_true, Bool.true_and, Bool.and_true, Bool.false_and, Bool.true_or, Bool.or_false], rfl⟩
        have E5 : Hid ((so != 0) = false) := Lib.hid (qs)
        have hx6 : ((la != 0) = true) ∨ ((la != 0) = false) := by simp only [← Bool.not_eq_true]; exact Classical.em _
        rcases hx6 with ql | ql
        · have E6 : Hid ((la != 0) = true) := Lib.hid (ql)
          go_wp2
          all_goals go_meet
          all_goals exact ⟨by rw [← HR2.out]; simp only [z2, E5.out, E6.out, Bool.not_false, Bool.not_true, Bool.true_and, Bool.and_true, Bool.false_and, Bool.and_false, Bool.true_or, Bool.or_true, Bool.or_false], rfl⟩
        have E6 : Hid ((la != 0) = false) := Lib.hid (ql)
        have hx7 : ((ti != 0) = true) ∨ ((ti != 0) = false) := by simp only [← Bool.not_eq_true]; exact Classical.em _
        rcases hx7 with qt | qt
        · have E7 : Hid ((ti != 0) = true) := Lib.hid (qt)
          go_wp2
          all_goals go_meet
          all_goals exact ⟨by rw [← HR2.out]; simp only [z2, E5.out, E6.out, E7.out, Bool.not_false, Bool.not_true, Bool.true_and, Bool.and_true, Bool.false_and, Bool.and_false, Bool.true_or, Bool.or_true, Bool.or_false], rfl⟩
        have E7 : Hid ((ti != 0) = false) := Lib.hid (qt)
        have hx8 : ((fr != 0) = true) ∨ ((fr != 0) = false) := by simp only [← Bool.not_eq_true]; exact Classical.em _
        rcases hx8 with qfr | qfr
        · have E8 : Hid ((fr != 0) = true) := Lib.hid (qfr)
          go_wp2
          all_goals go_meet
          all_goals exact ⟨by rw [← HR2.out]; simp only [z2, E5.out, E6.out, E7.out, E8.out, Bool.not_false, Bool.not_true, Bool.and_true, Bool.false_and, Bool.and_false, Bool.true_or, Bool.or_true, Bool.or_false], rfl⟩
        have E8 : Hid ((fr != 0) = false) := Lib.hid (qfr)
        have hx18 : (¬ ms = []) ∨ (ms = []) := by exact (Classical.em _).symm
        rcases hx18 with qm | qm
        · have qm2 : 0 < ms.length := List.length_pos_iff.2 qm
          have qm3 : (0 : Int) < (ms.length : Int) := by omega
          have E18 : Hid (decide (0 < (ms.length : Int)) = true) := Lib.hid (decide_eq_true (by have := List.length_pos_iff.2 qm; omega))
          go_wp2
          all_goals go_meet
          all_goals exact ⟨by rw [← HR2.out]; simp only [z2, E5.out, E6.out, E7.out, E8.out, E18.out, Bool.not_false, Bool.not_true, Bool.and_true, Bool.false_and, Bool.and_false, Bool.or_true, Bool.or_false], rfl⟩
        have E18 : Hid (decide (0 < (ms.length : Int)) = false) := Lib.hid (decide_eq_false (by rw [qm]; simp))
        go_wp2
        all_goals go_meet
        all_goals exact ⟨by rw [← HR2.out]; simp only [z2, E5.out, E6.out, E7.out, E8.out, E18.out, Bool.not_false, Bool.not_true, Bool.false_and, Bool.and_false, Bool.or_false], rfl⟩
      · as_aux_lemma =>
        have hx5 : ((so != 0) = true) ∨ ((so != 0) = false) := by simp only [← Bool.not_eq_true]; exact Classical.em _
        rcases hx5 with qs | qs
        · have E5 : Hid ((so != 0) = true) := Lib.hid (qs)
          go_wp2
          all_goals go_meet
          all_goals exact ⟨by rw [← HR2.out]; simp only [z2, E5.out, Bool.not_false, Bool.not_true, Bool.true_and, Bool.and_true, Bool.false_and, Bool.true_or, Bool.false_or], rfl⟩
        have E5 : Hid ((so != 0) = false) := Lib.hid (qs)
        have hx6 : ((la != 0) = true) ∨ ((la != 0) = false) := by simp only [← Bool.not_eq_true]; exact Classical.em _
        rcases hx6 with ql | ql
        · have E6 : Hid ((la != 0) = true) := Lib.hid (ql)
          go_wp2
          all_goals go_meet
          all_goals exact ⟨by rw [← HR2.out]; simp only [z2, E5.out, E6.out, Bool.not_false, Bool.not_true, Bool.true_and, Bool.and_true, Bool.false_and, Bool.and_false, Bool.true_or, Bool.or_true, Bool.false_or], rfl⟩
        have E6 : Hid ((la != 0) = false) := Lib.hid (ql)
        have hx7 : ((ti != 0) = true) ∨ ((ti != 0) = false) := by simp only [← Bool.not_eq_true]; exact Classical.em _
        rcases hx7 with qt | qt
        · have E7 : Hid ((ti != 0) = true) := Lib.hid (qt)
          go_wp2
          all_goals go_meet
          all_goals exact ⟨by rw [← HR2.out]; simp only [z2, E5.out, E6.out, E7.out, Bool.not_false, Bool.not_true, Bool.true_and, Bool.and_true, Bool.false_and, Bool.and_false, Bool.true_or, Bool.or_true, Bool.false_or], rfl⟩
        have E7 : Hid ((ti != 0) = false) := Lib.hid (qt)
        have hx9 : (0 < np) ∨ (¬ 0 < np) := by exact Classical.em _
        rcases hx9 with qn | qn
        · have qn3 : (0 : Int) < (np : Int) := by omega
          have E9 : Hid (decide (0 < (np : Int)) = true) := Lib.hid (decide_eq_true (by omega))
          go_wp2
          all_goals go_meet
          all_goals exact ⟨by rw [← HR2.out]; simp only [z2, E5.out, E6.out, E7.out, E9.out, Bool.not_false, Bool.not_true, Bool.and_true, Bool.false_and, Bool.and_false, Bool.or_true], rfl⟩
        have E9 : Hid (decide (0 < (np : Int)) = false) := Lib.hid (decide_eq_false (by omega))
        have qn3 : ¬ (0 : Int) < (np : Int) := by omega
        go_wp2
        all_goals go_meet
        all_goals exact ⟨by rw [← HR2.out]; simp only [z2, E5.out, E6.out, E7.out, E9.out, Bool.not_false, Bool.not_true, Bool.false_and, Bool.and_false, Bool.or_false], rfl⟩
      · as_aux_lemma =>
        have hx7 : ((ti != 0) = true) ∨ ((ti != 0) = false) := by simp only [← Bool.not_eq_true]; exact Classical.em _
        rcases hx7 with qt | qt
        · have E7 : Hid ((ti != 0) = true) := Lib.hid (qt)
          go_wp2
          all_goals go_meet
          all_goals exact ⟨by rw [← HR2.out]; simp only [z2, E7.out, Bool.not_false, Bool.not_true, Bool.true_and, Bool.and_true, Bool.false_and, Bool.true_or, Bool.or_true], rfl⟩
        have E7 : Hid ((ti != 0) = false) := Lib.hid (qt)
        have hx8 : ((fr != 0) = true) ∨ ((fr != 0) = false) := by simp only [← Bool.not_eq_true]; exact Classical.em _
        rcases hx8 with qfr | qfr
        · have E8 : Hid ((fr != 0) = true) := Lib.hid (qfr)
          go_wp2
          all_goals go_meet
          all_goals exact ⟨by rw [← HR2.out]; simp only [z2, E7.out, E8.out, Bool.not_false, Bool.not_true, Bool.true_and, Bool.and_true, Bool.false_and, Bool.and_false, Bool.true_or, Bool.or_true], rfl⟩
        have E8 : Hid ((fr != 0) = false) := Lib.hid (qfr)
        have hx18 : (¬ ms = []) ∨ (ms = []) := by exact (Classical.em _).symm
        rcases hx18 with qm | qm
        · have qm2 : 0 < ms.length := List.length_pos_iff.2 qm
          have qm3 : (0 : Int) < (ms.length : Int) := by omega
          have E18 : Hid (decide (0 < (ms.length : Int)) = true) := Lib.hid (decide_eq_true (by have := List.length_pos_iff.2 qm; omega))
          go_wp2
          all_goals go_meet
          all_goals exact ⟨by rw [← HR2.out]; simp only [z2, E7.out, E8.out, E18.out, Bool.not_false, Bool.not_true, Bool.true_and, Bool.and_true, Bool.false_and, Bool.and_false, Bool.true_or, Bool.or_true], rfl⟩
        have E18 : Hid (decide (0 < (ms.length : Int)) = false) := Lib.hid (decide_eq_false (by rw [qm]; simp))
        have hx9 : (0 < np) ∨ (¬ 0 < np) := by exact Classical.em _
        rcases hx9 with qn | qn
        · have qn3 : (0 : Int) < (np : Int) := by omega
          have E9 : Hid (decide (0 < (np : Int)) = true) := Lib.hid (decide_eq_true (by omega))
          go_wp2
          all_goals go_meet
          all_goals exact ⟨by rw [← HR2.out]; simp only [z2, E7.out, E8.out, E18.out, E9.out, Bool.not_false, Bool.not_true, Bool.and_true, Bool.false_and, Bool.and_false, Bool.or_true, Bool.or_false], rfl⟩
        have E9 : Hid (decide (0 < (np : Int)) = false) := Lib.hid (decide_eq_false (by omega))
        have qn3 : ¬ (0 : Int) < (np : Int) := by omega
        go_wp2
        all_goals go_meet
        all_goals exact ⟨by rw [← HR2.out]; simp only [z2, E7.out, E8.out, E18.out, E9.out, Bool.not_false, Bool.not_true, Bool.false_and, Bool.and_false, Bool.or_false], rfl⟩
    case rest =>
      obtain ⟨rfl, rfl⟩ := hcut
      cases R2
      rotate_left
      · go_wp2
        go_ret
        exact ⟨rfl, F2.out⟩
      go_upto_region 6 with (fail)
      go_cut [0, 158] (fun _ r W => r = .bool R3 ∧ w2 = W)
      case first =>
        clear HOF c8 c9 c11 c14 d0 d1 d2 d3 d4 d5 d6 d7 d8 d9
        as_aux_lemma =>
        have hx30 : ((220 : Int) < (path.length : Int)) ∨ (¬ (220 : Int) < (path.length : Int)) := by exact Classical.em _
        rcases hx30 with r0 | r0
        · have E30 : Hid (decide (220 < (path.length : Int)) = true) := Lib.hid (decide_eq_true r0)
          go_wp2
          all_goals go_meet
          all_goals exact ⟨by rw [← HR3.out]; simp only [z3, E30.out, Bool.true_or], rfl⟩
        have E30 : Hid (decide (220 < (path.length : Int)) = false) := Lib.hid (decide_eq_false r0)
        have hx31 : ((1000 : Int) < (data.length : Int)) ∨ (¬ (1000 : Int) < (data.length : Int)) := by exact Classical.em _
        rcases hx31 with r1 | r1
        · have E31 : Hid (decide (1000 < (data.length : Int)) = true) := Lib.hid (decide_eq_true r1)
          go_wp2
          all_goals go_meet
          all_goals exact ⟨by rw [← HR3.out]; simp only [z3, E30.out, E31.out, Bool.true_or, Bool.or_true], rfl⟩
        have E31 : Hid (decide (1000 < (data.length : Int)) = false) := Lib.hid (decide_eq_false r1)
        have hx32 : (fl < 0) ∨ (¬ fl < 0) := by exact Classical.em _
        rcases hx32 with r2 | r2
        · have E32 : Hid (decide (fl < 0) = true) := Lib.hid (decide_eq_true r2)
          go_wp2
          all_goals go_meet
          all_goals exact ⟨by rw [← HR3.out]; simp only [z3, E30.out, E31.out, E32.out, Bool.true_or, Bool.or_true], rfl⟩
        have E32 : Hid (decide (fl < 0) = false) := Lib.hid (decide_eq_false r2)
        have hx33 : (3 < fl) ∨ (¬ 3 < fl) := by exact Classical.em _
        rcases hx33 with r3 | r3
        · have E33 : Hid (decide (3 < fl) = true) := Lib.hid (decide_eq_true r3)
          go_wp2
          all_goals go_meet
          all_goals exact ⟨by rw [← HR3.out]; simp only [z3, E30.out, E31.out, E32.out, E33.out, Bool.true_or, Bool.or_true], rfl⟩
        have E33 : Hid (decide (3 < fl) = false) := Lib.hid (decide_eq_false r3)
        have hx34 : (ve < -1) ∨ (¬ ve < -1) := by exact Classical.em _
        rcases hx34 with r4 | r4
        · have E34 : Hid (decide (ve < -1) = true) := Lib.hid (decide_eq_true r4)
          go_wp2
          all_goals go_meet
          all_goals exact ⟨by rw [← HR3.out]; simp only [z3, E30.out, E31.out, E32.out, E33.out, E34.out, Bool.true_or, Bool.or_true], rfl⟩
        have E34 : Hid (decide (ve < -1) = false) := Lib.hid (decide_eq_false r4)
        have hx35 : (la < 0) ∨ (¬ la < 0) := by exact Classical.em _
        rcases hx35 with r5 | r5
        · have E35 : Hid (decide (la < 0) = true) := Lib.hid (decide_eq_true r5)
          go_wp2
          all_goals go_meet
          all_goals exact ⟨by rw [← HR3.out]; simp only [z3, E30.out, E31.out, E32.out, E33.out, E34.out, E35.out, Bool.true_or, Bool.or_true], rfl⟩
        have E35 : Hid (decide (la < 0) = false) := Lib.hid (decide_eq_false r5)
        have hx36 : (fr < 0) ∨ (¬ fr < 0) := by exact Classical.em _
        rcases hx36 with r6 | r6
        · have E36 : Hid (decide (fr < 0) = true) := Lib.hid (decide_eq_true r6)
          go_wp2
          all_goals go_meet
          all_goals exact ⟨by rw [← HR3.out]; simp only [z3, E30.out, E31.out, E32.out, E33.out, E34.out, E35.out, E36.out, Bool.true_or, Bool.or_true], rfl⟩
        have E36 : Hid (decide (fr < 0) = false) := Lib.hid (decide_eq_false r6)
        have hx37 : ((7 : Int) < (ms.length : Int)) ∨ (¬ (7 : Int) < (ms.length : Int)) := by exact Classical.em _
        rcases hx37 with r7 | r7
        · have E37 : Hid (decide (7 < (ms.length : Int)) = true) := Lib.hid (decide_eq_true r7)
          go_wp2
          all_goals go_meet
          all_goals exact ⟨by rw [← HR3.out]; simp only [z3, E30.out, E31.out, E32.out, E33.out, E34.out, E35.out, E36.out, E37.out, Bool.or_true], rfl⟩
        have E37 : Hid (decide (7 < (ms.length : Int)) = false) := Lib.hid (decide_eq_false r7)
        go_wp2
        all_goals go_meet
        all_goals exact ⟨by rw [← HR3.out]; simp only [z3, E30.out, E31.out, E32.out, E33.out, E34.out, E35.out, E36.out, E37.out, Bool.or_false], rfl⟩
      case rest =>
        obtain ⟨rfl, rfl⟩ := hcut
        cases R3
        rotate_left
        · go_wp2
          go_ret
          exact ⟨rfl, F2.out⟩
        have hcl := HC4.out
        unfold C4 at hcl
        rcases hcl with ⟨rfl, rfl, rfl, rfl, rfl⟩ | ⟨rfl, rfl, rfl, rfl, rfl⟩ | ⟨rfl, rfl, rfl, rfl, rfl⟩ | ⟨rfl, rfl, rfl, rfl, rfl⟩ | ⟨rfl, rfl, rfl, rfl, rfl⟩
        · by_cases s1 : 1 ≤ ti
          · by_cases s2 : ti ≤ 1000
            · have HZ : R4 = true := by rw [← HR4.out]; simp only [z4, decide_eq_true s1, decide_eq_true s2, Bool.not_false, Bool.not_true, Bool.and_true, Bool.true_or, Bool.or_true]
              subst HZ
              clear HR4
              go_wp2
              go_ret
              exact ⟨rfl, F2.out⟩
            · have HZ : R4 = false := by rw [← HR4.out]; simp only [z4, decide_eq_true s1, decide_eq_false s2, Bool.not_false, Bool.not_true, Bool.and_false, Bool.true_or, Bool.or_false]
              subst HZ
              clear HR4
              go_wp2
              go_ret
              exact ⟨rfl, F2.out⟩
          · have HZ : R4 = false := by rw [← HR4.out]; simp only [z4, decide_eq_false s1, Bool.not_false, Bool.not_true, Bool.false_and, Bool.and_false, Bool.true_or, Bool.or_false]
            subst HZ
            clear HR4
            go_wp2
            go_ret
            exact ⟨rfl, F2.out⟩
        · have HZ : R4 = true := by rw [← HR4.out]; simp only [z4, Bool.not_false, Bool.and_true, Bool.true_or]
          subst HZ
          clear HR4
          go_wp2
          go_ret
          exact ⟨rfl, F2.out⟩
        · have HZ : R4 = true := by rw [← HR4.out]; simp only [z4, Bool.not_false, Bool.and_true, Bool.true_or]
          subst HZ
          clear HR4
          go_wp2
          go_ret
          exact ⟨rfl, F2.out⟩
        · have HZ : R4 = true := by rw [← HR4.out]; simp only [z4, Bool.not_false, Bool.and_true, Bool.true_or]
          subst HZ
          clear HR4
          go_wp2
          go_ret
          exact ⟨rfl, F2.out⟩
        · by_cases s1 : 1 ≤ so
          · by_cases s2 : so ≤ 3
            · have HZ : R4 = true := by rw [← HR4.out]; simp only [z4, decide_eq_true s1, decide_eq_true s2, Bool.not_false, Bool.not_true, Bool.and_true, Bool.true_or, Bool.or_true]
              subst HZ
              clear HR4
              go_wp2
              go_ret
              exact ⟨rfl, F2.out⟩
            · have HZ : R4 = false := by rw [← HR4.out]; simp only [z4, decide_eq_true s1, decide_eq_false s2, Bool.not_false, Bool.not_true, Bool.and_true, Bool.and_false, Bool.true_or, Bool.or_false]
              subst HZ
              clear HR4
              go_wp2
              go_ret
              exact ⟨rfl, F2.out⟩
          · have HZ : R4 = false := by rw [← HR4.out]; simp only [z4, decide_eq_false s1, Bool.not_false, Bool.not_true, Bool.and_true, Bool.false_and, Bool.true_or, Bool.or_false]
            subst HZ
            clear HR4
            go_wp2
            go_ret
            exact ⟨rfl, F2.out⟩

theorem rfits_calls (f : Fa) (p : Pl) (np : Nat) (w : World) :
    Calls Tryd.prog 37 #[aval f p np] w fun e w' => e = .returned (.bool (decide (FitsA f np))) ∧ Fr NoB w w' := by
  by_cases hk : 1 ≤ f.k ∧ f.k ≤ 14
  · obtain ⟨k, x, s, t, path, data, fl, ve, wa, so, la, ti, fr, ms⟩ := f
    rw [fits_bool k x s t path data fl ve wa so la ti fr ms np hk]
    exact rfits_core k x s t path data fl ve wa so la ti fr ms p np _ _ _ _ _ _ _ _ _ _ (has_C2 hk) (has_C4 hk) w (fun W => rof_calls k hk W)
  · rw [decide_eq_false (fun h => hk h.1)]
    exact rfits_no f p np w hk
end Go.Proofs.YtlckgkpgllhpbaaDoor

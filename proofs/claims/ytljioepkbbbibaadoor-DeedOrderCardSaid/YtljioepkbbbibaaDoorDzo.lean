/-
  Dzo: DeedZxids and DeedOrder: what they do.
-/
import Derived.Test.YtljioepkbbbibaaDoorDey
namespace Go.Proofs.YtljioepkbbbibaaDoor
open Go.RowKit

set_option maxHeartbeats 1600000 in
theorem zxids_walk (ep co z : Int) (w : World) (he : -9223372036854775808 ≤ ep ∧ ep ≤ 9223372036854775807) (hc : -9223372036854775808 ≤ co ∧ co ≤ 9223372036854775807) (hz : -9223372036854775808 ≤ z ∧ z ≤ 9223372036854775807) (hH : Has w) :
    Calls Tryd.prog 4 #[.int .i64 ep, .int .i64 co, .int .i64 z] w fun e w' => e = .returned (.bool true) ∧ Fr NoB w w' := by
  have h1 := fun W => make_calls ep co W he hc
  have h2 := fun W => rmake_calls ep co W he hc
  have h3 := fun W => epoch_calls z W hz
  have h4 := fun W => repoch_calls z W hz
  have h5 := fun W => counter_calls z W hz
  have h6 := fun W => rcounter_calls z W hz
  have h7 := awake_calls w hH
  generalize mkZ ep co = m at *
  generalize epZ z = p at *
  generalize coZ z = q at *
  go_enter Tryd.func4, Tryd.ntmps4
  go_wp2_with (first
    | ((with_reducible refine (h1 _).mono ?_); rintro e w1 ⟨rfl, rfl⟩)
    | ((with_reducible refine (h2 _).mono ?_); rintro e w1 ⟨rfl, rfl⟩)
    | ((with_reducible refine (h3 _).mono ?_); rintro e w1 ⟨rfl, rfl⟩)
    | ((with_reducible refine (h4 _).mono ?_); rintro e w1 ⟨rfl, rfl⟩)
    | ((with_reducible refine (h5 _).mono ?_); rintro e w1 ⟨rfl, rfl⟩)
    | ((with_reducible refine (h6 _).mono ?_); rintro e w1 ⟨rfl, rfl⟩)
    | ((with_reducible refine h7.mono ?_); rintro e w9 ⟨rfl, f9⟩))
  all_goals first
    | (go_ret; exact ⟨rfl, f9⟩)
    | trace_state

theorem ord_end {E C F D m1 m2 : Int} (h1 : m1 = E * 4294967296 + C) (h2 : m2 = F * 4294967296 + D) (_hE : 0 ≤ E ∧ E < 1073741825) (hC : 0 ≤ C ∧ C < 4294967296) (_hF : 0 ≤ F ∧ F < 1073741825) (hD : 0 ≤ D ∧ D < 4294967296) : (m1 < m2 ↔ (E < F ∨ (E = F ∧ C < D))) ∧ (m1 = m2 ↔ (E = F ∧ C = D)) := by omega
set_option maxHeartbeats 3200000 in
theorem order_walk (e c f d : Int) (w : World) (hH : Has w) :
    Calls Tryd.prog 5 #[.int .i64 e, .int .i64 c, .int .i64 f, .int .i64 d] w fun r w' => r = .returned (.bool true) ∧ Fr NoB w w' := by
  have h0 := awake_calls w hH
  have p1 := fun W => pick_calls e 1073741825 W (by omega) (by omega)
  have p2 := fun W => pick_calls f 1073741825 W (by omega) (by omega)
  have p3 := fun W => pick_calls c 4294967296 W (by omega) (by omega)
  have p4 := fun W => pick_calls d 4294967296 W (by omega) (by omega)
  have hE : 0 ≤ e % 1073741825 ∧ e % 1073741825 < 1073741825 := ⟨Int.emod_nonneg _ (by omega), Int.emod_lt_of_pos _ (by omega)⟩
  have hF : 0 ≤ f % 1073741825 ∧ f % 1073741825 < 1073741825 := ⟨Int.emod_nonneg _ (by omega), Int.emod_lt_of_pos _ (by omega)⟩
  have hC : 0 ≤ c % 4294967296 ∧ c % 4294967296 < 4294967296 := ⟨Int.emod_nonneg _ (by omega), Int.emod_lt_of_pos _ (by omega)⟩
  have hD : 0 ≤ d % 4294967296 ∧ d % 4294967296 < 4294967296 := ⟨Int.emod_nonneg _ (by omega), Int.emod_lt_of_pos _ (by omega)⟩
  generalize e % 1073741825 = E at *
  generalize f % 1073741825 = F at *
  generalize c % 4294967296 = C at *
  generalize d % 4294967296 = D at *
  have m1 := fun W => make_calls E C W (by omega) (by omega)
  have m2 := fun W => make_calls F D W (by omega) (by omega)
  obtain ⟨z1, z2, z3⟩ := mkZ_ep (e := E) (c := C) (by omega) (by omega)
  obtain ⟨y1, y2, y3⟩ := mkZ_ep (e := F) (c := D) (by omega) (by omega)
  have q1 := fun W => epoch_calls (mkZ E C) W (by omega)
  have q2 := fun W => counter_calls (mkZ E C) W (by omega)
  have q3 := fun W => epoch_calls (mkZ F D) W (by omega)
  have q4 := fun W => counter_calls (mkZ F D) W (by omega)
  rw [z2] at q1
  rw [z3] at q2
  rw [y2] at q3
  rw [y3] at q4
  clear z2 z3 y2 y3
  generalize mkZ E C = M1 at *
  generalize mkZ F D = M2 at *
  obtain ⟨o1, o2⟩ := ord_end z1 y1 hE hC hF hD
  have O1 := Lib.hid o1
  have O2 := Lib.hid o2
  clear z1 y1 o1 o2 hE hC hF hD
  go_enter Tryd.func5, Tryd.ntmps5
  go_wp2_with (first
    | ((with_reducible refine h0.mono ?_); rintro r w9 ⟨rfl, f9⟩)
    | ((with_reducible refine (p1 _).mono ?_); rintro r w1 ⟨rfl, rfl⟩)
    | ((with_reducible refine (p2 _).mono ?_); rintro r w1 ⟨rfl, rfl⟩)
    | ((with_reducible refine (p3 _).mono ?_); rintro r w1 ⟨rfl, rfl⟩)
    | ((with_reducible refine (p4 _).mono ?_); rintro r w1 ⟨rfl, rfl⟩)
    | ((with_reducible refine (m1 _).mono ?_); rintro r w1 ⟨rfl, rfl⟩)
    | ((with_reducible refine (m2 _).mono ?_); rintro r w1 ⟨rfl, rfl⟩)
    | ((with_reducible refine (q1 _).mono ?_); rintro r w1 ⟨rfl, rfl⟩)
    | ((with_reducible refine (q2 _).mono ?_); rintro r w1 ⟨rfl, rfl⟩)
    | ((with_reducible refine (q3 _).mono ?_); rintro r w1 ⟨rfl, rfl⟩)
    | ((with_reducible refine (q4 _).mono ?_); rintro r w1 ⟨rfl, rfl⟩))
  all_goals
    have o1 := O1.out
    have o2 := O2.out
    have b2 : (M1 == M2) = (E == F && C == D) := by
      rw [Bool.eq_iff_iff]
      simpa using o2
    clear p1 p2 p3 p4 m1 m2 q1 q2 q3 q4 h0
    first
      | (exfalso; omega)
      | (go_ret; refine ⟨ret_bool ?_, f9⟩; rw [b2]; simp_all)
      | (go_ret; refine ⟨ret_bool ?_, f9⟩; simp_all)
      | (go_ret; refine ⟨ret_bool ?_, f9⟩; rw [b2]; by_cases hx : E = F <;> by_cases hy : C = D <;> simp_all)
      | trace_state
end Go.Proofs.YtljioepkbbbibaaDoor

/-
  Dez: zxids: Make, Epoch, Counter of the program and of the document; a remainder that is picked.
-/
import Derived.Test.YtljioepkbbbibaaDoorKit
import Derived.Laws.BitsAllLaws
namespace Go.Proofs.YtljioepkbbbibaaDoor
open Go.RowKit

theorem i64_or (a b : Nat) (ha : a < 9223372036854775808) (hb : b < 9223372036854775808) : bits .or .i64 (a : Int) (b : Int) = ((a ||| b : Nat) : Int) := by
  have hx : a ||| b < 2 ^ 63 := Nat.or_lt_two_pow (by omega) (by omega)
  show IntKind.i64.wrap ((BitVec.ofInt 64 (a : Int) ||| BitVec.ofInt 64 (b : Int)).toNat : Int) = _
  rw [BitVec.toNat_or, ofInt_u64 a (by omega), ofInt_u64 b (by omega), IntKind.wrap_i64]
  omega
theorem i64_and (a b : Nat) (ha : a < 9223372036854775808) (hb : b < 9223372036854775808) : bits .and .i64 (a : Int) (b : Int) = ((a &&& b : Nat) : Int) := by
  have hx : a &&& b < 2 ^ 63 := Nat.and_lt_two_pow _ (by omega)
  show IntKind.i64.wrap ((BitVec.ofInt 64 (a : Int) &&& BitVec.ofInt 64 (b : Int)).toNat : Int) = _
  rw [BitVec.toNat_and, ofInt_u64 a (by omega), ofInt_u64 b (by omega), IntKind.wrap_i64]
  omega
theorem or_join (e c : Int) (he : 0 ≤ e ∧ e ≤ 1073741824) (hc : 0 ≤ c ∧ c < 4294967296) : bits .or .i64 (e * 4294967296) c = e * 4294967296 + c := by
  obtain ⟨E, rfl⟩ := Int.eq_ofNat_of_zero_le he.1
  obtain ⟨C, rfl⟩ := Int.eq_ofNat_of_zero_le hc.1
  have h := i64_or (E * 4294967296) C (by omega) (by omega)
  rw [nat_join 32 _ _ (by omega) (by omega)] at h
  rw [Int.natCast_add, Int.natCast_mul] at h
  exact h
set_option maxRecDepth 100000 in
theorem and_low (z : Int) (h0 : 0 ≤ z) (h1 : z < 9223372036854775808) : bits .and .i64 z 4294967295 = z % 4294967296 := by
  obtain ⟨Z, rfl⟩ := Int.eq_ofNat_of_zero_le h0
  have h := i64_and Z 4294967295 (by omega) (by omega)
  rw [show (4294967295 : Nat) = 2 ^ 32 - 1 from rfl, Nat.and_two_pow_sub_one_eq_mod] at h
  exact h
def mkZ (e c : Int) : Int := if e < 0 ∨ 1073741824 < e ∨ c < 0 ∨ 4294967296 ≤ c then 0 else e * 4294967296 + c
def epZ (z : Int) : Int := if 0 ≤ z ∧ z / 4294967296 ≤ 1073741824 then z / 4294967296 else 0
def coZ (z : Int) : Int := if 0 ≤ z ∧ z / 4294967296 ≤ 1073741824 then z % 4294967296 else 0
theorem mkZ_ep {e c : Int} (h : 0 ≤ e ∧ e ≤ 1073741824) (k : 0 ≤ c ∧ c < 4294967296) : mkZ e c = e * 4294967296 + c ∧ epZ (mkZ e c) = e ∧ coZ (mkZ e c) = c := by
  unfold mkZ epZ coZ
  rw [if_neg (by omega)]
  refine ⟨rfl, ?_, ?_⟩
  · rw [if_pos (by omega)]; omega
  · rw [if_pos (by omega)]; omega

set_option maxHeartbeats 800000 in
theorem make_calls (e c : Int) (w : World) (he : -9223372036854775808 ≤ e ∧ e ≤ 9223372036854775807) (hc : -9223372036854775808 ≤ c ∧ c ≤ 9223372036854775807) :
    Calls Tryd.prog 17 #[.int .i64 e, .int .i64 c] w fun r w' => r = .returned (.int .i64 (mkZ e c)) ∧ w' = w := by
  by_cases hb : e < 0 ∨ 1073741824 < e ∨ c < 0 ∨ 4294967296 ≤ c
  · have hz : mkZ e c = 0 := if_pos hb
    rw [hz]
    go_enter Tryd.func17, Tryd.ntmps17
    go_wp2
    all_goals first
      | (exfalso; (try simp at *); omega)
      | (go_ret; exact ⟨rfl, rfl⟩)
  · have hz : mkZ e c = e * 4294967296 + c := if_neg hb
    rw [hz]
    have hor := or_join e c (by omega) (by omega)
    go_enter Tryd.func17, Tryd.ntmps17
    go_wp2
    all_goals first
      | (exfalso; (try simp at *); omega)
      | (go_ret; exact ⟨rfl, rfl⟩)
      | trace_state
set_option maxHeartbeats 800000 in
theorem rmake_calls (e c : Int) (w : World) (he : -9223372036854775808 ≤ e ∧ e ≤ 9223372036854775807) (hc : -9223372036854775808 ≤ c ∧ c ≤ 9223372036854775807) :
    Calls Tryd.prog 18 #[.int .i64 e, .int .i64 c] w fun r w' => r = .returned (.int .i64 (mkZ e c)) ∧ w' = w := by
  by_cases hb : e < 0 ∨ 1073741824 < e ∨ c < 0 ∨ 4294967296 ≤ c
  · have hz : mkZ e c = 0 := if_pos hb
    rw [hz]
    go_enter Tryd.func18, Tryd.ntmps18
    go_wp2
    all_goals first
      | (exfalso; (try simp at *); omega)
      | (go_ret; exact ⟨rfl, rfl⟩)
  · have hz : mkZ e c = e * 4294967296 + c := if_neg hb
    rw [hz]
    have hor := or_join e c (by omega) (by omega)
    go_enter Tryd.func18, Tryd.ntmps18
    go_wp2
    all_goals first
      | (exfalso; (try simp at *); omega)
      | (go_ret; exact ⟨rfl, rfl⟩)
      | trace_state
set_option maxHeartbeats 800000 in
theorem epoch_calls (z : Int) (w : World) (hz0 : -9223372036854775808 ≤ z ∧ z ≤ 9223372036854775807) :
    Calls Tryd.prog 19 #[.int .i64 z] w fun r w' => r = .returned (.int .i64 (epZ z)) ∧ w' = w := by
  by_cases hb : 0 ≤ z ∧ z / 4294967296 ≤ 1073741824
  · have hz : epZ z = z / 4294967296 := if_pos hb
    rw [hz]
    go_enter Tryd.func19, Tryd.ntmps19
    go_wp2
    all_goals first
      | (exfalso; (try simp at *); omega)
      | (go_ret; exact ⟨rfl, rfl⟩)
  · have hz : epZ z = 0 := if_neg hb
    rw [hz]
    go_enter Tryd.func19, Tryd.ntmps19
    go_wp2
    all_goals first
      | (exfalso; (try simp at *); omega)
      | (go_ret; exact ⟨rfl, rfl⟩)
      | trace_state
set_option maxHeartbeats 800000 in
theorem repoch_calls (z : Int) (w : World) (hz0 : -9223372036854775808 ≤ z ∧ z ≤ 9223372036854775807) :
    Calls Tryd.prog 20 #[.int .i64 z] w fun r w' => r = .returned (.int .i64 (epZ z)) ∧ w' = w := by
  by_cases hb : 0 ≤ z ∧ z / 4294967296 ≤ 1073741824
  · have hz : epZ z = z / 4294967296 := if_pos hb
    rw [hz]
    go_enter Tryd.func20, Tryd.ntmps20
    go_wp2
    all_goals first
      | (exfalso; (try simp at *); omega)
      | (go_ret; exact ⟨rfl, rfl⟩)
  · have hz : epZ z = 0 := if_neg hb
    rw [hz]
    go_enter Tryd.func20, Tryd.ntmps20
    go_wp2
    all_goals first
      | (exfalso; (try simp at *); omega)
      | (go_ret; exact ⟨rfl, rfl⟩)
      | trace_state
set_option maxHeartbeats 800000 in
theorem counter_calls (z : Int) (w : World) (hz0 : -9223372036854775808 ≤ z ∧ z ≤ 9223372036854775807) :
    Calls Tryd.prog 21 #[.int .i64 z] w fun r w' => r = .returned (.int .i64 (coZ z)) ∧ w' = w := by
  by_cases hb : 0 ≤ z ∧ z / 4294967296 ≤ 1073741824
  · have hz : coZ z = z % 4294967296 := if_pos hb
    rw [hz]
    have hand := and_low z hb.1 (by omega)
    go_enter Tryd.func21, Tryd.ntmps21
    go_wp2
    all_goals first
      | (exfalso; (try simp at *); omega)
      | (go_ret; exact ⟨rfl, rfl⟩)
  · have hz : coZ z = 0 := if_neg hb
    rw [hz]
    go_enter Tryd.func21, Tryd.ntmps21
    go_wp2
    all_goals first
      | (exfalso; (try simp at *); omega)
      | (go_ret; exact ⟨rfl, rfl⟩)
      | trace_state
set_option maxHeartbeats 800000 in
theorem rcounter_calls (z : Int) (w : World) (hz0 : -9223372036854775808 ≤ z ∧ z ≤ 9223372036854775807) :
    Calls Tryd.prog 22 #[.int .i64 z] w fun r w' => r = .returned (.int .i64 (coZ z)) ∧ w' = w := by
  by_cases hb : 0 ≤ z ∧ z / 4294967296 ≤ 1073741824
  · have hz : coZ z = z % 4294967296 := if_pos hb
    rw [hz]
    have hand := and_low z hb.1 (by omega)
    go_enter Tryd.func22, Tryd.ntmps22
    go_wp2
    all_goals first
      | (exfalso; (try simp at *); omega)
      | (go_ret; exact ⟨rfl, rfl⟩)
  · have hz : coZ z = 0 := if_neg hb
    rw [hz]
    go_enter Tryd.func22, Tryd.ntmps22
    go_wp2
    all_goals first
      | (exfalso; (try simp at *); omega)
      | (go_ret; exact ⟨rfl, rfl⟩)
      | trace_state
end Go.Proofs.YtljioepkbbbibaaDoor

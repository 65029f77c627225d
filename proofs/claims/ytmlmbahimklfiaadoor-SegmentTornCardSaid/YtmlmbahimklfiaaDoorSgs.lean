/-
  Sgs: SameInts of two rows of the same numbers.
-/
import Derived.Test.YtmlmbahimklfiaaDoorSgn
namespace Go.Proofs.YtmlmbahimklfiaaDoor
open Go.RowKit

set_option maxHeartbeats 800000 in
theorem samez_calls (A A' : Option Addr) (l : List Int) (c c' : Nat) (w : World) (h : RdZ w A l) (h' : RdZ w A' l) (hl : l.length ≤ 140737488355328) :
    Calls Tryd.prog 15 #[.slice A l.length c, .slice A' l.length c'] w fun e w' => e = .returned (.bool true) ∧ Fr NoB w w' := by
  go_enter Tryd.func15, Tryd.ntmps15
  go_wp2
  go_loopw [4, 5] (fun r i wr => r = .bool false ∧ ∃ k : Nat, k ≤ l.length ∧ i = .int .i64 (k : Int) ∧ ∃ n, wr = w.drewN n) (fun _ i _ => l.length - (intOf i).toNat)
  case atStart => exact ⟨rfl, 0, Nat.zero_le _, rfl, 0, rfl⟩
  case round =>
    obtain ⟨rfl, k, hk, rfl, n, rfl⟩ := hrel
    by_cases hlt : k < l.length
    · obtain ⟨b, o, rfl, -, h0⟩ := h (by omega)
      obtain ⟨b', o', rfl, -, h0'⟩ := h' (by omega)
      have hc := h0 k hlt
      have hc' := h0' k hlt
      clear h h' h0 h0'
      generalize l.getD k 0 = x at hc hc'
      have hi1 : ((k : Int) < (l.length : Int)) := by omega
      go_wp2
      go_quiet (fail)
      go_wp2
      go_roundw
      case rel => exact ⟨rfl, k + 1, by omega, by go_num, n + nq, by simp⟩
      case measure => simp [intOf]; omega
    · clear h h'
      go_wp2
      go_ret
      exact ⟨rfl, (Fr.refl NoB w).drewN n⟩
theorem samez_n (A A' : Option Addr) (l : List Int) (n c c' : Nat) (w : World) (hn : l.length = n) (h : RdZ w A l) (h' : RdZ w A' l) (hl : n ≤ 140737488355328) :
    Calls Tryd.prog 15 #[.slice A n c, .slice A' n c'] w fun e w' => e = .returned (.bool true) ∧ Fr NoB w w' := by
  subst hn; exact samez_calls A A' l c c' w h h' hl
theorem own_some {w : World} {base e size n : Nat} {v : Value} {xs : List Value} (h : w.ownsRow base e size v n xs) (hn : 0 < n) : ∃ g c, v = .slice (some ⟨g, 0, none⟩) n c := by
  rcases h.2 with ⟨_, h0⟩ | ⟨g', cap', cur, hv, _⟩
  · omega
  · exact ⟨g', cap', hv⟩
theorem xor255 (x : UInt8) : bits BinOp.xor IntKind.u8 (x.toNat : Int) 255 = ((x ^^^ 255).toNat : Int) := by
  have hx := x.toNat_lt
  rw [show (255 : Int) = ((255 : Nat) : Int) from rfl, u8_xor_nat _ _ hx (by omega), UInt8.toNat_xor]
  rfl
theorem bv_setS (l : List UInt8) (q : Nat) (y : UInt8) : (bv l).set q (.int .u8 (y.toNat : Int)) = bv (l.set q y) := by simp [bv, List.map_set]
theorem set_last (l : List UInt8) (x y : UInt8) : (l ++ [x]).set l.length y = l ++ [y] := by simp
/-- Where the last deed that is whole ends. -/
theorem seg_end {R : List De} {j : Nat} (hj : j < R.length) : (endZ R).getD j 0 = ((segB (R.take (j + 1))).length : Int) := by
  have h1 := endsOf_get 0 R j hj
  rw [Nat.zero_add] at h1
  simp [endZ, List.getD, h1]
theorem endZ_take (R : List De) (k : Nat) : endZ (R.take k) = (endZ R).take k := by
  unfold endZ; rw [endsOf_take, List.map_take]
theorem RdZ.take {w : World} {A : Option Addr} {l : List Int} (h : RdZ w A l) (k : Nat) : RdZ w A (l.take k) := fun hl => by
  rw [List.length_take] at hl
  obtain ⟨g, o, e, h1, h2⟩ := h (by omega)
  refine ⟨g, o, e, h1, fun i hi => ?_⟩
  rw [List.length_take] at hi
  rw [h2 i (by omega)]
  simp [List.getD, List.getElem?_take, show i < k by omega]
end Go.Proofs.YtmlmbahimklfiaaDoor

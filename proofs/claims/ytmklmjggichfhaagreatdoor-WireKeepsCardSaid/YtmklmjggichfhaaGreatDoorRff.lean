/-
  Rff: the reference's Sum, four, number, Frame.
-/
import Derived.Test.YtmklmjggichfhaaGreatDoorFrn
namespace Go.Proofs.YtmklmjggichfhaaGreatDoor
open Go.RowKit

theorem st1_bit (c : BitVec 32) : c.getLsbD 0 = decide (c.toNat % 2 = 1) := by rw [BitVec.getLsbD, Nat.testBit_zero]
theorem st1_half (c : BitVec 32) (h : c.toNat % 2 = 0) : (c.toNat : Int) / 2 = ((st1 c).toNat : Int) := by
  have e : st1 c = c >>> 1 := st1_even (by rw [st1_bit]; simp [h])
  rw [e, BitVec.toNat_ushiftRight, Nat.shiftRight_eq_div_pow]
  omega
theorem st1_odd (c : BitVec 32) (h : c.toNat % 2 = 1) : bits BinOp.xor IntKind.u32 ((c.toNat : Int) / 2) 3988292384 = ((st1 c).toNat : Int) := by
  have hc := c.isLt
  have e3 : ((c.toNat : Int) / 2) = ((c.toNat / 2 : Nat) : Int) := by omega
  have e4 : (3988292384 : Int) = ((3988292384 : Nat) : Int) := rfl
  rw [e3, e4, u32_xor_nat _ _ (by omega) (by omega)]
  congr 1
  unfold st1
  rw [st1_bit, BitVec.toNat_xor, BitVec.toNat_ushiftRight, Nat.shiftRight_eq_div_pow]
  simp [h, poly]
theorem bv_sub (c : BitVec 32) : 4294967295 - (c.toNat : Int) = ((~~~c).toNat : Int) := by
  have hc := c.isLt
  rw [BitVec.toNat_not]
  omega

set_option maxRecDepth 8000 in
set_option maxHeartbeats 3200000 in
theorem rsum_calls (A : Option Addr) (l : List UInt8) (c lo hi : Nat) (w : World) (h : Rd w lo hi A l) (hl : l.length ≤ 140737488355328) :
    Calls Tryz.prog 42 #[.slice A l.length c] w fun e w' => e = .returned (.int .u32 (crc l).toNat) ∧ w = w' := by
  go_enter Tryz.func42, Tryz.ntmps42
  have HH := Lib.hid h
  clear h
  go_wp2
  go_loop [3, 4] (fun c j => ∃ m : Nat, m ≤ l.length ∧ j = .int .i64 (m : Int) ∧ c = .int .u32 ((crcL (BitVec.allOnes 32) (l.take m)).toNat : Int)) (fun _ j => l.length - (intOf j).toNat)
  case atStart => exact ⟨0, by omega, rfl, rfl⟩
  case round =>
    obtain ⟨m, hm, rfl, rfl⟩ := hrel
    by_cases hml : m < l.length
    · obtain ⟨b, o, rfl, -, -, hc0⟩ := HH.out (by omega)
      have hc := hc0 m hml
      have HN := Lib.hid (show crcL (BitVec.allOnes 32) (l.take (m + 1)) = stN 8 (crcL (BitVec.allOnes 32) (l.take m) ^^^ BitVec.ofNat 32 (l.getD m 0).toNat) by
        rw [List.take_succ_eq_append_getElem hml, crcL, List.foldl_append]
        simp only [List.foldl_cons, List.foldl_nil, crcB]
        simp [List.getD, hml, crcL])
      clear hc0
      generalize l.getD m 0 = x at hc HN
      generalize crcL (BitVec.allOnes 32) (l.take m) = C at HN
      have e1 := bv_x8 C x
      have hx := x.toNat_lt
      have hb1 := C.isLt
      generalize C ^^^ BitVec.ofNat 32 x.toNat = C1 at HN e1
      go_wp2
      go_loop [3, 5] (fun c j => ∃ k : Nat, k ≤ 8 ∧ j = .int .i64 (k : Int) ∧ c = .int .u32 ((stN k C1).toNat : Int)) (fun _ j => 8 - (intOf j).toNat)
      case atStart => exact ⟨0, by omega, rfl, by first | rfl | (simp only [stN]; rw [← e1]) | exact congrArg (Value.int .u32) e1⟩
      case round =>
        obtain ⟨k, hk, rfl, rfl⟩ := hrel
        clear e1
        by_cases hk8 : k < 8
        · have HS := Lib.hid (stN_succ k C1)
          generalize stN k C1 = D at HS
          have hb2 := D.isLt
          by_cases h2 : D.toNat % 2 = 1
          · have hm2 : (D.toNat : Int) % 2 = 1 := by omega
            have e5 := st1_odd D h2
            clear h2
            go_wp2
            go_round
            case rel => exact ⟨k + 1, by omega, by go_num, by rw [HS.out]⟩
            case measure => simp [intOf]; omega
          · have hm2 : (D.toNat : Int) % 2 = 0 := by omega
            have e5 := st1_half D (by omega)
            clear h2
            go_wp2
            go_round
            case rel => exact ⟨k + 1, by omega, by go_num, by rw [HS.out]⟩
            case measure => simp [intOf]; omega
        · obtain rfl : k = 8 := by omega
          clear hk8
          rw [← HN.out]
          go_wp2
          go_round
          case rel => exact ⟨m + 1, by omega, by go_num, rfl⟩
          case measure => simp [intOf]; omega
    · have HN := Lib.hid (show crc l = ~~~(crcL (BitVec.allOnes 32) (l.take m)) by rw [List.take_of_length_le (by omega)]; rfl)
      generalize crcL (BitVec.allOnes 32) (l.take m) = C at HN
      have hb1 := C.isLt
      go_wp2
      go_ret
      refine ⟨?_, rfl⟩
      rw [HN.out, ← bv_sub]
      rfl

set_option maxRecDepth 8000 in
set_option maxHeartbeats 800000 in
theorem rfour_calls (n : Nat) (hn : n < 4294967296) (w : World) :
    Calls Tryz.prog 41 #[.int .u32 n] w fun e w' => ∃ v, e = .returned v ∧ w'.ownsRow w.heap.size 5 1 v 4 (bv (fourB n)) ∧ Below w.heap.size w w' := by
  go_enter Tryz.func41, Tryz.ntmps41
  go_wp2
  go_ret
  refine ⟨_, rfl, ?_, (Below.refl _ _).alloc (Nat.le_refl _) _⟩
  rw [four_bv n hn]
  exact World.ownsRow_lit (size := 1) w #[_, _, _, _] 4 (Nat.le_refl _) (by unfold maxLen; omega) rfl

set_option maxRecDepth 8000 in
set_option maxHeartbeats 800000 in
theorem rnumber_calls (A : Option Addr) (l : List UInt8) (c lo hi : Nat) (w : World) (h : Rd w lo hi A l) (hl : 4 ≤ l.length) (hm : l.length ≤ 140737488355328) :
    Calls Tryz.prog 43 #[.slice A l.length c] w fun e w' => e = .returned (.int .u32 (numB l)) ∧ ∃ n, w' = w.drewN n := by
  obtain ⟨b, o, rfl, -, -, hc⟩ := h (by omega)
  have c0 := hc 0 (by omega)
  have c1 := hc 1 (by omega)
  have c2 := hc 2 (by omega)
  have c3 := hc 3 (by omega)
  obtain ⟨x0, x1, x2, x3, r, rfl⟩ : ∃ x0 x1 x2 x3 r, l = x0 :: x1 :: x2 :: x3 :: r := by
    match l, hl with
    | x0 :: x1 :: x2 :: x3 :: r, _ => exact ⟨x0, x1, x2, x3, r, rfl⟩
  simp only [List.getD_cons_zero, List.getD_cons_succ, Nat.add_zero] at c0 c1 c2 c3
  have h0 := x0.toNat_lt; have h1 := x1.toNat_lt; have h2 := x2.toNat_lt; have h3 := x3.toNat_lt
  clear h hc
  go_enter Tryz.func43, Tryz.ntmps43
  go_wp2
  go_quiet (fail)
  go_wp2
  go_ret
  refine ⟨?_, _, rfl⟩
  refine ret_int ?_
  simp only [numB]
  omega

end Go.Proofs.YtmklmjggichfhaaGreatDoor

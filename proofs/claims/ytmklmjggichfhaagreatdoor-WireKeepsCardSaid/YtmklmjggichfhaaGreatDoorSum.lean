/-
  Sum: wire.Sum is the CRC-32.
-/
import Derived.Test.YtmklmjggichfhaaGreatDoorCrc
import Derived.Test.YtmklmjggichfhaaGreatDoorBuf
namespace Go.Proofs.YtmklmjggichfhaaGreatDoor
open Go.RowKit

def tabArr (i : Nat) : Array Value := ((List.range 16).map fun j => Value.int .u32 (if j < i then ((tabC j).toNat : Int) else 0)).toArray
theorem tabArr_size (i : Nat) : (tabArr i).size = 16 := by simp [tabArr]
theorem tabArr_get (i j : Nat) (h : j < 16) : (tabArr i)[j]? = some (Value.int .u32 (if j < i then ((tabC j).toNat : Int) else 0)) := by simp [tabArr, h]
theorem tabArr_set (i : Nat) (h : i < 16) : (tabArr i).setIfInBounds i (.int .u32 (tabC i).toNat) = tabArr (i + 1) := by
  apply Array.ext_getElem?
  intro j
  by_cases hj : j < 16
  · rw [Array.getElem?_setIfInBounds, tabArr_get _ _ hj, tabArr_size]
    by_cases hij : i = j
    · subst hij; simp [h, tabArr_get _ _ hj]
    · rw [if_neg hij, tabArr_get _ _ hj]
      by_cases h1 : j < i
      · simp [h1, show j < i + 1 by omega]
      · simp [h1, show ¬ j < i + 1 by omega]
  · rw [Array.getElem?_eq_none (by rw [Array.size_setIfInBounds, tabArr_size]; omega), Array.getElem?_eq_none (by rw [tabArr_size]; omega)]

set_option maxHeartbeats 3200000 in
theorem sum_calls (A : Option Addr) (l : List UInt8) (c lo hi : Nat) (w : World) (h : Rd w lo hi A l) (hh : hi ≤ w.heap.size) (hl : l.length ≤ 140737488355328) :
    Calls Tryz.prog 11 #[.slice A l.length c] w fun e w' => e = .returned (.int .u32 (crc l).toNat) ∧ Fr NoB w w' := by
  go_enter Tryz.func11, Tryz.ntmps11
  go_wp2
  go_loopw [5, 9, 14] (fun _ i _ wr => ∃ k : Nat, k ≤ 16 ∧ i = .int .i64 (k : Int) ∧ (∃ T, wr.heap[w.heap.size]? = some (.cells (tabArr k) T (0, 0))) ∧ Fr NoB w wr) (fun _ i _ _ => 16 - (intOf i).toNat)
  case atStart => exact ⟨0, by omega, rfl, ⟨_, heap_alloc_new w _⟩, (Fr.refl _ _).alloc _⟩
  case round =>
    obtain ⟨k, hk, rfl, ⟨T, hT⟩, hF⟩ := hrel
    obtain ⟨wo, rfl⟩ : ∃ wo : World, wo = wr := ⟨_, rfl⟩
    have HT := Lib.hid hT
    by_cases hlt : k < 16
    · have hcell := (cells_of hT k).1.trans (tabArr_get k k hlt)
      have hfro := (cells_of hT k).2
      clear hT
      go_wp2
      go_loop [5, 14] (fun c j => ∃ m : Nat, m ≤ 4 ∧ j = .int .i64 (m : Int) ∧ c = .int .u32 ((stN m (BitVec.ofNat 32 k)).toNat : Int)) (fun _ j => 4 - (intOf j).toNat)
      case atStart => exact ⟨0, by omega, rfl, by simp [stN]; omega⟩
      case round =>
        obtain ⟨m, hm, rfl, rfl⟩ := hrel
        by_cases hm4 : m < 4
        · have hb := bv_st1 (stN m (BitVec.ofNat 32 k))
          rw [← stN_succ, IntKind.wrap_u32] at hb
          have hb1 := (stN m (BitVec.ofNat 32 k)).isLt
          obtain ⟨D, hD⟩ : ∃ D, (stN (m + 1) (BitVec.ofNat 32 k)).toNat = D := ⟨_, rfl⟩
          rw [hD] at hb
          have HD := Lib.hid hD
          clear hD
          generalize (stN m (BitVec.ofNat 32 k)).toNat = C at hb hb1
          go_wp2
          go_round
          case rel => exact ⟨m + 1, by omega, by go_num, by rw [HD.out]⟩
          case measure => simp [intOf]; omega
        · obtain rfl : m = 4 := by omega
          obtain ⟨D, hD⟩ : ∃ D, (stN 4 (BitVec.ofNat 32 k)).toNat = D := ⟨_, rfl⟩
          rw [hD]
          have HD := Lib.hid hD
          clear hD
          go_wp2
          go_roundw
          case rel =>
            refine ⟨k + 1, by omega, by go_num, ⟨T, ?_⟩, hF.setCell (p := ⟨w.heap.size, k, none⟩) (fun hx => absurd hx (Nat.lt_irrefl _)) _⟩
            rw [heap_set HT.out, ← HD.out]
            exact congrArg (fun x => some (Obj.cells x T (0, 0))) (tabArr_set k hlt)
          case measure => simp [intOf]; omega
    · obtain rfl : k = 16 := by omega
      clear hT hlt
      have hr : Rd wo lo hi A l := h.fr hF hh fun _ _ _ x => x
      have HF := Lib.hid hF
      clear hF h
      go_wp2
      go_loop [6, 29] (fun c j => ∃ m : Nat, m ≤ l.length ∧ j = .int .i64 (m : Int) ∧ c = .int .u32 ((crcL (BitVec.allOnes 32) (l.take m)).toNat : Int)) (fun _ j => l.length - (intOf j).toNat)
      case atStart => exact ⟨0, by omega, rfl, rfl⟩
      case round =>
        obtain ⟨m, hm, rfl, rfl⟩ := hrel
        by_cases hml : m < l.length
        · obtain ⟨b, o, rfl, -, -, hc0⟩ := hr (by omega)
          have hc := hc0 m hml
          have HN := Lib.hid (show crcL (BitVec.allOnes 32) (l.take (m + 1)) = stN 4 (stN 4 (crcL (BitVec.allOnes 32) (l.take m) ^^^ BitVec.ofNat 32 (l.getD m 0).toNat)) by
            rw [List.take_succ_eq_append_getElem hml, crcL, List.foldl_append]
            simp only [List.foldl_cons, List.foldl_nil, crcB_eq]
            simp [List.getD, hml, crcL])
          clear hc0 hr
          generalize l.getD m 0 = x at hc HN
          generalize crcL (BitVec.allOnes 32) (l.take m) = C at HN
          have e1 := bv_x8 C x
          have hx := x.toNat_lt
          have hb1 := C.isLt
          generalize C ^^^ BitVec.ofNat 32 x.toNat = C1 at HN e1
          have e2 := bv_15 C1
          have e3 := bv_st4 C1
          have hb2 := C1.isLt
          have hc1 := ((cells_of HT.out (C1.toNat % 16)).1.trans (tabArr_get 16 (C1.toNat % 16) (by omega)))
          rw [if_pos (by omega)] at hc1
          generalize stN 4 C1 = C2 at HN e3
          have e4 := bv_15 C2
          have e5 := bv_st4 C2
          have hb3 := C2.isLt
          have hc2 := ((cells_of HT.out (C2.toNat % 16)).1.trans (tabArr_get 16 (C2.toNat % 16) (by omega)))
          rw [if_pos (by omega)] at hc2
          generalize stN 4 C2 = C3 at HN e5
          go_wp2
          go_round
          case rel => exact ⟨m + 1, by omega, by go_num, by rw [HN.out]⟩
          case measure => simp [intOf]; omega
        · have HN := Lib.hid (show crc l = ~~~(crcL (BitVec.allOnes 32) (l.take m)) by rw [List.take_of_length_le (by omega)]; rfl)
          generalize crcL (BitVec.allOnes 32) (l.take m) = C at HN
          clear hr
          go_wp2
          go_ret
          refine ⟨?_, HF.out⟩
          rw [HN.out, ← bv_not]
          rfl

end Go.Proofs.YtmklmjggichfhaaGreatDoor

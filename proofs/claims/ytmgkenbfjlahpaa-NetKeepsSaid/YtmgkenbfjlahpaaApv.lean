/-
  Apv: the other kinds' lists are empty; bag.apart; ApartBytes.
-/
import Derived.Test.YtmgkenbfjlahpaaApu
namespace Go.Proofs.Ytmgkenbfjlahpaa
open Go.RowKit

theorem make_zero {P : Program} (w : World) (t e : TypeId) (ht : P.underlying t = some (.slice e)) (hi : (((P.info? e).bind (·.zero)).isSome) = true) : ∃ w', (Instr.makeSlice t (.int .i64 0) (.int .i64 0)).run P w = .ok (.slice (some ⟨w.heap.size, 0, none⟩) 0 0) w' ∧ Fr NoB w w' := by
  cases h1 : P.info? e with
  | none => rw [h1] at hi; cases hi
  | some i =>
    rw [h1] at hi
    cases h2 : i.zero with
    | none => simp [h2] at hi
    | some z => exact ⟨_, run_make w t e i z ht h1 h2 .i64 .i64 0 0 (Int.le_refl _) (Int.le_refl _) (by simp) (by decide), (Fr.refl NoB w).alloc _⟩

set_option maxRecDepth 8000 in
set_option maxHeartbeats 3200000 in
theorem flatWords_nil (w : World) : Calls Try.prog 47 #[.slice none 0 0] w fun e w' => e = .returned (.bool true) ∧ Fr NoB w w' := by
  obtain ⟨wa, hmk, fa⟩ := make_zero (P := Try.prog) w 61 _ Try.underlying61 (by kernel_rfl)
  have FA := Lib.hid fa
  clear fa
  go_enter Try.func47, Try.ntmps47
  go_wp2
  go_loopw [3, 4] (fun s3 _ wr => s3 = .int .i64 0 ∧ w = wr) (fun _ _ _ => 0)
  case atStart => exact ⟨rfl, rfl⟩
  case round =>
    obtain ⟨rfl, rfl⟩ := hrel
    go_wp2
    go_loopw [6, 7, 8] (fun s3 _ _ wr => s3 = .int .i64 0 ∧ wa = wr) (fun _ _ _ _ => 0)
    case atStart => exact ⟨rfl, rfl⟩
    case round =>
      obtain ⟨rfl, rfl⟩ := hrel
      go_wp2
      go_loopw [2, 9, 10] (fun r s3 _ wr => r = .bool false ∧ s3 = .int .i64 0 ∧ wa = wr) (fun _ _ _ _ => 0)
      case atStart => exact ⟨rfl, rfl, rfl⟩
      case round =>
        obtain ⟨rfl, rfl, rfl⟩ := hrel
        go_wp2
        go_loopw [11, 12, 13] (fun s3 _ _ wr => s3 = .int .i64 0 ∧ wa = wr) (fun _ _ _ _ => 0)
        case atStart => exact ⟨rfl, rfl⟩
        case round =>
          obtain ⟨rfl, rfl⟩ := hrel
          go_wp2
          go_loopw [2, 14, 15] (fun r s3 _ wr => r = .bool false ∧ s3 = .int .i64 0 ∧ wa = wr) (fun _ _ _ _ => 0)
          case atStart => exact ⟨rfl, rfl, rfl⟩
          case round =>
            obtain ⟨rfl, rfl, rfl⟩ := hrel
            go_wp2
            go_ret
            exact ⟨rfl, FA.out⟩

set_option maxRecDepth 8000 in
set_option maxHeartbeats 3200000 in
theorem flatInts_nil (w : World) : Calls Try.prog 48 #[.slice none 0 0] w fun e w' => e = .returned (.bool true) ∧ Fr NoB w w' := by
  obtain ⟨wa, hmk, fa⟩ := make_zero (P := Try.prog) w 62 _ Try.underlying62 (by kernel_rfl)
  have FA := Lib.hid fa
  clear fa
  go_enter Try.func48, Try.ntmps48
  go_wp2
  go_loopw [3, 4] (fun s3 _ wr => s3 = .int .i64 0 ∧ w = wr) (fun _ _ _ => 0)
  case atStart => exact ⟨rfl, rfl⟩
  case round =>
    obtain ⟨rfl, rfl⟩ := hrel
    go_wp2
    go_loopw [6, 7, 8] (fun s3 _ _ wr => s3 = .int .i64 0 ∧ wa = wr) (fun _ _ _ _ => 0)
    case atStart => exact ⟨rfl, rfl⟩
    case round =>
      obtain ⟨rfl, rfl⟩ := hrel
      go_wp2
      go_loopw [2, 9, 10] (fun r s3 _ wr => r = .bool false ∧ s3 = .int .i64 0 ∧ wa = wr) (fun _ _ _ _ => 0)
      case atStart => exact ⟨rfl, rfl, rfl⟩
      case round =>
        obtain ⟨rfl, rfl, rfl⟩ := hrel
        go_wp2
        go_loopw [11, 12, 13] (fun s3 _ _ wr => s3 = .int .i64 0 ∧ wa = wr) (fun _ _ _ _ => 0)
        case atStart => exact ⟨rfl, rfl⟩
        case round =>
          obtain ⟨rfl, rfl⟩ := hrel
          go_wp2
          go_loopw [2, 14, 15] (fun r s3 _ wr => r = .bool false ∧ s3 = .int .i64 0 ∧ wa = wr) (fun _ _ _ _ => 0)
          case atStart => exact ⟨rfl, rfl, rfl⟩
          case round =>
            obtain ⟨rfl, rfl, rfl⟩ := hrel
            go_wp2
            go_ret
            exact ⟨rfl, FA.out⟩

set_option maxRecDepth 8000 in
set_option maxHeartbeats 3200000 in
theorem flatLongs_nil (w : World) : Calls Try.prog 49 #[.slice none 0 0] w fun e w' => e = .returned (.bool true) ∧ Fr NoB w w' := by
  obtain ⟨wa, hmk, fa⟩ := make_zero (P := Try.prog) w 63 _ Try.underlying63 (by kernel_rfl)
  have FA := Lib.hid fa
  clear fa
  go_enter Try.func49, Try.ntmps49
  go_wp2
  go_loopw [3, 4] (fun s3 _ wr => s3 = .int .i64 0 ∧ w = wr) (fun _ _ _ => 0)
  case atStart => exact ⟨rfl, rfl⟩
  case round =>
    obtain ⟨rfl, rfl⟩ := hrel
    go_wp2
    go_loopw [6, 7, 8] (fun s3 _ _ wr => s3 = .int .i64 0 ∧ wa = wr) (fun _ _ _ _ => 0)
    case atStart => exact ⟨rfl, rfl⟩
    case round =>
      obtain ⟨rfl, rfl⟩ := hrel
      go_wp2
      go_loopw [2, 9, 10] (fun r s3 _ wr => r = .bool false ∧ s3 = .int .i64 0 ∧ wa = wr) (fun _ _ _ _ => 0)
      case atStart => exact ⟨rfl, rfl, rfl⟩
      case round =>
        obtain ⟨rfl, rfl, rfl⟩ := hrel
        go_wp2
        go_loopw [11, 12, 13] (fun s3 _ _ wr => s3 = .int .i64 0 ∧ wa = wr) (fun _ _ _ _ => 0)
        case atStart => exact ⟨rfl, rfl⟩
        case round =>
          obtain ⟨rfl, rfl⟩ := hrel
          go_wp2
          go_loopw [2, 14, 15] (fun r s3 _ wr => r = .bool false ∧ s3 = .int .i64 0 ∧ wa = wr) (fun _ _ _ _ => 0)
          case atStart => exact ⟨rfl, rfl, rfl⟩
          case round =>
            obtain ⟨rfl, rfl, rfl⟩ := hrel
            go_wp2
            go_ret
            exact ⟨rfl, FA.out⟩

set_option maxRecDepth 8000 in
set_option maxHeartbeats 3200000 in
theorem flatTexts_nil (w : World) : Calls Try.prog 50 #[.slice none 0 0] w fun e w' => e = .returned (.bool true) ∧ Fr NoB w w' := by
  obtain ⟨wa, hmk, fa⟩ := make_zero (P := Try.prog) w 64 _ Try.underlying64 (by kernel_rfl)
  have FA := Lib.hid fa
  clear fa
  go_enter Try.func50, Try.ntmps50
  go_wp2
  go_loopw [3, 4] (fun s3 _ wr => s3 = .int .i64 0 ∧ w = wr) (fun _ _ _ => 0)
  case atStart => exact ⟨rfl, rfl⟩
  case round =>
    obtain ⟨rfl, rfl⟩ := hrel
    go_wp2
    go_loopw [6, 7, 8] (fun s3 _ _ wr => s3 = .int .i64 0 ∧ wa = wr) (fun _ _ _ _ => 0)
    case atStart => exact ⟨rfl, rfl⟩
    case round =>
      obtain ⟨rfl, rfl⟩ := hrel
      go_wp2
      go_loopw [2, 9, 10] (fun r s3 _ wr => r = .bool false ∧ s3 = .int .i64 0 ∧ wa = wr) (fun _ _ _ _ => 0)
      case atStart => exact ⟨rfl, rfl, rfl⟩
      case round =>
        obtain ⟨rfl, rfl, rfl⟩ := hrel
        go_wp2
        go_loopw [11, 12, 13] (fun s3 _ _ wr => s3 = .int .i64 0 ∧ wa = wr) (fun _ _ _ _ => 0)
        case atStart => exact ⟨rfl, rfl⟩
        case round =>
          obtain ⟨rfl, rfl⟩ := hrel
          go_wp2
          go_loopw [2, 14, 15] (fun r s3 _ wr => r = .bool false ∧ s3 = .int .i64 0 ∧ wa = wr) (fun _ _ _ _ => 0)
          case atStart => exact ⟨rfl, rfl, rfl⟩
          case round =>
            obtain ⟨rfl, rfl, rfl⟩ := hrel
            go_wp2
            go_ret
            exact ⟨rfl, FA.out⟩

set_option maxRecDepth 8000 in
set_option maxHeartbeats 3200000 in
theorem flatZxids_nil (w : World) : Calls Try.prog 52 #[.slice none 0 0] w fun e w' => e = .returned (.bool true) ∧ Fr NoB w w' := by
  obtain ⟨wa, hmk, fa⟩ := make_zero (P := Try.prog) w 65 _ Try.underlying65 (by kernel_rfl)
  have FA := Lib.hid fa
  clear fa
  go_enter Try.func52, Try.ntmps52
  go_wp2
  go_loopw [3, 4] (fun s3 _ wr => s3 = .int .i64 0 ∧ w = wr) (fun _ _ _ => 0)
  case atStart => exact ⟨rfl, rfl⟩
  case round =>
    obtain ⟨rfl, rfl⟩ := hrel
    go_wp2
    go_loopw [6, 7, 8] (fun s3 _ _ wr => s3 = .int .i64 0 ∧ wa = wr) (fun _ _ _ _ => 0)
    case atStart => exact ⟨rfl, rfl⟩
    case round =>
      obtain ⟨rfl, rfl⟩ := hrel
      go_wp2
      go_loopw [2, 9, 10] (fun r s3 _ wr => r = .bool false ∧ s3 = .int .i64 0 ∧ wa = wr) (fun _ _ _ _ => 0)
      case atStart => exact ⟨rfl, rfl, rfl⟩
      case round =>
        obtain ⟨rfl, rfl, rfl⟩ := hrel
        go_wp2
        go_loopw [11, 12, 13] (fun s3 _ _ wr => s3 = .int .i64 0 ∧ wa = wr) (fun _ _ _ _ => 0)
        case atStart => exact ⟨rfl, rfl⟩
        case round =>
          obtain ⟨rfl, rfl⟩ := hrel
          go_wp2
          go_loopw [2, 14, 15] (fun r s3 _ wr => r = .bool false ∧ s3 = .int .i64 0 ∧ wa = wr) (fun _ _ _ _ => 0)
          case atStart => exact ⟨rfl, rfl, rfl⟩
          case round =>
            obtain ⟨rfl, rfl, rfl⟩ := hrel
            go_wp2
            go_ret
            exact ⟨rfl, FA.out⟩

set_option maxRecDepth 8000 in
set_option maxHeartbeats 3200000 in
theorem flatMembers_nil (w : World) : Calls Try.prog 53 #[.slice none 0 0] w fun e w' => e = .returned (.bool true) ∧ Fr NoB w w' := by
  obtain ⟨wa, hmk, fa⟩ := make_zero (P := Try.prog) w 66 _ Try.underlying66 (by kernel_rfl)
  have FA := Lib.hid fa
  clear fa
  go_enter Try.func53, Try.ntmps53
  go_wp2
  go_loopw [3, 4] (fun s3 _ wr => s3 = .int .i64 0 ∧ w = wr) (fun _ _ _ => 0)
  case atStart => exact ⟨rfl, rfl⟩
  case round =>
    obtain ⟨rfl, rfl⟩ := hrel
    go_wp2
    go_loopw [6, 7, 8] (fun s3 _ _ wr => s3 = .int .i64 0 ∧ wa = wr) (fun _ _ _ _ => 0)
    case atStart => exact ⟨rfl, rfl⟩
    case round =>
      obtain ⟨rfl, rfl⟩ := hrel
      go_wp2
      go_loopw [2, 9, 10] (fun r s3 _ wr => r = .bool false ∧ s3 = .int .i64 0 ∧ wa = wr) (fun _ _ _ _ => 0)
      case atStart => exact ⟨rfl, rfl, rfl⟩
      case round =>
        obtain ⟨rfl, rfl, rfl⟩ := hrel
        go_wp2
        go_loopw [11, 12, 13] (fun s3 _ _ wr => s3 = .int .i64 0 ∧ wa = wr) (fun _ _ _ _ => 0)
        case atStart => exact ⟨rfl, rfl⟩
        case round =>
          obtain ⟨rfl, rfl⟩ := hrel
          go_wp2
          go_loopw [2, 14, 15] (fun r s3 _ wr => r = .bool false ∧ s3 = .int .i64 0 ∧ wa = wr) (fun _ _ _ _ => 0)
          case atStart => exact ⟨rfl, rfl, rfl⟩
          case round =>
            obtain ⟨rfl, rfl, rfl⟩ := hrel
            go_wp2
            go_ret
            exact ⟨rfl, FA.out⟩

set_option maxRecDepth 8000 in
set_option maxHeartbeats 3200000 in
theorem flatEnsembles_nil (w : World) : Calls Try.prog 54 #[.slice none 0 0] w fun e w' => e = .returned (.bool true) ∧ Fr NoB w w' := by
  obtain ⟨wa, hmk, fa⟩ := make_zero (P := Try.prog) w 67 _ Try.underlying67 (by kernel_rfl)
  have FA := Lib.hid fa
  clear fa
  go_enter Try.func54, Try.ntmps54
  go_wp2
  go_loopw [3, 4] (fun s3 _ wr => s3 = .int .i64 0 ∧ w = wr) (fun _ _ _ => 0)
  case atStart => exact ⟨rfl, rfl⟩
  case round =>
    obtain ⟨rfl, rfl⟩ := hrel
    go_wp2
    go_loopw [6, 7, 8] (fun s3 _ _ wr => s3 = .int .i64 0 ∧ wa = wr) (fun _ _ _ _ => 0)
    case atStart => exact ⟨rfl, rfl⟩
    case round =>
      obtain ⟨rfl, rfl⟩ := hrel
      go_wp2
      go_loopw [2, 9, 10] (fun r s3 _ wr => r = .bool false ∧ s3 = .int .i64 0 ∧ wa = wr) (fun _ _ _ _ => 0)
      case atStart => exact ⟨rfl, rfl, rfl⟩
      case round =>
        obtain ⟨rfl, rfl, rfl⟩ := hrel
        go_wp2
        go_loopw [11, 12, 13] (fun s3 _ _ wr => s3 = .int .i64 0 ∧ wa = wr) (fun _ _ _ _ => 0)
        case atStart => exact ⟨rfl, rfl⟩
        case round =>
          obtain ⟨rfl, rfl⟩ := hrel
          go_wp2
          go_loopw [2, 14, 15] (fun r s3 _ wr => r = .bool false ∧ s3 = .int .i64 0 ∧ wa = wr) (fun _ _ _ _ => 0)
          case atStart => exact ⟨rfl, rfl, rfl⟩
          case round =>
            obtain ⟨rfl, rfl, rfl⟩ := hrel
            go_wp2
            go_ret
            exact ⟨rfl, FA.out⟩

set_option maxRecDepth 8000 in
set_option maxHeartbeats 3200000 in
theorem flatDeeds_nil (w : World) : Calls Try.prog 55 #[.slice none 0 0] w fun e w' => e = .returned (.bool true) ∧ Fr NoB w w' := by
  obtain ⟨wa, hmk, fa⟩ := make_zero (P := Try.prog) w 68 _ Try.underlying68 (by kernel_rfl)
  have FA := Lib.hid fa
  clear fa
  go_enter Try.func55, Try.ntmps55
  go_wp2
  go_loopw [3, 4] (fun s3 _ wr => s3 = .int .i64 0 ∧ w = wr) (fun _ _ _ => 0)
  case atStart => exact ⟨rfl, rfl⟩
  case round =>
    obtain ⟨rfl, rfl⟩ := hrel
    go_wp2
    go_loopw [6, 7, 8] (fun s3 _ _ wr => s3 = .int .i64 0 ∧ wa = wr) (fun _ _ _ _ => 0)
    case atStart => exact ⟨rfl, rfl⟩
    case round =>
      obtain ⟨rfl, rfl⟩ := hrel
      go_wp2
      go_loopw [2, 9, 10] (fun r s3 _ wr => r = .bool false ∧ s3 = .int .i64 0 ∧ wa = wr) (fun _ _ _ _ => 0)
      case atStart => exact ⟨rfl, rfl, rfl⟩
      case round =>
        obtain ⟨rfl, rfl, rfl⟩ := hrel
        go_wp2
        go_loopw [11, 12, 13] (fun s3 _ _ wr => s3 = .int .i64 0 ∧ wa = wr) (fun _ _ _ _ => 0)
        case atStart => exact ⟨rfl, rfl⟩
        case round =>
          obtain ⟨rfl, rfl⟩ := hrel
          go_wp2
          go_loopw [2, 14, 15] (fun r s3 _ wr => r = .bool false ∧ s3 = .int .i64 0 ∧ wa = wr) (fun _ _ _ _ => 0)
          case atStart => exact ⟨rfl, rfl, rfl⟩
          case round =>
            obtain ⟨rfl, rfl, rfl⟩ := hrel
            go_wp2
            go_ret
            exact ⟨rfl, FA.out⟩

set_option maxRecDepth 8000 in
set_option maxHeartbeats 3200000 in
theorem flatNodes_nil (w : World) : Calls Try.prog 56 #[.slice none 0 0] w fun e w' => e = .returned (.bool true) ∧ Fr NoB w w' := by
  obtain ⟨wa, hmk, fa⟩ := make_zero (P := Try.prog) w 69 _ Try.underlying69 (by kernel_rfl)
  have FA := Lib.hid fa
  clear fa
  go_enter Try.func56, Try.ntmps56
  go_wp2
  go_loopw [3, 4] (fun s3 _ wr => s3 = .int .i64 0 ∧ w = wr) (fun _ _ _ => 0)
  case atStart => exact ⟨rfl, rfl⟩
  case round =>
    obtain ⟨rfl, rfl⟩ := hrel
    go_wp2
    go_loopw [6, 7, 8] (fun s3 _ _ wr => s3 = .int .i64 0 ∧ wa = wr) (fun _ _ _ _ => 0)
    case atStart => exact ⟨rfl, rfl⟩
    case round =>
      obtain ⟨rfl, rfl⟩ := hrel
      go_wp2
      go_loopw [2, 9, 10] (fun r s3 _ wr => r = .bool false ∧ s3 = .int .i64 0 ∧ wa = wr) (fun _ _ _ _ => 0)
      case atStart => exact ⟨rfl, rfl, rfl⟩
      case round =>
        obtain ⟨rfl, rfl, rfl⟩ := hrel
        go_wp2
        go_loopw [11, 12, 13] (fun s3 _ _ wr => s3 = .int .i64 0 ∧ wa = wr) (fun _ _ _ _ => 0)
        case atStart => exact ⟨rfl, rfl⟩
        case round =>
          obtain ⟨rfl, rfl⟩ := hrel
          go_wp2
          go_loopw [2, 14, 15] (fun r s3 _ wr => r = .bool false ∧ s3 = .int .i64 0 ∧ wa = wr) (fun _ _ _ _ => 0)
          case atStart => exact ⟨rfl, rfl, rfl⟩
          case round =>
            obtain ⟨rfl, rfl, rfl⟩ := hrel
            go_wp2
            go_ret
            exact ⟨rfl, FA.out⟩

set_option maxRecDepth 8000 in
set_option maxHeartbeats 3200000 in
theorem flatSittings_nil (w : World) : Calls Try.prog 57 #[.slice none 0 0] w fun e w' => e = .returned (.bool true) ∧ Fr NoB w w' := by
  obtain ⟨wa, hmk, fa⟩ := make_zero (P := Try.prog) w 70 _ Try.underlying70 (by kernel_rfl)
  have FA := Lib.hid fa
  clear fa
  go_enter Try.func57, Try.ntmps57
  go_wp2
  go_loopw [3, 4] (fun s3 _ wr => s3 = .int .i64 0 ∧ w = wr) (fun _ _ _ => 0)
  case atStart => exact ⟨rfl, rfl⟩
  case round =>
    obtain ⟨rfl, rfl⟩ := hrel
    go_wp2
    go_loopw [6, 7, 8] (fun s3 _ _ wr => s3 = .int .i64 0 ∧ wa = wr) (fun _ _ _ _ => 0)
    case atStart => exact ⟨rfl, rfl⟩
    case round =>
      obtain ⟨rfl, rfl⟩ := hrel
      go_wp2
      go_loopw [2, 9, 10] (fun r s3 _ wr => r = .bool false ∧ s3 = .int .i64 0 ∧ wa = wr) (fun _ _ _ _ => 0)
      case atStart => exact ⟨rfl, rfl, rfl⟩
      case round =>
        obtain ⟨rfl, rfl, rfl⟩ := hrel
        go_wp2
        go_loopw [11, 12, 13] (fun s3 _ _ wr => s3 = .int .i64 0 ∧ wa = wr) (fun _ _ _ _ => 0)
        case atStart => exact ⟨rfl, rfl⟩
        case round =>
          obtain ⟨rfl, rfl⟩ := hrel
          go_wp2
          go_loopw [2, 14, 15] (fun r s3 _ wr => r = .bool false ∧ s3 = .int .i64 0 ∧ wa = wr) (fun _ _ _ _ => 0)
          case atStart => exact ⟨rfl, rfl, rfl⟩
          case round =>
            obtain ⟨rfl, rfl, rfl⟩ := hrel
            go_wp2
            go_ret
            exact ⟨rfl, FA.out⟩

set_option maxRecDepth 8000 in
set_option maxHeartbeats 3200000 in
theorem flatAsks_nil (w : World) : Calls Try.prog 58 #[.slice none 0 0] w fun e w' => e = .returned (.bool true) ∧ Fr NoB w w' := by
  obtain ⟨wa, hmk, fa⟩ := make_zero (P := Try.prog) w 71 _ Try.underlying71 (by kernel_rfl)
  have FA := Lib.hid fa
  clear fa
  go_enter Try.func58, Try.ntmps58
  go_wp2
  go_loopw [3, 4] (fun s3 _ wr => s3 = .int .i64 0 ∧ w = wr) (fun _ _ _ => 0)
  case atStart => exact ⟨rfl, rfl⟩
  case round =>
    obtain ⟨rfl, rfl⟩ := hrel
    go_wp2
    go_loopw [6, 7, 8] (fun s3 _ _ wr => s3 = .int .i64 0 ∧ wa = wr) (fun _ _ _ _ => 0)
    case atStart => exact ⟨rfl, rfl⟩
    case round =>
      obtain ⟨rfl, rfl⟩ := hrel
      go_wp2
      go_loopw [2, 9, 10] (fun r s3 _ wr => r = .bool false ∧ s3 = .int .i64 0 ∧ wa = wr) (fun _ _ _ _ => 0)
      case atStart => exact ⟨rfl, rfl, rfl⟩
      case round =>
        obtain ⟨rfl, rfl, rfl⟩ := hrel
        go_wp2
        go_loopw [11, 12, 13] (fun s3 _ _ wr => s3 = .int .i64 0 ∧ wa = wr) (fun _ _ _ _ => 0)
        case atStart => exact ⟨rfl, rfl⟩
        case round =>
          obtain ⟨rfl, rfl⟩ := hrel
          go_wp2
          go_loopw [2, 14, 15] (fun r s3 _ wr => r = .bool false ∧ s3 = .int .i64 0 ∧ wa = wr) (fun _ _ _ _ => 0)
          case atStart => exact ⟨rfl, rfl, rfl⟩
          case round =>
            obtain ⟨rfl, rfl, rfl⟩ := hrel
            go_wp2
            go_ret
            exact ⟨rfl, FA.out⟩

set_option maxRecDepth 8000 in
set_option maxHeartbeats 3200000 in
theorem flatReplies_nil (w : World) : Calls Try.prog 59 #[.slice none 0 0] w fun e w' => e = .returned (.bool true) ∧ Fr NoB w w' := by
  obtain ⟨wa, hmk, fa⟩ := make_zero (P := Try.prog) w 72 _ Try.underlying72 (by kernel_rfl)
  have FA := Lib.hid fa
  clear fa
  go_enter Try.func59, Try.ntmps59
  go_wp2
  go_loopw [3, 4] (fun s3 _ wr => s3 = .int .i64 0 ∧ w = wr) (fun _ _ _ => 0)
  case atStart => exact ⟨rfl, rfl⟩
  case round =>
    obtain ⟨rfl, rfl⟩ := hrel
    go_wp2
    go_loopw [6, 7, 8] (fun s3 _ _ wr => s3 = .int .i64 0 ∧ wa = wr) (fun _ _ _ _ => 0)
    case atStart => exact ⟨rfl, rfl⟩
    case round =>
      obtain ⟨rfl, rfl⟩ := hrel
      go_wp2
      go_loopw [2, 9, 10] (fun r s3 _ wr => r = .bool false ∧ s3 = .int .i64 0 ∧ wa = wr) (fun _ _ _ _ => 0)
      case atStart => exact ⟨rfl, rfl, rfl⟩
      case round =>
        obtain ⟨rfl, rfl, rfl⟩ := hrel
        go_wp2
        go_loopw [11, 12, 13] (fun s3 _ _ wr => s3 = .int .i64 0 ∧ wa = wr) (fun _ _ _ _ => 0)
        case atStart => exact ⟨rfl, rfl⟩
        case round =>
          obtain ⟨rfl, rfl⟩ := hrel
          go_wp2
          go_loopw [2, 14, 15] (fun r s3 _ wr => r = .bool false ∧ s3 = .int .i64 0 ∧ wa = wr) (fun _ _ _ _ => 0)
          case atStart => exact ⟨rfl, rfl, rfl⟩
          case round =>
            obtain ⟨rfl, rfl, rfl⟩ := hrel
            go_wp2
            go_ret
            exact ⟨rfl, FA.out⟩

set_option maxRecDepth 8000 in
set_option maxHeartbeats 3200000 in
theorem flatEvents_nil (w : World) : Calls Try.prog 60 #[.slice none 0 0] w fun e w' => e = .returned (.bool true) ∧ Fr NoB w w' := by
  obtain ⟨wa, hmk, fa⟩ := make_zero (P := Try.prog) w 73 _ Try.underlying73 (by kernel_rfl)
  have FA := Lib.hid fa
  clear fa
  go_enter Try.func60, Try.ntmps60
  go_wp2
  go_loopw [3, 4] (fun s3 _ wr => s3 = .int .i64 0 ∧ w = wr) (fun _ _ _ => 0)
  case atStart => exact ⟨rfl, rfl⟩
  case round =>
    obtain ⟨rfl, rfl⟩ := hrel
    go_wp2
    go_loopw [6, 7, 8] (fun s3 _ _ wr => s3 = .int .i64 0 ∧ wa = wr) (fun _ _ _ _ => 0)
    case atStart => exact ⟨rfl, rfl⟩
    case round =>
      obtain ⟨rfl, rfl⟩ := hrel
      go_wp2
      go_loopw [2, 9, 10] (fun r s3 _ wr => r = .bool false ∧ s3 = .int .i64 0 ∧ wa = wr) (fun _ _ _ _ => 0)
      case atStart => exact ⟨rfl, rfl, rfl⟩
      case round =>
        obtain ⟨rfl, rfl, rfl⟩ := hrel
        go_wp2
        go_loopw [11, 12, 13] (fun s3 _ _ wr => s3 = .int .i64 0 ∧ wa = wr) (fun _ _ _ _ => 0)
        case atStart => exact ⟨rfl, rfl⟩
        case round =>
          obtain ⟨rfl, rfl⟩ := hrel
          go_wp2
          go_loopw [2, 14, 15] (fun r s3 _ wr => r = .bool false ∧ s3 = .int .i64 0 ∧ wa = wr) (fun _ _ _ _ => 0)
          case atStart => exact ⟨rfl, rfl, rfl⟩
          case round =>
            obtain ⟨rfl, rfl, rfl⟩ := hrel
            go_wp2
            go_ret
            exact ⟨rfl, FA.out⟩

set_option maxRecDepth 8000 in
set_option maxHeartbeats 3200000 in
theorem flatLetters_nil (w : World) : Calls Try.prog 61 #[.slice none 0 0] w fun e w' => e = .returned (.bool true) ∧ Fr NoB w w' := by
  obtain ⟨wa, hmk, fa⟩ := make_zero (P := Try.prog) w 74 _ Try.underlying74 (by kernel_rfl)
  have FA := Lib.hid fa
  clear fa
  go_enter Try.func61, Try.ntmps61
  go_wp2
  go_loopw [3, 4] (fun s3 _ wr => s3 = .int .i64 0 ∧ w = wr) (fun _ _ _ => 0)
  case atStart => exact ⟨rfl, rfl⟩
  case round =>
    obtain ⟨rfl, rfl⟩ := hrel
    go_wp2
    go_loopw [6, 7, 8] (fun s3 _ _ wr => s3 = .int .i64 0 ∧ wa = wr) (fun _ _ _ _ => 0)
    case atStart => exact ⟨rfl, rfl⟩
    case round =>
      obtain ⟨rfl, rfl⟩ := hrel
      go_wp2
      go_loopw [2, 9, 10] (fun r s3 _ wr => r = .bool false ∧ s3 = .int .i64 0 ∧ wa = wr) (fun _ _ _ _ => 0)
      case atStart => exact ⟨rfl, rfl, rfl⟩
      case round =>
        obtain ⟨rfl, rfl, rfl⟩ := hrel
        go_wp2
        go_loopw [11, 12, 13] (fun s3 _ _ wr => s3 = .int .i64 0 ∧ wa = wr) (fun _ _ _ _ => 0)
        case atStart => exact ⟨rfl, rfl⟩
        case round =>
          obtain ⟨rfl, rfl⟩ := hrel
          go_wp2
          go_loopw [2, 14, 15] (fun r s3 _ wr => r = .bool false ∧ s3 = .int .i64 0 ∧ wa = wr) (fun _ _ _ _ => 0)
          case atStart => exact ⟨rfl, rfl, rfl⟩
          case round =>
            obtain ⟨rfl, rfl, rfl⟩ := hrel
            go_wp2
            go_ret
            exact ⟨rfl, FA.out⟩

set_option maxRecDepth 8000 in
set_option maxHeartbeats 3200000 in
theorem flatPackets_nil (w : World) : Calls Try.prog 62 #[.slice none 0 0] w fun e w' => e = .returned (.bool true) ∧ Fr NoB w w' := by
  obtain ⟨wa, hmk, fa⟩ := make_zero (P := Try.prog) w 75 _ Try.underlying75 (by kernel_rfl)
  have FA := Lib.hid fa
  clear fa
  go_enter Try.func62, Try.ntmps62
  go_wp2
  go_loopw [3, 4] (fun s3 _ wr => s3 = .int .i64 0 ∧ w = wr) (fun _ _ _ => 0)
  case atStart => exact ⟨rfl, rfl⟩
  case round =>
    obtain ⟨rfl, rfl⟩ := hrel
    go_wp2
    go_loopw [6, 7, 8] (fun s3 _ _ wr => s3 = .int .i64 0 ∧ wa = wr) (fun _ _ _ _ => 0)
    case atStart => exact ⟨rfl, rfl⟩
    case round =>
      obtain ⟨rfl, rfl⟩ := hrel
      go_wp2
      go_loopw [2, 9, 10] (fun r s3 _ wr => r = .bool false ∧ s3 = .int .i64 0 ∧ wa = wr) (fun _ _ _ _ => 0)
      case atStart => exact ⟨rfl, rfl, rfl⟩
      case round =>
        obtain ⟨rfl, rfl, rfl⟩ := hrel
        go_wp2
        go_loopw [11, 12, 13] (fun s3 _ _ wr => s3 = .int .i64 0 ∧ wa = wr) (fun _ _ _ _ => 0)
        case atStart => exact ⟨rfl, rfl⟩
        case round =>
          obtain ⟨rfl, rfl⟩ := hrel
          go_wp2
          go_loopw [2, 14, 15] (fun r s3 _ wr => r = .bool false ∧ s3 = .int .i64 0 ∧ wa = wr) (fun _ _ _ _ => 0)
          case atStart => exact ⟨rfl, rfl, rfl⟩
          case round =>
            obtain ⟨rfl, rfl, rfl⟩ := hrel
            go_wp2
            go_ret
            exact ⟨rfl, FA.out⟩

set_option maxRecDepth 8000 in
set_option maxHeartbeats 3200000 in
theorem flatMails_nil (w : World) : Calls Try.prog 63 #[.slice none 0 0] w fun e w' => e = .returned (.bool true) ∧ Fr NoB w w' := by
  obtain ⟨wa, hmk, fa⟩ := make_zero (P := Try.prog) w 76 _ Try.underlying76 (by kernel_rfl)
  have FA := Lib.hid fa
  clear fa
  go_enter Try.func63, Try.ntmps63
  go_wp2
  go_loopw [3, 4] (fun s3 _ wr => s3 = .int .i64 0 ∧ w = wr) (fun _ _ _ => 0)
  case atStart => exact ⟨rfl, rfl⟩
  case round =>
    obtain ⟨rfl, rfl⟩ := hrel
    go_wp2
    go_loopw [6, 7, 8] (fun s3 _ _ wr => s3 = .int .i64 0 ∧ wa = wr) (fun _ _ _ _ => 0)
    case atStart => exact ⟨rfl, rfl⟩
    case round =>
      obtain ⟨rfl, rfl⟩ := hrel
      go_wp2
      go_loopw [2, 9, 10] (fun r s3 _ wr => r = .bool false ∧ s3 = .int .i64 0 ∧ wa = wr) (fun _ _ _ _ => 0)
      case atStart => exact ⟨rfl, rfl, rfl⟩
      case round =>
        obtain ⟨rfl, rfl, rfl⟩ := hrel
        go_wp2
        go_loopw [11, 12, 13] (fun s3 _ _ wr => s3 = .int .i64 0 ∧ wa = wr) (fun _ _ _ _ => 0)
        case atStart => exact ⟨rfl, rfl⟩
        case round =>
          obtain ⟨rfl, rfl⟩ := hrel
          go_wp2
          go_loopw [2, 14, 15] (fun r s3 _ wr => r = .bool false ∧ s3 = .int .i64 0 ∧ wa = wr) (fun _ _ _ _ => 0)
          case atStart => exact ⟨rfl, rfl, rfl⟩
          case round =>
            obtain ⟨rfl, rfl, rfl⟩ := hrel
            go_wp2
            go_ret
            exact ⟨rfl, FA.out⟩

set_option maxRecDepth 8000 in
set_option maxHeartbeats 3200000 in
theorem flatSteps_nil (w : World) : Calls Try.prog 64 #[.slice none 0 0] w fun e w' => e = .returned (.bool true) ∧ Fr NoB w w' := by
  obtain ⟨wa, hmk, fa⟩ := make_zero (P := Try.prog) w 77 _ Try.underlying77 (by kernel_rfl)
  have FA := Lib.hid fa
  clear fa
  go_enter Try.func64, Try.ntmps64
  go_wp2
  go_loopw [3, 4] (fun s3 _ wr => s3 = .int .i64 0 ∧ w = wr) (fun _ _ _ => 0)
  case atStart => exact ⟨rfl, rfl⟩
  case round =>
    obtain ⟨rfl, rfl⟩ := hrel
    go_wp2
    go_loopw [6, 7, 8] (fun s3 _ _ wr => s3 = .int .i64 0 ∧ wa = wr) (fun _ _ _ _ => 0)
    case atStart => exact ⟨rfl, rfl⟩
    case round =>
      obtain ⟨rfl, rfl⟩ := hrel
      go_wp2
      go_loopw [2, 9, 10] (fun r s3 _ wr => r = .bool false ∧ s3 = .int .i64 0 ∧ wa = wr) (fun _ _ _ _ => 0)
      case atStart => exact ⟨rfl, rfl, rfl⟩
      case round =>
        obtain ⟨rfl, rfl, rfl⟩ := hrel
        go_wp2
        go_loopw [11, 12, 13] (fun s3 _ _ wr => s3 = .int .i64 0 ∧ wa = wr) (fun _ _ _ _ => 0)
        case atStart => exact ⟨rfl, rfl⟩
        case round =>
          obtain ⟨rfl, rfl⟩ := hrel
          go_wp2
          go_loopw [2, 14, 15] (fun r s3 _ wr => r = .bool false ∧ s3 = .int .i64 0 ∧ wa = wr) (fun _ _ _ _ => 0)
          case atStart => exact ⟨rfl, rfl, rfl⟩
          case round =>
            obtain ⟨rfl, rfl, rfl⟩ := hrel
            go_wp2
            go_ret
            exact ⟨rfl, FA.out⟩

set_option maxRecDepth 8000 in
set_option maxHeartbeats 3200000 in
theorem flatTales_nil (w : World) : Calls Try.prog 65 #[.slice none 0 0] w fun e w' => e = .returned (.bool true) ∧ Fr NoB w w' := by
  obtain ⟨wa, hmk, fa⟩ := make_zero (P := Try.prog) w 78 _ Try.underlying78 (by kernel_rfl)
  have FA := Lib.hid fa
  clear fa
  go_enter Try.func65, Try.ntmps65
  go_wp2
  go_loopw [3, 4] (fun s3 _ wr => s3 = .int .i64 0 ∧ w = wr) (fun _ _ _ => 0)
  case atStart => exact ⟨rfl, rfl⟩
  case round =>
    obtain ⟨rfl, rfl⟩ := hrel
    go_wp2
    go_loopw [6, 7, 8] (fun s3 _ _ wr => s3 = .int .i64 0 ∧ wa = wr) (fun _ _ _ _ => 0)
    case atStart => exact ⟨rfl, rfl⟩
    case round =>
      obtain ⟨rfl, rfl⟩ := hrel
      go_wp2
      go_loopw [2, 9, 10] (fun r s3 _ wr => r = .bool false ∧ s3 = .int .i64 0 ∧ wa = wr) (fun _ _ _ _ => 0)
      case atStart => exact ⟨rfl, rfl, rfl⟩
      case round =>
        obtain ⟨rfl, rfl, rfl⟩ := hrel
        go_wp2
        go_loopw [11, 12, 13] (fun s3 _ _ wr => s3 = .int .i64 0 ∧ wa = wr) (fun _ _ _ _ => 0)
        case atStart => exact ⟨rfl, rfl⟩
        case round =>
          obtain ⟨rfl, rfl⟩ := hrel
          go_wp2
          go_loopw [2, 14, 15] (fun r s3 _ wr => r = .bool false ∧ s3 = .int .i64 0 ∧ wa = wr) (fun _ _ _ _ => 0)
          case atStart => exact ⟨rfl, rfl, rfl⟩
          case round =>
            obtain ⟨rfl, rfl, rfl⟩ := hrel
            go_wp2
            go_ret
            exact ⟨rfl, FA.out⟩

set_option maxRecDepth 8000 in
set_option maxHeartbeats 3200000 in
theorem flatCharters_nil (w : World) : Calls Try.prog 66 #[.slice none 0 0] w fun e w' => e = .returned (.bool true) ∧ Fr NoB w w' := by
  obtain ⟨wa, hmk, fa⟩ := make_zero (P := Try.prog) w 79 _ Try.underlying79 (by kernel_rfl)
  have FA := Lib.hid fa
  clear fa
  go_enter Try.func66, Try.ntmps66
  go_wp2
  go_loopw [3, 4] (fun s3 _ wr => s3 = .int .i64 0 ∧ w = wr) (fun _ _ _ => 0)
  case atStart => exact ⟨rfl, rfl⟩
  case round =>
    obtain ⟨rfl, rfl⟩ := hrel
    go_wp2
    go_loopw [6, 7, 8] (fun s3 _ _ wr => s3 = .int .i64 0 ∧ wa = wr) (fun _ _ _ _ => 0)
    case atStart => exact ⟨rfl, rfl⟩
    case round =>
      obtain ⟨rfl, rfl⟩ := hrel
      go_wp2
      go_loopw [2, 9, 10] (fun r s3 _ wr => r = .bool false ∧ s3 = .int .i64 0 ∧ wa = wr) (fun _ _ _ _ => 0)
      case atStart => exact ⟨rfl, rfl, rfl⟩
      case round =>
        obtain ⟨rfl, rfl, rfl⟩ := hrel
        go_wp2
        go_loopw [11, 12, 13] (fun s3 _ _ wr => s3 = .int .i64 0 ∧ wa = wr) (fun _ _ _ _ => 0)
        case atStart => exact ⟨rfl, rfl⟩
        case round =>
          obtain ⟨rfl, rfl⟩ := hrel
          go_wp2
          go_loopw [2, 14, 15] (fun r s3 _ wr => r = .bool false ∧ s3 = .int .i64 0 ∧ wa = wr) (fun _ _ _ _ => 0)
          case atStart => exact ⟨rfl, rfl, rfl⟩
          case round =>
            obtain ⟨rfl, rfl, rfl⟩ := hrel
            go_wp2
            go_ret
            exact ⟨rfl, FA.out⟩


/-- A bag that holds lists of bytes alone. -/
def bagC (x : Value) : Array Value := #[.slice none 0 0, .slice none 0 0, .slice none 0 0, .slice none 0 0, x, .slice none 0 0, .slice none 0 0, .slice none 0 0, .slice none 0 0, .slice none 0 0, .slice none 0 0, .slice none 0 0, .slice none 0 0, .slice none 0 0, .slice none 0 0, .slice none 0 0, .slice none 0 0, .slice none 0 0, .slice none 0 0, .slice none 0 0]
theorem bag_cells {w : World} {P : Nat} {x : Value} {t : TypeId} (h : w.heap[P]? = some (.cells (bagC x) t (0, 0))) : w.cell? ⟨P, 0, none⟩ = some (.slice none 0 0) ∧ w.cell? ⟨P, 1, none⟩ = some (.slice none 0 0) ∧ w.cell? ⟨P, 2, none⟩ = some (.slice none 0 0) ∧ w.cell? ⟨P, 3, none⟩ = some (.slice none 0 0) ∧ w.cell? ⟨P, 4, none⟩ = some (x) ∧ w.cell? ⟨P, 5, none⟩ = some (.slice none 0 0) ∧ w.cell? ⟨P, 6, none⟩ = some (.slice none 0 0) ∧ w.cell? ⟨P, 7, none⟩ = some (.slice none 0 0) ∧ w.cell? ⟨P, 8, none⟩ = some (.slice none 0 0) ∧ w.cell? ⟨P, 9, none⟩ = some (.slice none 0 0) ∧ w.cell? ⟨P, 10, none⟩ = some (.slice none 0 0) ∧ w.cell? ⟨P, 11, none⟩ = some (.slice none 0 0) ∧ w.cell? ⟨P, 12, none⟩ = some (.slice none 0 0) ∧ w.cell? ⟨P, 13, none⟩ = some (.slice none 0 0) ∧ w.cell? ⟨P, 14, none⟩ = some (.slice none 0 0) ∧ w.cell? ⟨P, 15, none⟩ = some (.slice none 0 0) ∧ w.cell? ⟨P, 16, none⟩ = some (.slice none 0 0) ∧ w.cell? ⟨P, 17, none⟩ = some (.slice none 0 0) ∧ w.cell? ⟨P, 18, none⟩ = some (.slice none 0 0) ∧ w.cell? ⟨P, 19, none⟩ = some (.slice none 0 0) :=
  ⟨Lib.cell_of_heap h 0, Lib.cell_of_heap h 1, Lib.cell_of_heap h 2, Lib.cell_of_heap h 3, Lib.cell_of_heap h 4, Lib.cell_of_heap h 5, Lib.cell_of_heap h 6, Lib.cell_of_heap h 7, Lib.cell_of_heap h 8, Lib.cell_of_heap h 9, Lib.cell_of_heap h 10, Lib.cell_of_heap h 11, Lib.cell_of_heap h 12, Lib.cell_of_heap h 13, Lib.cell_of_heap h 14, Lib.cell_of_heap h 15, Lib.cell_of_heap h 16, Lib.cell_of_heap h 17, Lib.cell_of_heap h 18, Lib.cell_of_heap h 19⟩

set_option maxRecDepth 8000 in
set_option maxHeartbeats 6400000 in
theorem apart_calls (B K L cL P : Nat) (V : Nat → Value) (N : Nat → Nat) (Y0 : Nat → List UInt8) (w : World) (h : Lay w B K L cL V N Y0) (hF : Far K L V) (hB : B ≤ w.heap.size) (hK : K ≤ 1000) (hN : ∀ k, k < K → N k ≤ 100000000000000) (M : Nat → Prop) (hMV : ∀ k, k < K → ∀ g, (V k).ownBlock = some g → M g)
    (hP : w.heap[P]? = some (.cells (bagC (.slice (some ⟨L, 0, none⟩) K cL)) 81 (0, 0))) (hMP : ¬ M P) :
    Calls Try.prog 37 #[.pointer (some ⟨P, 0, none⟩)] w fun e w' => e = .returned (.bool true) ∧ Fr M w w' ∧ ∀ k, k < K → w'.ownsRow B 5 1 (V k) (N k) (bv (mks k (N k))) := by
  have HFB := Lib.hid (fun W (f : Fr NoB w W) => flatb_calls B K L cL V N Y0 W (h.fr f (fun x => x) (fun _ _ _ _ x => x)) hF (Nat.le_trans hB f.size) hK hN M hMV)
  have HP := Lib.hid (fun W (f : Fr M w W) => bag_cells (f.at_ hP hMP))
  have F0 := Lib.hid (Fr.refl M w)
  have E0 := Lib.hid (Fr.refl NoB w)
  clear h hF hN hMV hP
  go_enter Try.func37, Try.ntmps37
  have hc0 := (HP.out _ F0.out).1
  go_wp2_with (fail)
  clear hc0
  refine (flatWords_nil _).mono ?_
  rintro e w1 ⟨rfl, f⟩
  have F1 := Lib.hid (F0.out.then f.no)
  have E1 := Lib.hid (E0.out.then f)
  clear f
  have hc1 := (HP.out _ F1.out).2.1
  go_wp2_with (fail)
  clear hc1
  refine (flatInts_nil _).mono ?_
  rintro e w2 ⟨rfl, f⟩
  have F2 := Lib.hid (F1.out.then f.no)
  have E2 := Lib.hid (E1.out.then f)
  clear f
  have hc2 := (HP.out _ F2.out).2.2.1
  go_wp2_with (fail)
  clear hc2
  refine (flatLongs_nil _).mono ?_
  rintro e w3 ⟨rfl, f⟩
  have F3 := Lib.hid (F2.out.then f.no)
  have E3 := Lib.hid (E2.out.then f)
  clear f
  have hc3 := (HP.out _ F3.out).2.2.2.1
  go_wp2_with (fail)
  clear hc3
  refine (flatTexts_nil _).mono ?_
  rintro e w4 ⟨rfl, f⟩
  have F4 := Lib.hid (F3.out.then f.no)
  have E4 := Lib.hid (E3.out.then f)
  clear f
  have hc4 := (HP.out _ F4.out).2.2.2.2.1
  go_wp2_with (fail)
  clear hc4
  refine (HFB.out _ E4.out).mono ?_
  rintro e w5 ⟨rfl, f, hkp⟩
  have F5 := Lib.hid (F4.out.then f)
  have KP := Lib.hid hkp
  have G5 := Lib.hid (Fr.refl NoB w5)
  clear hkp
  clear f
  have hc5 := (HP.out _ F5.out).2.2.2.2.2.1
  go_wp2_with (fail)
  clear hc5
  refine (flatZxids_nil _).mono ?_
  rintro e w6 ⟨rfl, f⟩
  have F6 := Lib.hid (F5.out.then f.no)
  have G6 := Lib.hid (G5.out.then f)
  clear f
  have hc6 := (HP.out _ F6.out).2.2.2.2.2.2.1
  go_wp2_with (fail)
  clear hc6
  refine (flatMembers_nil _).mono ?_
  rintro e w7 ⟨rfl, f⟩
  have F7 := Lib.hid (F6.out.then f.no)
  have G7 := Lib.hid (G6.out.then f)
  clear f
  have hc7 := (HP.out _ F7.out).2.2.2.2.2.2.2.1
  go_wp2_with (fail)
  clear hc7
  refine (flatEnsembles_nil _).mono ?_
  rintro e w8 ⟨rfl, f⟩
  have F8 := Lib.hid (F7.out.then f.no)
  have G8 := Lib.hid (G7.out.then f)
  clear f
  have hc8 := (HP.out _ F8.out).2.2.2.2.2.2.2.2.1
  go_wp2_with (fail)
  clear hc8
  refine (flatDeeds_nil _).mono ?_
  rintro e w9 ⟨rfl, f⟩
  have F9 := Lib.hid (F8.out.then f.no)
  have G9 := Lib.hid (G8.out.then f)
  clear f
  have hc9 := (HP.out _ F9.out).2.2.2.2.2.2.2.2.2.1
  go_wp2_with (fail)
  clear hc9
  refine (flatNodes_nil _).mono ?_
  rintro e w10 ⟨rfl, f⟩
  have F10 := Lib.hid (F9.out.then f.no)
  have G10 := Lib.hid (G9.out.then f)
  clear f
  have hc10 := (HP.out _ F10.out).2.2.2.2.2.2.2.2.2.2.1
  go_wp2_with (fail)
  clear hc10
  refine (flatSittings_nil _).mono ?_
  rintro e w11 ⟨rfl, f⟩
  have F11 := Lib.hid (F10.out.then f.no)
  have G11 := Lib.hid (G10.out.then f)
  clear f
  have hc11 := (HP.out _ F11.out).2.2.2.2.2.2.2.2.2.2.2.1
  go_wp2_with (fail)
  clear hc11
  refine (flatAsks_nil _).mono ?_
  rintro e w12 ⟨rfl, f⟩
  have F12 := Lib.hid (F11.out.then f.no)
  have G12 := Lib.hid (G11.out.then f)
  clear f
  have hc12 := (HP.out _ F12.out).2.2.2.2.2.2.2.2.2.2.2.2.1
  go_wp2_with (fail)
  clear hc12
  refine (flatReplies_nil _).mono ?_
  rintro e w13 ⟨rfl, f⟩
  have F13 := Lib.hid (F12.out.then f.no)
  have G13 := Lib.hid (G12.out.then f)
  clear f
  have hc13 := (HP.out _ F13.out).2.2.2.2.2.2.2.2.2.2.2.2.2.1
  go_wp2_with (fail)
  clear hc13
  refine (flatEvents_nil _).mono ?_
  rintro e w14 ⟨rfl, f⟩
  have F14 := Lib.hid (F13.out.then f.no)
  have G14 := Lib.hid (G13.out.then f)
  clear f
  have hc14 := (HP.out _ F14.out).2.2.2.2.2.2.2.2.2.2.2.2.2.2.1
  go_wp2_with (fail)
  clear hc14
  refine (flatLetters_nil _).mono ?_
  rintro e w15 ⟨rfl, f⟩
  have F15 := Lib.hid (F14.out.then f.no)
  have G15 := Lib.hid (G14.out.then f)
  clear f
  have hc15 := (HP.out _ F15.out).2.2.2.2.2.2.2.2.2.2.2.2.2.2.2.1
  go_wp2_with (fail)
  clear hc15
  refine (flatPackets_nil _).mono ?_
  rintro e w16 ⟨rfl, f⟩
  have F16 := Lib.hid (F15.out.then f.no)
  have G16 := Lib.hid (G15.out.then f)
  clear f
  have hc16 := (HP.out _ F16.out).2.2.2.2.2.2.2.2.2.2.2.2.2.2.2.2.1
  go_wp2_with (fail)
  clear hc16
  refine (flatMails_nil _).mono ?_
  rintro e w17 ⟨rfl, f⟩
  have F17 := Lib.hid (F16.out.then f.no)
  have G17 := Lib.hid (G16.out.then f)
  clear f
  have hc17 := (HP.out _ F17.out).2.2.2.2.2.2.2.2.2.2.2.2.2.2.2.2.2.1
  go_wp2_with (fail)
  clear hc17
  refine (flatSteps_nil _).mono ?_
  rintro e w18 ⟨rfl, f⟩
  have F18 := Lib.hid (F17.out.then f.no)
  have G18 := Lib.hid (G17.out.then f)
  clear f
  have hc18 := (HP.out _ F18.out).2.2.2.2.2.2.2.2.2.2.2.2.2.2.2.2.2.2.1
  go_wp2_with (fail)
  clear hc18
  refine (flatTales_nil _).mono ?_
  rintro e w19 ⟨rfl, f⟩
  have F19 := Lib.hid (F18.out.then f.no)
  have G19 := Lib.hid (G18.out.then f)
  clear f
  have hc19 := (HP.out _ F19.out).2.2.2.2.2.2.2.2.2.2.2.2.2.2.2.2.2.2.2
  go_wp2_with (fail)
  clear hc19
  refine (flatCharters_nil _).mono ?_
  rintro e w20 ⟨rfl, f⟩
  have F20 := Lib.hid (F19.out.then f.no)
  have G20 := Lib.hid (G19.out.then f)
  clear f
  go_wp2
  go_ret
  exact ⟨rfl, F20.out, fun k hk => own_keep (KP.out k hk) (fun g hg => G20.out.block g ((KP.out k hk).lt g hg).2 (fun x => x))⟩

end Go.Proofs.Ytmgkenbfjlahpaa

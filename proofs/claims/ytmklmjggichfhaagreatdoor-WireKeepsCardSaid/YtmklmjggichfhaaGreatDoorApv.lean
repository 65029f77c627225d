/-
  Apv: the other kinds' lists are empty; bag.apart; ApartBytes.
-/
import Derived.Test.YtmklmjggichfhaaGreatDoorApu
namespace Go.Proofs.YtmklmjggichfhaaGreatDoor
open Go.RowKit

theorem make_zero {P : Program} (w : World) (t e : TypeId) (ht : P.underlying t = some (.slice e)) (hi : (((P.info? e).bind (·.zero)).isSome) = true) : ∃ w', (Instr.makeSlice t (.int .i64 0) (.int .i64 0)).run P w = .ok (.slice (some ⟨w.heap.size, 0, none⟩) 0 0) w' ∧ Fr NoB w w' := by
  cases h1 : P.info? e with
  | none => rw [h1] at hi; cases hi
  | some i =>
    rw [h1] at hi
    cases h2 : i.zero with
    | none => simp [h2] at hi
    | some z => exact ⟨_, run_make w t e i z ht h1 h2 .i64 .i64 0 0 (Int.le_refl _) (Int.le_refl _) (by simp) (by decide), (Fr.refl NoB w).alloc _⟩

set_option maxRecDepth 8000 in
set_option maxHeartbeats 3200000 in
theorem flatWords_nil (w : World) : Calls Tryz.prog 55 #[.slice none 0 0] w fun e w' => e = .returned (.bool true) ∧ Fr NoB w w' := by
  obtain ⟨wa, hmk, fa⟩ := make_zero (P := Tryz.prog) w 75 _ Tryz.underlying75 (by kernel_rfl)
  have FA := Lib.hid fa
  clear fa
  go_enter Tryz.func55, Tryz.ntmps55
  go_wp2
  go_loopw [3, 4] (fun s3 _ wr => s3 = .int .i64 0 ∧ w = wr) (fun _ _ _ => 0)
  case atStart => exact ⟨rfl, rfl⟩
  case round =>
    obtain ⟨rfl, rfl⟩ := hrel
    go_wp2
    go_loopw [6, 7, 8] (fun s3 _ _ wr => s3 = .int .i64 0 ∧ wa = wr) (fun _ _ _ _ => 0)
    case atStart => exact ⟨rfl, rfl⟩
    case round =>
      obtain ⟨rfl, rfl⟩ := hrel
      go_wp2
      go_loopw [2, 9, 10] (fun r s3 _ wr => r = .bool false ∧ s3 = .int .i64 0 ∧ wa = wr) (fun _ _ _ _ => 0)
      case atStart => exact ⟨rfl, rfl, rfl⟩
      case round =>
        obtain ⟨rfl, rfl, rfl⟩ := hrel
        go_wp2
        go_loopw [11, 12, 13] (fun s3 _ _ wr => s3 = .int .i64 0 ∧ wa = wr) (fun _ _ _ _ => 0)
        case atStart => exact ⟨rfl, rfl⟩
        case round =>
          obtain ⟨rfl, rfl⟩ := hrel
          go_wp2
          go_loopw [2, 14, 15] (fun r s3 _ wr => r = .bool false ∧ s3 = .int .i64 0 ∧ wa = wr) (fun _ _ _ _ => 0)
          case atStart => exact ⟨rfl, rfl, rfl⟩
          case round =>
            obtain ⟨rfl, rfl, rfl⟩ := hrel
            go_wp2
            go_ret
            exact ⟨rfl, FA.out⟩

set_option maxRecDepth 8000 in
set_option maxHeartbeats 3200000 in
theorem flatInts_nil (w : World) : Calls Tryz.prog 56 #[.slice none 0 0] w fun e w' => e = .returned (.bool true) ∧ Fr NoB w w' := by
  obtain ⟨wa, hmk, fa⟩ := make_zero (P := Tryz.prog) w 76 _ Tryz.underlying76 (by kernel_rfl)
  have FA := Lib.hid fa
  clear fa
  go_enter Tryz.func56, Tryz.ntmps56
  go_wp2
  go_loopw [3, 4] (fun s3 _ wr => s3 = .int .i64 0 ∧ w = wr) (fun _ _ _ => 0)
  case atStart => exact ⟨rfl, rfl⟩
  case round =>
    obtain ⟨rfl, rfl⟩ := hrel
    go_wp2
    go_loopw [6, 7, 8] (fun s3 _ _ wr => s3 = .int .i64 0 ∧ wa = wr) (fun _ _ _ _ => 0)
    case atStart => exact ⟨rfl, rfl⟩
    case round =>
      obtain ⟨rfl, rfl⟩ := hrel
      go_wp2
      go_loopw [2, 9, 10] (fun r s3 _ wr => r = .bool false ∧ s3 = .int .i64 0 ∧ wa = wr) (fun _ _ _ _ => 0)
      case atStart => exact ⟨rfl, rfl, rfl⟩
      case round =>
        obtain ⟨rfl, rfl, rfl⟩ := hrel
        go_wp2
        go_loopw [11, 12, 13] (fun s3 _ _ wr => s3 = .int .i64 0 ∧ wa = wr) (fun _ _ _ _ => 0)
        case atStart => exact ⟨rfl, rfl⟩
        case round =>
          obtain ⟨rfl, rfl⟩ := hrel
          go_wp2
          go_loopw [2, 14, 15] (fun r s3 _ wr => r = .bool false ∧ s3 = .int .i64 0 ∧ wa = wr) (fun _ _ _ _ => 0)
          case atStart => exact ⟨rfl, rfl, rfl⟩
          case round =>
            obtain ⟨rfl, rfl, rfl⟩ := hrel
            go_wp2
            go_ret
            exact ⟨rfl, FA.out⟩

set_option maxRecDepth 8000 in
set_option maxHeartbeats 3200000 in
theorem flatLongs_nil (w : World) : Calls Tryz.prog 57 #[.slice none 0 0] w fun e w' => e = .returned (.bool true) ∧ Fr NoB w w' := by
  obtain ⟨wa, hmk, fa⟩ := make_zero (P := Tryz.prog) w 77 _ Tryz.underlying77 (by kernel_rfl)
  have FA := Lib.hid fa
  clear fa
  go_enter Tryz.func57, Tryz.ntmps57
  go_wp2
  go_loopw [3, 4] (fun s3 _ wr => s3 = .int .i64 0 ∧ w = wr) (fun _ _ _ => 0)
  case atStart => exact ⟨rfl, rfl⟩
  case round =>
    obtain ⟨rfl, rfl⟩ := hrel
    go_wp2
    go_loopw [6, 7, 8] (fun s3 _ _ wr => s3 = .int .i64 0 ∧ wa = wr) (fun _ _ _ _ => 0)
    case atStart => exact ⟨rfl, rfl⟩
    case round =>
      obtain ⟨rfl, rfl⟩ := hrel
      go_wp2
      go_loopw [2, 9, 10] (fun r s3 _ wr => r = .bool false ∧ s3 = .int .i64 0 ∧ wa = wr) (fun _ _ _ _ => 0)
      case atStart => exact ⟨rfl, rfl, rfl⟩
      case round =>
        obtain ⟨rfl, rfl, rfl⟩ := hrel
        go_wp2
        go_loopw [11, 12, 13] (fun s3 _ _ wr => s3 = .int .i64 0 ∧ wa = wr) (fun _ _ _ _ => 0)
        case atStart => exact ⟨rfl, rfl⟩
        case round =>
          obtain ⟨rfl, rfl⟩ := hrel
          go_wp2
          go_loopw [2, 14, 15] (fun r s3 _ wr => r = .bool false ∧ s3 = .int .i64 0 ∧ wa = wr) (fun _ _ _ _ => 0)
          case atStart => exact ⟨rfl, rfl, rfl⟩
          case round =>
            obtain ⟨rfl, rfl, rfl⟩ := hrel
            go_wp2
            go_ret
            exact ⟨rfl, FA.out⟩

set_option maxRecDepth 8000 in
set_option maxHeartbeats 3200000 in
theorem flatTexts_nil (w : World) : Calls Tryz.prog 58 #[.slice none 0 0] w fun e w' => e = .returned (.bool true) ∧ Fr NoB w w' := by
  obtain ⟨wa, hmk, fa⟩ := make_zero (P := Tryz.prog) w 78 _ Tryz.underlying78 (by kernel_rfl)
  have FA := Lib.hid fa
  clear fa
  go_enter Tryz.func58, Tryz.ntmps58
  go_wp2
  go_loopw [3, 4] (fun s3 _ wr => s3 = .int .i64 0 ∧ w = wr) (fun _ _ _ => 0)
  case atStart => exact ⟨rfl, rfl⟩
  case round =>
    obtain ⟨rfl, rfl⟩ := hrel
    go_wp2
    go_loopw [6, 7, 8] (fun s3 _ _ wr => s3 = .int .i64 0 ∧ wa = wr) (fun _ _ _ _ => 0)
    case atStart => exact ⟨rfl, rfl⟩
    case round =>
      obtain ⟨rfl, rfl⟩ := hrel
      go_wp2
      go_loopw [2, 9, 10] (fun r s3 _ wr => r = .bool false ∧ s3 = .int .i64 0 ∧ wa = wr) (fun _ _ _ _ => 0)
      case atStart => exact ⟨rfl, rfl, rfl⟩
      case round =>
        obtain ⟨rfl, rfl, rfl⟩ := hrel
        go_wp2
        go_loopw [11, 12, 13] (fun s3 _ _ wr => s3 = .int .i64 0 ∧ wa = wr) (fun _ _ _ _ => 0)
        case atStart => exact ⟨rfl, rfl⟩
        case round =>
          obtain ⟨rfl, rfl⟩ := hrel
          go_wp2
          go_loopw [2, 14, 15] (fun r s3 _ wr => r = .bool false ∧ s3 = .int .i64 0 ∧ wa = wr) (fun _ _ _ _ => 0)
          case atStart => exact ⟨rfl, rfl, rfl⟩
          case round =>
            obtain ⟨rfl, rfl, rfl⟩ := hrel
            go_wp2
            go_ret
            exact ⟨rfl, FA.out⟩

set_option maxRecDepth 8000 in
set_option maxHeartbeats 3200000 in
theorem flatZxids_nil (w : World) : Calls Tryz.prog 60 #[.slice none 0 0] w fun e w' => e = .returned (.bool true) ∧ Fr NoB w w' := by
  obtain ⟨wa, hmk, fa⟩ := make_zero (P := Tryz.prog) w 79 _ Tryz.underlying79 (by kernel_rfl)
  have FA := Lib.hid fa
  clear fa
  go_enter Tryz.func60, Tryz.ntmps60
  go_wp2
  go_loopw [3, 4] (fun s3 _ wr => s3 = .int .i64 0 ∧ w = wr) (fun _ _ _ => 0)
  case atStart => exact ⟨rfl, rfl⟩
  case round =>
    obtain ⟨rfl, rfl⟩ := hrel
    go_wp2
    go_loopw [6, 7, 8] (fun s3 _ _ wr => s3 = .int .i64 0 ∧ wa = wr) (fun _ _ _ _ => 0)
    case atStart => exact ⟨rfl, rfl⟩
    case round =>
      obtain ⟨rfl, rfl⟩ := hrel
      go_wp2
      go_loopw [2, 9, 10] (fun r s3 _ wr => r = .bool false ∧ s3 = .int .i64 0 ∧ wa = wr) (fun _ _ _ _ => 0)
      case atStart => exact ⟨rfl, rfl, rfl⟩
      case round =>
        obtain ⟨rfl, rfl, rfl⟩ := hrel
        go_wp2
        go_loopw [11, 12, 13] (fun s3 _ _ wr => s3 = .int .i64 0 ∧ wa = wr) (fun _ _ _ _ => 0)
        case atStart => exact ⟨rfl, rfl⟩
        case round =>
          obtain ⟨rfl, rfl⟩ := hrel
          go_wp2
          go_loopw [2, 14, 15] (fun r s3 _ wr => r = .bool false ∧ s3 = .int .i64 0 ∧ wa = wr) (fun _ _ _ _ => 0)
          case atStart => exact ⟨rfl, rfl, rfl⟩
          case round =>
            obtain ⟨rfl, rfl, rfl⟩ := hrel
            go_wp2
            go_ret
            exact ⟨rfl, FA.out⟩

set_option maxRecDepth 8000 in
set_option maxHeartbeats 3200000 in
theorem flatMembers_nil (w : World) : Calls Tryz.prog 61 #[.slice none 0 0] w fun e w' => e = .returned (.bool true) ∧ Fr NoB w w' := by
  obtain ⟨wa, hmk, fa⟩ := make_zero (P := Tryz.prog) w 80 _ Tryz.underlying80 (by kernel_rfl)
  have FA := Lib.hid fa
  clear fa
  go_enter Tryz.func61, Tryz.ntmps61
  go_wp2
  go_loopw [3, 4] (fun s3 _ wr => s3 = .int .i64 0 ∧ w = wr) (fun _ _ _ => 0)
  case atStart => exact ⟨rfl, rfl⟩
  case round =>
    obtain ⟨rfl, rfl⟩ := hrel
    go_wp2
    go_loopw [6, 7, 8] (fun s3 _ _ wr => s3 = .int .i64 0 ∧ wa = wr) (fun _ _ _ _ => 0)
    case atStart => exact ⟨rfl, rfl⟩
    case round =>
      obtain ⟨rfl, rfl⟩ := hrel
      go_wp2
      go_loopw [2, 9, 10] (fun r s3 _ wr => r = .bool false ∧ s3 = .int .i64 0 ∧ wa = wr) (fun _ _ _ _ => 0)
      case atStart => exact ⟨rfl, rfl, rfl⟩
      case round =>
        obtain ⟨rfl, rfl, rfl⟩ := hrel
        go_wp2
        go_loopw [11, 12, 13] (fun s3 _ _ wr => s3 = .int .i64 0 ∧ wa = wr) (fun _ _ _ _ => 0)
        case atStart => exact ⟨rfl, rfl⟩
        case round =>
          obtain ⟨rfl, rfl⟩ := hrel
          go_wp2
          go_loopw [2, 14, 15] (fun r s3 _ wr => r = .bool false ∧ s3 = .int .i64 0 ∧ wa = wr) (fun _ _ _ _ => 0)
          case atStart => exact ⟨rfl, rfl, rfl⟩
          case round =>
            obtain ⟨rfl, rfl, rfl⟩ := hrel
            go_wp2
            go_ret
            exact ⟨rfl, FA.out⟩

set_option maxRecDepth 8000 in
set_option maxHeartbeats 3200000 in
theorem flatEnsembles_nil (w : World) : Calls Tryz.prog 62 #[.slice none 0 0] w fun e w' => e = .returned (.bool true) ∧ Fr NoB w w' := by
  obtain ⟨wa, hmk, fa⟩ := make_zero (P := Tryz.prog) w 81 _ Tryz.underlying81 (by kernel_rfl)
  have FA := Lib.hid fa
  clear fa
  go_enter Tryz.func62, Tryz.ntmps62
  go_wp2
  go_loopw [3, 4] (fun s3 _ wr => s3 = .int .i64 0 ∧ w = wr) (fun _ _ _ => 0)
  case atStart => exact ⟨rfl, rfl⟩
  case round =>
    obtain ⟨rfl, rfl⟩ := hrel
    go_wp2
    go_loopw [6, 7, 8] (fun s3 _ _ wr => s3 = .int .i64 0 ∧ wa = wr) (fun _ _ _ _ => 0)
    case atStart => exact ⟨rfl, rfl⟩
    case round =>
      obtain ⟨rfl, rfl⟩ := hrel
      go_wp2
      go_loopw [2, 9, 10] (fun r s3 _ wr => r = .bool false ∧ s3 = .int .i64 0 ∧ wa = wr) (fun _ _ _ _ => 0)
      case atStart => exact ⟨rfl, rfl, rfl⟩
      case round =>
        obtain ⟨rfl, rfl, rfl⟩ := hrel
        go_wp2
        go_loopw [11, 12, 13] (fun s3 _ _ wr => s3 = .int .i64 0 ∧ wa = wr) (fun _ _ _ _ => 0)
        case atStart => exact ⟨rfl, rfl⟩
        case round =>
          obtain ⟨rfl, rfl⟩ := hrel
          go_wp2
          go_loopw [2, 14, 15] (fun r s3 _ wr => r = .bool false ∧ s3 = .int .i64 0 ∧ wa = wr) (fun _ _ _ _ => 0)
          case atStart => exact ⟨rfl, rfl, rfl⟩
          case round =>
            obtain ⟨rfl, rfl, rfl⟩ := hrel
            go_wp2
            go_ret
            exact ⟨rfl, FA.out⟩

set_option maxRecDepth 8000 in
set_option maxHeartbeats 3200000 in
theorem flatDeeds_nil (w : World) : Calls Tryz.prog 63 #[.slice none 0 0] w fun e w' => e = .returned (.bool true) ∧ Fr NoB w w' := by
  obtain ⟨wa, hmk, fa⟩ := make_zero (P := Tryz.prog) w 82 _ Tryz.underlying82 (by kernel_rfl)
  have FA := Lib.hid fa
  clear fa
  go_enter Tryz.func63, Tryz.ntmps63
  go_wp2
  go_loopw [3, 4] (fun s3 _ wr => s3 = .int .i64 0 ∧ w = wr) (fun _ _ _ => 0)
  case atStart => exact ⟨rfl, rfl⟩
  case round =>
    obtain ⟨rfl, rfl⟩ := hrel
    go_wp2
    go_loopw [6, 7, 8] (fun s3 _ _ wr => s3 = .int .i64 0 ∧ wa = wr) (fun _ _ _ _ => 0)
    case atStart => exact ⟨rfl, rfl⟩
    case round =>
      obtain ⟨rfl, rfl⟩ := hrel
      go_wp2
      go_loopw [2, 9, 10] (fun r s3 _ wr => r = .bool false ∧ s3 = .int .i64 0 ∧ wa = wr) (fun _ _ _ _ => 0)
      case atStart => exact ⟨rfl, rfl, rfl⟩
      case round =>
        obtain ⟨rfl, rfl, rfl⟩ := hrel
        go_wp2
        go_loopw [11, 12, 13] (fun s3 _ _ wr => s3 = .int .i64 0 ∧ wa = wr) (fun _ _ _ _ => 0)
        case atStart => exact ⟨rfl, rfl⟩
        case round =>
          obtain ⟨rfl, rfl⟩ := hrel
          go_wp2
          go_loopw [2, 14, 15] (fun r s3 _ wr => r = .bool false ∧ s3 = .int .i64 0 ∧ wa = wr) (fun _ _ _ _ => 0)
          case atStart => exact ⟨rfl, rfl, rfl⟩
          case round =>
            obtain ⟨rfl, rfl, rfl⟩ := hrel
            go_wp2
            go_ret
            exact ⟨rfl, FA.out⟩

set_option maxRecDepth 8000 in
set_option maxHeartbeats 3200000 in
theorem flatNodes_nil (w : World) : Calls Tryz.prog 64 #[.slice none 0 0] w fun e w' => e = .returned (.bool true) ∧ Fr NoB w w' := by
  obtain ⟨wa, hmk, fa⟩ := make_zero (P := Tryz.prog) w 83 _ Tryz.underlying83 (by kernel_rfl)
  have FA := Lib.hid fa
  clear fa
  go_enter Tryz.func64, Tryz.ntmps64
  go_wp2
  go_loopw [3, 4] (fun s3 _ wr => s3 = .int .i64 0 ∧ w = wr) (fun _ _ _ => 0)
  case atStart => exact ⟨rfl, rfl⟩
  case round =>
    obtain ⟨rfl, rfl⟩ := hrel
    go_wp2
    go_loopw [6, 7, 8] (fun s3 _ _ wr => s3 = .int .i64 0 ∧ wa = wr) (fun _ _ _ _ => 0)
    case atStart => exact ⟨rfl, rfl⟩
    case round =>
      obtain ⟨rfl, rfl⟩ := hrel
      go_wp2
      go_loopw [2, 9, 10] (fun r s3 _ wr => r = .bool false ∧ s3 = .int .i64 0 ∧ wa = wr) (fun _ _ _ _ => 0)
      case atStart => exact ⟨rfl, rfl, rfl⟩
      case round =>
        obtain ⟨rfl, rfl, rfl⟩ := hrel
        go_wp2
        go_loopw [11, 12, 13] (fun s3 _ _ wr => s3 = .int .i64 0 ∧ wa = wr) (fun _ _ _ _ => 0)
        case atStart => exact ⟨rfl, rfl⟩
        case round =>
          obtain ⟨rfl, rfl⟩ := hrel
          go_wp2
          go_loopw [2, 14, 15] (fun r s3 _ wr => r = .bool false ∧ s3 = .int .i64 0 ∧ wa = wr) (fun _ _ _ _ => 0)
          case atStart => exact ⟨rfl, rfl, rfl⟩
          case round =>
            obtain ⟨rfl, rfl, rfl⟩ := hrel
            go_wp2
            go_ret
            exact ⟨rfl, FA.out⟩

set_option maxRecDepth 8000 in
set_option maxHeartbeats 3200000 in
theorem flatSittings_nil (w : World) : Calls Tryz.prog 65 #[.slice none 0 0] w fun e w' => e = .returned (.bool true) ∧ Fr NoB w w' := by
  obtain ⟨wa, hmk, fa⟩ := make_zero (P := Tryz.prog) w 84 _ Tryz.underlying84 (by kernel_rfl)
  have FA := Lib.hid fa
  clear fa
  go_enter Tryz.func65, Tryz.ntmps65
  go_wp2
  go_loopw [3, 4] (fun s3 _ wr => s3 = .int .i64 0 ∧ w = wr) (fun _ _ _ => 0)
  case atStart => exact ⟨rfl, rfl⟩
  case round =>
    obtain ⟨rfl, rfl⟩ := hrel
    go_wp2
    go_loopw [6, 7, 8] (fun s3 _ _ wr => s3 = .int .i64 0 ∧ wa = wr) (fun _ _ _ _ => 0)
    case atStart => exact ⟨rfl, rfl⟩
    case round =>
      obtain ⟨rfl, rfl⟩ := hrel
      go_wp2
      go_loopw [2, 9, 10] (fun r s3 _ wr => r = .bool false ∧ s3 = .int .i64 0 ∧ wa = wr) (fun _ _ _ _ => 0)
      case atStart => exact ⟨rfl, rfl, rfl⟩
      case round =>
        obtain ⟨rfl, rfl, rfl⟩ := hrel
        go_wp2
        go_loopw [11, 12, 13] (fun s3 _ _ wr => s3 = .int .i64 0 ∧ wa = wr) (fun _ _ _ _ => 0)
        case atStart => exact ⟨rfl, rfl⟩
        case round =>
          obtain ⟨rfl, rfl⟩ := hrel
          go_wp2
          go_loopw [2, 14, 15] (fun r s3 _ wr => r = .bool false ∧ s3 = .int .i64 0 ∧ wa = wr) (fun _ _ _ _ => 0)
          case atStart => exact ⟨rfl, rfl, rfl⟩
          case round =>
            obtain ⟨rfl, rfl, rfl⟩ := hrel
            go_wp2
            go_ret
            exact ⟨rfl, FA.out⟩

set_option maxRecDepth 8000 in
set_option maxHeartbeats 3200000 in
theorem flatAsks_nil (w : World) : Calls Tryz.prog 66 #[.slice none 0 0] w fun e w' => e = .returned (.bool true) ∧ Fr NoB w w' := by
  obtain ⟨wa, hmk, fa⟩ := make_zero (P := Tryz.prog) w 85 _ Tryz.underlying85 (by kernel_rfl)
  have FA := Lib.hid fa
  clear fa
  go_enter Tryz.func66, Tryz.ntmps66
  go_wp2
  go_loopw [3, 4] (fun s3 _ wr => s3 = .int .i64 0 ∧ w = wr) (fun _ _ _ => 0)
  case atStart => exact ⟨rfl, rfl⟩
  case round =>
    obtain ⟨rfl, rfl⟩ := hrel
    go_wp2
    go_loopw [6, 7, 8] (fun s3 _ _ wr => s3 = .int .i64 0 ∧ wa = wr) (fun _ _ _ _ => 0)
    case atStart => exact ⟨rfl, rfl⟩
    case round =>
      obtain ⟨rfl, rfl⟩ := hrel
      go_wp2
      go_loopw [2, 9, 10] (fun r s3 _ wr => r = .bool false ∧ s3 = .int .i64 0 ∧ wa = wr) (fun _ _ _ _ => 0)
      case atStart => exact ⟨rfl, rfl, rfl⟩
      case round =>
        obtain ⟨rfl, rfl, rfl⟩ := hrel
        go_wp2
        go_loopw [11, 12, 13] (fun s3 _ _ wr => s3 = .int .i64 0 ∧ wa = wr) (fun _ _ _ _ => 0)
        case atStart => exact ⟨rfl, rfl⟩
        case round =>
          obtain ⟨rfl, rfl⟩ := hrel
          go_wp2
          go_loopw [2, 14, 15] (fun r s3 _ wr => r = .bool false ∧ s3 = .int .i64 0 ∧ wa = wr) (fun _ _ _ _ => 0)
          case atStart => exact ⟨rfl, rfl, rfl⟩
          case round =>
            obtain ⟨rfl, rfl, rfl⟩ := hrel
            go_wp2
            go_ret
            exact ⟨rfl, FA.out⟩

set_option maxRecDepth 8000 in
set_option maxHeartbeats 3200000 in
theorem flatReplies_nil (w : World) : Calls Tryz.prog 67 #[.slice none 0 0] w fun e w' => e = .returned (.bool true) ∧ Fr NoB w w' := by
  obtain ⟨wa, hmk, fa⟩ := make_zero (P := Tryz.prog) w 86 _ Tryz.underlying86 (by kernel_rfl)
  have FA := Lib.hid fa
  clear fa
  go_enter Tryz.func67, Tryz.ntmps67
  go_wp2
  go_loopw [3, 4] (fun s3 _ wr => s3 = .int .i64 0 ∧ w = wr) (fun _ _ _ => 0)
  case atStart => exact ⟨rfl, rfl⟩
  case round =>
    obtain ⟨rfl, rfl⟩ := hrel
    go_wp2
    go_loopw [6, 7, 8] (fun s3 _ _ wr => s3 = .int .i64 0 ∧ wa = wr) (fun _ _ _ _ => 0)
    case atStart => exact ⟨rfl, rfl⟩
    case round =>
      obtain ⟨rfl, rfl⟩ := hrel
      go_wp2
      go_loopw [2, 9, 10] (fun r s3 _ wr => r = .bool false ∧ s3 = .int .i64 0 ∧ wa = wr) (fun _ _ _ _ => 0)
      case atStart => exact ⟨rfl, rfl, rfl⟩
      case round =>
        obtain ⟨rfl, rfl, rfl⟩ := hrel
        go_wp2
        go_loopw [11, 12, 13] (fun s3 _ _ wr => s3 = .int .i64 0 ∧ wa = wr) (fun _ _ _ _ => 0)
        case atStart => exact ⟨rfl, rfl⟩
        case round =>
          obtain ⟨rfl, rfl⟩ := hrel
          go_wp2
          go_loopw [2, 14, 15] (fun r s3 _ wr => r = .bool false ∧ s3 = .int .i64 0 ∧ wa = wr) (fun _ _ _ _ => 0)
          case atStart => exact ⟨rfl, rfl, rfl⟩
          case round =>
            obtain ⟨rfl, rfl, rfl⟩ := hrel
            go_wp2
            go_ret
            exact ⟨rfl, FA.out⟩

set_option maxRecDepth 8000 in
set_option maxHeartbeats 3200000 in
theorem flatEvents_nil (w : World) : Calls Tryz.prog 68 #[.slice none 0 0] w fun e w' => e = .returned (.bool true) ∧ Fr NoB w w' := by
  obtain ⟨wa, hmk, fa⟩ := make_zero (P := Tryz.prog) w 87 _ Tryz.underlying87 (by kernel_rfl)
  have FA := Lib.hid fa
  clear fa
  go_enter Tryz.func68, Tryz.ntmps68
  go_wp2
  go_loopw [3, 4] (fun s3 _ wr => s3 = .int .i64 0 ∧ w = wr) (fun _ _ _ => 0)
  case atStart => exact ⟨rfl, rfl⟩
  case round =>
    obtain ⟨rfl, rfl⟩ := hrel
    go_wp2
    go_loopw [6, 7, 8] (fun s3 _ _ wr => s3 = .int .i64 0 ∧ wa = wr) (fun _ _ _ _ => 0)
    case atStart => exact ⟨rfl, rfl⟩
    case round =>
      obtain ⟨rfl, rfl⟩ := hrel
      go_wp2
      go_loopw [2, 9, 10] (fun r s3 _ wr => r = .bool false ∧ s3 = .int .i64 0 ∧ wa = wr) (fun _ _ _ _ => 0)
      case atStart => exact ⟨rfl, rfl, rfl⟩
      case round =>
        obtain ⟨rfl, rfl, rfl⟩ := hrel
        go_wp2
        go_loopw [11, 12, 13] (fun s3 _ _ wr => s3 = .int .i64 0 ∧ wa = wr) (fun _ _ _ _ => 0)
        case atStart => exact ⟨rfl, rfl⟩
        case round =>
          obtain ⟨rfl, rfl⟩ := hrel
          go_wp2
          go_loopw [2, 14, 15] (fun r s3 _ wr => r = .bool false ∧ s3 = .int .i64 0 ∧ wa = wr) (fun _ _ _ _ => 0)
          case atStart => exact ⟨rfl, rfl, rfl⟩
          case round =>
            obtain ⟨rfl, rfl, rfl⟩ := hrel
            go_wp2
            go_ret
            exact ⟨rfl, FA.out⟩

set_option maxRecDepth 8000 in
set_option maxHeartbeats 3200000 in
theorem flatLetters_nil (w : World) : Calls Tryz.prog 69 #[.slice none 0 0] w fun e w' => e = .returned (.bool true) ∧ Fr NoB w w' := by
  obtain ⟨wa, hmk, fa⟩ := make_zero (P := Tryz.prog) w 88 _ Tryz.underlying88 (by kernel_rfl)
  have FA := Lib.hid fa
  clear fa
  go_enter Tryz.func69, Tryz.ntmps69
  go_wp2
  go_loopw [3, 4] (fun s3 _ wr => s3 = .int .i64 0 ∧ w = wr) (fun _ _ _ => 0)
  case atStart => exact ⟨rfl, rfl⟩
  case round =>
    obtain ⟨rfl, rfl⟩ := hrel
    go_wp2
    go_loopw [6, 7, 8] (fun s3 _ _ wr => s3 = .int .i64 0 ∧ wa = wr) (fun _ _ _ _ => 0)
    case atStart => exact ⟨rfl, rfl⟩
    case round =>
      obtain ⟨rfl, rfl⟩ := hrel
      go_wp2
      go_loopw [2, 9, 10] (fun r s3 _ wr => r = .bool false ∧ s3 = .int .i64 0 ∧ wa = wr) (fun _ _ _ _ => 0)
      case atStart => exact ⟨rfl, rfl, rfl⟩
      case round =>
        obtain ⟨rfl, rfl, rfl⟩ := hrel
        go_wp2
        go_loopw [11, 12, 13] (fun s3 _ _ wr => s3 = .int .i64 0 ∧ wa = wr) (fun _ _ _ _ => 0)
        case atStart => exact ⟨rfl, rfl⟩
        case round =>
          obtain ⟨rfl, rfl⟩ := hrel
          go_wp2
          go_loopw [2, 14, 15] (fun r s3 _ wr => r = .bool false ∧ s3 = .int .i64 0 ∧ wa = wr) (fun _ _ _ _ => 0)
          case atStart => exact ⟨rfl, rfl, rfl⟩
          case round =>
            obtain ⟨rfl, rfl, rfl⟩ := hrel
            go_wp2
            go_ret
            exact ⟨rfl, FA.out⟩

set_option maxRecDepth 8000 in
set_option maxHeartbeats 3200000 in
theorem flatPackets_nil (w : World) : Calls Tryz.prog 70 #[.slice none 0 0] w fun e w' => e = .returned (.bool true) ∧ Fr NoB w w' := by
  obtain ⟨wa, hmk, fa⟩ := make_zero (P := Tryz.prog) w 89 _ Tryz.underlying89 (by kernel_rfl)
  have FA := Lib.hid fa
  clear fa
  go_enter Tryz.func70, Tryz.ntmps70
  go_wp2
  go_loopw [3, 4] (fun s3 _ wr => s3 = .int .i64 0 ∧ w = wr) (fun _ _ _ => 0)
  case atStart => exact ⟨rfl, rfl⟩
  case round =>
    obtain ⟨rfl, rfl⟩ := hrel
    go_wp2
    go_loopw [6, 7, 8] (fun s3 _ _ wr => s3 = .int .i64 0 ∧ wa = wr) (fun _ _ _ _ => 0)
    case atStart => exact ⟨rfl, rfl⟩
    case round =>
      obtain ⟨rfl, rfl⟩ := hrel
      go_wp2
      go_loopw [2, 9, 10] (fun r s3 _ wr => r = .bool false ∧ s3 = .int .i64 0 ∧ wa = wr) (fun _ _ _ _ => 0)
      case atStart => exact ⟨rfl, rfl, rfl⟩
      case round =>
        obtain ⟨rfl, rfl, rfl⟩ := hrel
        go_wp2
        go_loopw [11, 12, 13] (fun s3 _ _ wr => s3 = .int .i64 0 ∧ wa = wr) (fun _ _ _ _ => 0)
        case atStart => exact ⟨rfl, rfl⟩
        case round =>
          obtain ⟨rfl, rfl⟩ := hrel
          go_wp2
          go_loopw [2, 14, 15] (fun r s3 _ wr => r = .bool false ∧ s3 = .int .i64 0 ∧ wa = wr) (fun _ _ _ _ => 0)
          case atStart => exact ⟨rfl, rfl, rfl⟩
          case round =>
            obtain ⟨rfl, rfl, rfl⟩ := hrel
            go_wp2
            go_ret
            exact ⟨rfl, FA.out⟩

set_option maxRecDepth 8000 in
set_option maxHeartbeats 3200000 in
theorem flatMails_nil (w : World) : Calls Tryz.prog 71 #[.slice none 0 0] w fun e w' => e = .returned (.bool true) ∧ Fr NoB w w' := by
  obtain ⟨wa, hmk, fa⟩ := make_zero (P := Tryz.prog) w 90 _ Tryz.underlying90 (by kernel_rfl)
  have FA := Lib.hid fa
  clear fa
  go_enter Tryz.func71, Tryz.ntmps71
  go_wp2
  go_loopw [3, 4] (fun s3 _ wr => s3 = .int .i64 0 ∧ w = wr) (fun _ _ _ => 0)
  case atStart => exact ⟨rfl, rfl⟩
  case round =>
    obtain ⟨rfl, rfl⟩ := hrel
    go_wp2
    go_loopw [6, 7, 8] (fun s3 _ _ wr => s3 = .int .i64 0 ∧ wa = wr) (fun _ _ _ _ => 0)
    case atStart => exact ⟨rfl, rfl⟩
    case round =>
      obtain ⟨rfl, rfl⟩ := hrel
      go_wp2
      go_loopw [2, 9, 10] (fun r s3 _ wr => r = .bool false ∧ s3 = .int .i64 0 ∧ wa = wr) (fun _ _ _ _ => 0)
      case atStart => exact ⟨rfl, rfl, rfl⟩
      case round =>
        obtain ⟨rfl, rfl, rfl⟩ := hrel
        go_wp2
        go_loopw [11, 12, 13] (fun s3 _ _ wr => s3 = .int .i64 0 ∧ wa = wr) (fun _ _ _ _ => 0)
        case atStart => exact ⟨rfl, rfl⟩
        case round =>
          obtain ⟨rfl, rfl⟩ := hrel
          go_wp2
          go_loopw [2, 14, 15] (fun r s3 _ wr => r = .bool false ∧ s3 = .int .i64 0 ∧ wa = wr) (fun _ _ _ _ => 0)
          case atStart => exact ⟨rfl, rfl, rfl⟩
          case round =>
            obtain ⟨rfl, rfl, rfl⟩ := hrel
            go_wp2
            go_ret
            exact ⟨rfl, FA.out⟩

set_option maxRecDepth 8000 in
set_option maxHeartbeats 3200000 in
theorem flatSteps_nil (w : World) : Calls Tryz.prog 72 #[.slice none 0 0] w fun e w' => e = .returned (.bool true) ∧ Fr NoB w w' := by
  obtain ⟨wa, hmk, fa⟩ := make_zero (P := Tryz.prog) w 91 _ Tryz.underlying91 (by kernel_rfl)
  have FA := Lib.hid fa
  clear fa
  go_enter Tryz.func72, Tryz.ntmps72
  go_wp2
  go_loopw [3, 4] (fun s3 _ wr => s3 = .int .i64 0 ∧ w = wr) (fun _ _ _ => 0)
  case atStart => exact ⟨rfl, rfl⟩
  case round =>
    obtain ⟨rfl, rfl⟩ := hrel
    go_wp2
    go_loopw [6, 7, 8] (fun s3 _ _ wr => s3 = .int .i64 0 ∧ wa = wr) (fun _ _ _ _ => 0)
    case atStart => exact ⟨rfl, rfl⟩
    case round =>
      obtain ⟨rfl, rfl⟩ := hrel
      go_wp2
      go_loopw [2, 9, 10] (fun r s3 _ wr => r = .bool false ∧ s3 = .int .i64 0 ∧ wa = wr) (fun _ _ _ _ => 0)
      case atStart => exact ⟨rfl, rfl, rfl⟩
      case round =>
        obtain ⟨rfl, rfl, rfl⟩ := hrel
        go_wp2
        go_loopw [11, 12, 13] (fun s3 _ _ wr => s3 = .int .i64 0 ∧ wa = wr) (fun _ _ _ _ => 0)
        case atStart => exact ⟨rfl, rfl⟩
        case round =>
          obtain ⟨rfl, rfl⟩ := hrel
          go_wp2
          go_loopw [2, 14, 15] (fun r s3 _ wr => r = .bool false ∧ s3 = .int .i64 0 ∧ wa = wr) (fun _ _ _ _ => 0)
          case atStart => exact ⟨rfl, rfl, rfl⟩
          case round =>
            obtain ⟨rfl, rfl, rfl⟩ := hrel
            go_wp2
            go_ret
            exact ⟨rfl, FA.out⟩

set_option maxRecDepth 8000 in
set_option maxHeartbeats 3200000 in
theorem flatTales_nil (w : World) : Calls Tryz.prog 73 #[.slice none 0 0] w fun e w' => e = .returned (.bool true) ∧ Fr NoB w w' := by
  obtain ⟨wa, hmk, fa⟩ := make_zero (P := Tryz.prog) w 92 _ Tryz.underlying92 (by kernel_rfl)
  have FA := Lib.hid fa
  clear fa
  go_enter Tryz.func73, Tryz.ntmps73
  go_wp2
  go_loopw [3, 4] (fun s3 _ wr => s3 = .int .i64 0 ∧ w = wr) (fun _ _ _ => 0)
  case atStart => exact ⟨rfl, rfl⟩
  case round =>
    obtain ⟨rfl, rfl⟩ := hrel
    go_wp2
    go_loopw [6, 7, 8] (fun s3 _ _ wr => s3 = .int .i64 0 ∧ wa = wr) (fun _ _ _ _ => 0)
    case atStart => exact ⟨rfl, rfl⟩
    case round =>
      obtain ⟨rfl, rfl⟩ := hrel
      go_wp2
      go_loopw [2, 9, 10] (fun r s3 _ wr => r = .bool false ∧ s3 = .int .i64 0 ∧ wa = wr) (fun _ _ _ _ => 0)
      case atStart => exact ⟨rfl, rfl, rfl⟩
      case round =>
        obtain ⟨rfl, rfl, rfl⟩ := hrel
        go_wp2
        go_loopw [11, 12, 13] (fun s3 _ _ wr => s3 = .int .i64 0 ∧ wa = wr) (fun _ _ _ _ => 0)
        case atStart => exact ⟨rfl, rfl⟩
        case round =>
          obtain ⟨rfl, rfl⟩ := hrel
          go_wp2
          go_loopw [2, 14, 15] (fun r s3 _ wr => r = .bool false ∧ s3 = .int .i64 0 ∧ wa = wr) (fun _ _ _ _ => 0)
          case atStart => exact ⟨rfl, rfl, rfl⟩
          case round =>
            obtain ⟨rfl, rfl, rfl⟩ := hrel
            go_wp2
            go_ret
            exact ⟨rfl, FA.out⟩

set_option maxRecDepth 8000 in
set_option maxHeartbeats 3200000 in
theorem flatCharters_nil (w : World) : Calls Tryz.prog 74 #[.slice none 0 0] w fun e w' => e = .returned (.bool true) ∧ Fr NoB w w' := by
  obtain ⟨wa, hmk, fa⟩ := make_zero (P := Tryz.prog) w 93 _ Tryz.underlying93 (by kernel_rfl)
  have FA := Lib.hid fa
  clear fa
  go_enter Tryz.func74, Tryz.ntmps74
  go_wp2
  go_loopw [3, 4] (fun s3 _ wr => s3 = .int .i64 0 ∧ w = wr) (fun _ _ _ => 0)
  case atStart => exact ⟨rfl, rfl⟩
  case round =>
    obtain ⟨rfl, rfl⟩ := hrel
    go_wp2
    go_loopw [6, 7, 8] (fun s3 _ _ wr => s3 = .int .i64 0 ∧ wa = wr) (fun _ _ _ _ => 0)
    case atStart => exact ⟨rfl, rfl⟩
    case round =>
      obtain ⟨rfl, rfl⟩ := hrel
      go_wp2
      go_loopw [2, 9, 10] (fun r s3 _ wr => r = .bool false ∧ s3 = .int .i64 0 ∧ wa = wr) (fun _ _ _ _ => 0)
      case atStart => exact ⟨rfl, rfl, rfl⟩
      case round =>
        obtain ⟨rfl, rfl, rfl⟩ := hrel
        go_wp2
        go_loopw [11, 12, 13] (fun s3 _ _ wr => s3 = .int .i64 0 ∧ wa = wr) (fun _ _ _ _ => 0)
        case atStart => exact ⟨rfl, rfl⟩
        case round =>
          obtain ⟨rfl, rfl⟩ := hrel
          go_wp2
          go_loopw [2, 14, 15] (fun r s3 _ wr => r = .bool false ∧ s3 = .int .i64 0 ∧ wa = wr) (fun _ _ _ _ => 0)
          case atStart => exact ⟨rfl, rfl, rfl⟩
          case round =>
            obtain ⟨rfl, rfl, rfl⟩ := hrel
            go_wp2
            go_ret
            exact ⟨rfl, FA.out⟩


/-- A bag that holds lists of bytes alone. -/
def bagC (x : Value) : Array Value := #[.slice none 0 0, .slice none 0 0, .slice none 0 0, .slice none 0 0, x, .slice none 0 0, .slice none 0 0, .slice none 0 0, .slice none 0 0, .slice none 0 0, .slice none 0 0, .slice none 0 0, .slice none 0 0, .slice none 0 0, .slice none 0 0, .slice none 0 0, .slice none 0 0, .slice none 0 0, .slice none 0 0, .slice none 0 0]
theorem bag_cells {w : World} {P : Nat} {x : Value} {t : TypeId} (h : w.heap[P]? = some (.cells (bagC x) t (0, 0))) : w.cell? ⟨P, 0, none⟩ = some (.slice none 0 0) ∧ w.cell? ⟨P, 1, none⟩ = some (.slice none 0 0) ∧ w.cell? ⟨P, 2, none⟩ = some (.slice none 0 0) ∧ w.cell? ⟨P, 3, none⟩ = some (.slice none 0 0) ∧ w.cell? ⟨P, 4, none⟩ = some (x) ∧ w.cell? ⟨P, 5, none⟩ = some (.slice none 0 0) ∧ w.cell? ⟨P, 6, none⟩ = some (.slice none 0 0) ∧ w.cell? ⟨P, 7, none⟩ = some (.slice none 0 0) ∧ w.cell? ⟨P, 8, none⟩ = some (.slice none 0 0) ∧ w.cell? ⟨P, 9, none⟩ = some (.slice none 0 0) ∧ w.cell? ⟨P, 10, none⟩ = some (.slice none 0 0) ∧ w.cell? ⟨P, 11, none⟩ = some (.slice none 0 0) ∧ w.cell? ⟨P, 12, none⟩ = some (.slice none 0 0) ∧ w.cell? ⟨P, 13, none⟩ = some (.slice none 0 0) ∧ w.cell? ⟨P, 14, none⟩ = some (.slice none 0 0) ∧ w.cell? ⟨P, 15, none⟩ = some (.slice none 0 0) ∧ w.cell? ⟨P, 16, none⟩ = some (.slice none 0 0) ∧ w.cell? ⟨P, 17, none⟩ = some (.slice none 0 0) ∧ w.cell? ⟨P, 18, none⟩ = some (.slice none 0 0) ∧ w.cell? ⟨P, 19, none⟩ = some (.slice none 0 0) :=
  ⟨Lib.cell_of_heap h 0, Lib.cell_of_heap h 1, Lib.cell_of_heap h 2, Lib.cell_of_heap h 3, Lib.cell_of_heap h 4, Lib.cell_of_heap h 5, Lib.cell_of_heap h 6, Lib.cell_of_heap h 7, Lib.cell_of_heap h 8, Lib.cell_of_heap h 9, Lib.cell_of_heap h 10, Lib.cell_of_heap h 11, Lib.cell_of_heap h 12, Lib.cell_of_heap h 13, Lib.cell_of_heap h 14, Lib.cell_of_heap h 15, Lib.cell_of_heap h 16, Lib.cell_of_heap h 17, Lib.cell_of_heap h 18, Lib.cell_of_heap h 19⟩

set_option maxRecDepth 8000 in
set_option maxHeartbeats 6400000 in
theorem apart_calls (B K L cL P : Nat) (V : Nat → Value) (N : Nat → Nat) (Y0 : Nat → List UInt8) (w : World) (h : Lay w B K L cL V N Y0) (hF : Far K L V) (hB : B ≤ w.heap.size) (hK : K ≤ 1000) (hN : ∀ k, k < K → N k ≤ 100000000000000) (M : Nat → Prop) (hMV : ∀ k, k < K → ∀ g, (V k).ownBlock = some g → M g)
    (hP : w.heap[P]? = some (.cells (bagC (.slice (some ⟨L, 0, none⟩) K cL)) 95 (0, 0))) (hMP : ¬ M P) :
    Calls Tryz.prog 45 #[.pointer (some ⟨P, 0, none⟩)] w fun e w' => e = .returned (.bool true) ∧ Fr M w w' := by
  have HFB := Lib.hid (fun W (f : Fr NoB w W) => flatb_calls B K L cL V N Y0 W (h.fr f (fun x => x) (fun _ _ _ _ x => x)) hF (Nat.le_trans hB f.size) hK hN M hMV)
  have HP := Lib.hid (fun W (f : Fr M w W) => bag_cells (f.at_ hP hMP))
  have F0 := Lib.hid (Fr.refl M w)
  have E0 := Lib.hid (Fr.refl NoB w)
  clear h hF hN hMV hP
  go_enter Tryz.func45, Tryz.ntmps45
  have hc0 := (HP.out _ F0.out).1
  go_wp2_with (fail)
  clear hc0
  refine (flatWords_nil _).mono ?_
  rintro e w1 ⟨rfl, f⟩
  have F1 := Lib.hid (F0.out.then f.no)
  have E1 := Lib.hid (E0.out.then f)
  clear f
  have hc1 := (HP.out _ F1.out).2.1
  go_wp2_with (fail)
  clear hc1
  refine (flatInts_nil _).mono ?_
  rintro e w2 ⟨rfl, f⟩
  have F2 := Lib.hid (F1.out.then f.no)
  have E2 := Lib.hid (E1.out.then f)
  clear f
  have hc2 := (HP.out _ F2.out).2.2.1
  go_wp2_with (fail)
  clear hc2
  refine (flatLongs_nil _).mono ?_
  rintro e w3 ⟨rfl, f⟩
  have F3 := Lib.hid (F2.out.then f.no)
  have E3 := Lib.hid (E2.out.then f)
  clear f
  have hc3 := (HP.out _ F3.out).2.2.2.1
  go_wp2_with (fail)
  clear hc3
  refine (flatTexts_nil _).mono ?_
  rintro e w4 ⟨rfl, f⟩
  have F4 := Lib.hid (F3.out.then f.no)
  have E4 := Lib.hid (E3.out.then f)
  clear f
  have hc4 := (HP.out _ F4.out).2.2.2.2.1
  go_wp2_with (fail)
  clear hc4
  refine (HFB.out _ E4.out).mono ?_
  rintro e w5 ⟨rfl, f⟩
  have F5 := Lib.hid (F4.out.then f)
  clear f
  have hc5 := (HP.out _ F5.out).2.2.2.2.2.1
  go_wp2_with (fail)
  clear hc5
  refine (flatZxids_nil _).mono ?_
  rintro e w6 ⟨rfl, f⟩
  have F6 := Lib.hid (F5.out.then f.no)
  clear f
  have hc6 := (HP.out _ F6.out).2.2.2.2.2.2.1
  go_wp2_with (fail)
  clear hc6
  refine (flatMembers_nil _).mono ?_
  rintro e w7 ⟨rfl, f⟩
  have F7 := Lib.hid (F6.out.then f.no)
  clear f
  have hc7 := (HP.out _ F7.out).2.2.2.2.2.2.2.1
  go_wp2_with (fail)
  clear hc7
  refine (flatEnsembles_nil _).mono ?_
  rintro e w8 ⟨rfl, f⟩
  have F8 := Lib.hid (F7.out.then f.no)
  clear f
  have hc8 := (HP.out _ F8.out).2.2.2.2.2.2.2.2.1
  go_wp2_with (fail)
  clear hc8
  refine (flatDeeds_nil _).mono ?_
  rintro e w9 ⟨rfl, f⟩
  have F9 := Lib.hid (F8.out.then f.no)
  clear f
  have hc9 := (HP.out _ F9.out).2.2.2.2.2.2.2.2.2.1
  go_wp2_with (fail)
  clear hc9
  refine (flatNodes_nil _).mono ?_
  rintro e w10 ⟨rfl, f⟩
  have F10 := Lib.hid (F9.out.then f.no)
  clear f
  have hc10 := (HP.out _ F10.out).2.2.2.2.2.2.2.2.2.2.1
  go_wp2_with (fail)
  clear hc10
  refine (flatSittings_nil _).mono ?_
  rintro e w11 ⟨rfl, f⟩
  have F11 := Lib.hid (F10.out.then f.no)
  clear f
  have hc11 := (HP.out _ F11.out).2.2.2.2.2.2.2.2.2.2.2.1
  go_wp2_with (fail)
  clear hc11
  refine (flatAsks_nil _).mono ?_
  rintro e w12 ⟨rfl, f⟩
  have F12 := Lib.hid (F11.out.then f.no)
  clear f
  have hc12 := (HP.out _ F12.out).2.2.2.2.2.2.2.2.2.2.2.2.1
  go_wp2_with (fail)
  clear hc12
  refine (flatReplies_nil _).mono ?_
  rintro e w13 ⟨rfl, f⟩
  have F13 := Lib.hid (F12.out.then f.no)
  clear f
  have hc13 := (HP.out _ F13.out).2.2.2.2.2.2.2.2.2.2.2.2.2.1
  go_wp2_with (fail)
  clear hc13
  refine (flatEvents_nil _).mono ?_
  rintro e w14 ⟨rfl, f⟩
  have F14 := Lib.hid (F13.out.then f.no)
  clear f
  have hc14 := (HP.out _ F14.out).2.2.2.2.2.2.2.2.2.2.2.2.2.2.1
  go_wp2_with (fail)
  clear hc14
  refine (flatLetters_nil _).mono ?_
  rintro e w15 ⟨rfl, f⟩
  have F15 := Lib.hid (F14.out.then f.no)
  clear f
  have hc15 := (HP.out _ F15.out).2.2.2.2.2.2.2.2.2.2.2.2.2.2.2.1
  go_wp2_with (fail)
  clear hc15
  refine (flatPackets_nil _).mono ?_
  rintro e w16 ⟨rfl, f⟩
  have F16 := Lib.hid (F15.out.then f.no)
  clear f
  have hc16 := (HP.out _ F16.out).2.2.2.2.2.2.2.2.2.2.2.2.2.2.2.2.1
  go_wp2_with (fail)
  clear hc16
  refine (flatMails_nil _).mono ?_
  rintro e w17 ⟨rfl, f⟩
  have F17 := Lib.hid (F16.out.then f.no)
  clear f
  have hc17 := (HP.out _ F17.out).2.2.2.2.2.2.2.2.2.2.2.2.2.2.2.2.2.1
  go_wp2_with (fail)
  clear hc17
  refine (flatSteps_nil _).mono ?_
  rintro e w18 ⟨rfl, f⟩
  have F18 := Lib.hid (F17.out.then f.no)
  clear f
  have hc18 := (HP.out _ F18.out).2.2.2.2.2.2.2.2.2.2.2.2.2.2.2.2.2.2.1
  go_wp2_with (fail)
  clear hc18
  refine (flatTales_nil _).mono ?_
  rintro e w19 ⟨rfl, f⟩
  have F19 := Lib.hid (F18.out.then f.no)
  clear f
  have hc19 := (HP.out _ F19.out).2.2.2.2.2.2.2.2.2.2.2.2.2.2.2.2.2.2.2
  go_wp2_with (fail)
  clear hc19
  refine (flatCharters_nil _).mono ?_
  rintro e w20 ⟨rfl, f⟩
  have F20 := Lib.hid (F19.out.then f.no)
  clear f
  go_wp2
  go_ret
  exact ⟨rfl, F20.out⟩

end Go.Proofs.YtmklmjggichfhaaGreatDoor

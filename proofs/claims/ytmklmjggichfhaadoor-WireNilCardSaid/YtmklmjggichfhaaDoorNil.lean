/-
  Nil: WireNil's walk: no writer, no reader, and such as nobody made.
-/
import Derived.Test.YtmklmjggichfhaaDoorAwk
namespace Go.Proofs.YtmklmjggichfhaaDoor
open Go.RowKit

theorem nGood (w : World) : Calls Tryd.prog 14 #[.pointer none] w fun e w' => e = .returned (.bool false) ∧ w = w' := by
  go_enter Tryd.func14, Tryd.ntmps14
  go_wp2
  go_ret
  exact ⟨rfl, rfl⟩
theorem nWhole (w : World) : Calls Tryd.prog 31 #[.pointer none] w fun e w' => e = .returned (.bool false) ∧ w = w' := by
  go_enter Tryd.func31, Tryd.ntmps31
  go_wp2_with (go_at_call 14; refine (nGood _).mono ?_; rintro e w1 ⟨rfl, rfl⟩)
  go_ret
  exact ⟨rfl, rfl⟩
theorem nFail (w : World) : Calls Tryd.prog 50 #[.pointer none] w fun e w' => e = .returned (.tuple #[]) ∧ w = w' := by
  go_enter Tryd.func50, Tryd.ntmps50
  go_wp2
  go_end0
  exact ⟨rfl, rfl⟩
theorem nTake (w : World) (n : Int) : Calls Tryd.prog 49 #[.pointer none, .int .i64 n] w fun e w' => e = .returned (.slice none 0 0) ∧ w = w' := by
  go_enter Tryd.func49, Tryd.ntmps49
  go_wp2
  go_ret
  exact ⟨rfl, rfl⟩
theorem nByte (w : World) : Calls Tryd.prog 21 #[.pointer none] w fun e w' => e = .returned (.int .u8 0) ∧ w = w' := by
  go_enter Tryd.func21, Tryd.ntmps21
  go_wp2_with (go_at_call 49; refine (nTake _ _).mono ?_; rintro e w1 ⟨rfl, rfl⟩)
  go_ret
  exact ⟨rfl, rfl⟩
theorem nInt (w : World) : Calls Tryd.prog 13 #[.pointer none] w fun e w' => e = .returned (.int .i64 0) ∧ w = w' := by
  go_enter Tryd.func13, Tryd.ntmps13
  go_wp2_with (go_at_call 14; refine (nGood _).mono ?_; rintro e w1 ⟨rfl, rfl⟩)
  go_ret
  exact ⟨rfl, rfl⟩
theorem nCount (w : World) : Calls Tryd.prog 28 #[.pointer none, .int .i64 9] w fun e w' => e = .returned (.int .i64 0) ∧ w = w' := by
  go_enter Tryd.func28, Tryd.ntmps28
  go_wp2_with (go_at_call 13; refine (nInt _).mono ?_; rintro e w1 ⟨rfl, rfl⟩)
  go_ret
  exact ⟨rfl, rfl⟩
theorem nText (w : World) : Calls Tryd.prog 24 #[.pointer none, .int .i64 9] w fun e w' => e = .returned (.string ⟨#[]⟩) ∧ w = w' := by
  have hconv : (convert 22 9 (.slice none 0 0)).run Tryd.prog w = .ok (.string ⟨#[]⟩) w := conv_string (l := []) Tryd.underlying22 Tryd.underlying5 Tryd.underlying9 (Rd.nil w 0 0 none)
  go_enter Tryd.func24, Tryd.ntmps24
  go_wp2_with (first
    | (go_at_call 28; refine (nCount _).mono ?_; rintro e w1 ⟨rfl, rfl⟩)
    | (go_at_call 49; refine (nTake _ _).mono ?_; rintro e w1 ⟨rfl, rfl⟩))
  go_ret
  exact ⟨rfl, rfl⟩
theorem nBytes (w : World) : Calls Tryd.prog 26 #[.pointer none, .int .i64 9] w fun e w' => (∃ A c, e = .returned (.slice A 0 c)) ∧ Fr NoB w w' := by
  go_enter Tryd.func26, Tryd.ntmps26
  go_wp2_with (first
    | (go_at_call 28; refine (nCount _).mono ?_; rintro e w1 ⟨rfl, rfl⟩)
    | (go_at_call 49; refine (nTake _ _).mono ?_; rintro e w1 ⟨rfl, rfl⟩)
    | (go_at_call 48; refine (clone_any none [] 0 0 0 _ (Rd.nil _ _ _ _) (by simp)).mono ?_; rintro e w2 ⟨v, rfl, o2, b2⟩; obtain ⟨A2, c2, rfl, _, _⟩ := own_form o2; clear o2))
  go_ret
  exact ⟨⟨_, _, rfl⟩, Fr.ofBelow b2⟩
theorem mByte (w : World) : Calls Tryd.prog 43 #[.pointer none, .int .u8 1] w fun e w' => e = .returned (.tuple #[]) ∧ w = w' := by
  go_enter Tryd.func43, Tryd.ntmps43
  go_wp2
  go_end0
  exact ⟨rfl, rfl⟩
theorem mInt (w : World) (n : Int) : Calls Tryd.prog 16 #[.pointer none, .int .i64 n] w fun e w' => e = .returned (.tuple #[]) ∧ w = w' := by
  go_enter Tryd.func16, Tryd.ntmps16
  go_wp2
  go_end0
  exact ⟨rfl, rfl⟩
theorem mText (w : World) (s : ByteArray) : Calls Tryd.prog 44 #[.pointer none, .string s] w fun e w' => e = .returned (.tuple #[]) ∧ w = w' := by
  go_enter Tryd.func44, Tryd.ntmps44
  go_wp2
  go_end0
  exact ⟨rfl, rfl⟩
theorem mBytes (w : World) (A : Option Addr) (n c : Nat) : Calls Tryd.prog 45 #[.pointer none, .slice A n c] w fun e w' => e = .returned (.tuple #[]) ∧ w = w' := by
  go_enter Tryd.func45, Tryd.ntmps45
  go_wp2
  go_end0
  exact ⟨rfl, rfl⟩
theorem mDone (w : World) : Calls Tryd.prog 17 #[.pointer none] w fun e w' => e = .returned (.slice none 0 0) ∧ w = w' := by
  go_enter Tryd.func17, Tryd.ntmps17
  go_wp2
  go_ret
  exact ⟨rfl, rfl⟩

theorem zGood (lo p : Nat) (w : World) (h : Rdr w lo p none) : Calls Tryd.prog 14 #[.pointer (some ⟨p, 0, none⟩)] w fun e w' => e = .returned (.bool false) ∧ w = w' := rGood_calls lo p none w h
theorem zWhole (lo p : Nat) (w : World) (h : Rdr w lo p none) : Calls Tryd.prog 31 #[.pointer (some ⟨p, 0, none⟩)] w fun e w' => e = .returned (.bool false) ∧ w = w' := rWhole_calls lo p none w h
theorem zByte (lo p : Nat) (w : World) (h : Rdr w lo p none) : Calls Tryd.prog 21 #[.pointer (some ⟨p, 0, none⟩)] w fun e w' => e = .returned (.int .u8 0) ∧ Fr (OneB p) w w' := (rByte_calls lo p none w h).mono fun _ _ ⟨a, _, b, _⟩ => ⟨a, b⟩

set_option maxRecDepth 8000 in
set_option maxHeartbeats 3200000 in
theorem nil_walk (n : Int) (A : Option Addr) (m c : Nat) (w : World) :
    Calls Tryd.prog 8 #[.int .i64 n, .slice A m c] w fun e w' => e = .returned (.bool true) ∧ Below w.heap.size w w' := by
  go_enter Tryd.func8, Tryd.ntmps8
  go_wp2_with (first
    | (go_at_call 11; refine (awake_calls _).mono ?_; rintro e w1 ⟨rfl, f1⟩; have F1 := Lib.hid f1; clear f1)
    | (go_at_call 43; refine (mByte _).mono ?_; rintro e w2 ⟨rfl, rfl⟩)
    | (go_at_call 16; refine (mInt _ _).mono ?_; rintro e w2 ⟨rfl, rfl⟩)
    | (go_at_call 44; refine (mText _ _).mono ?_; rintro e w2 ⟨rfl, rfl⟩)
    | (go_at_call 45; refine (mBytes _ _ _ _).mono ?_; rintro e w2 ⟨rfl, rfl⟩)
    | (go_at_call 17; refine (mDone _).mono ?_; rintro e w2 ⟨rfl, rfl⟩)
    | (go_at_call 24; refine (nText _).mono ?_; rintro e w2 ⟨rfl, rfl⟩)
    | (go_at_call 13; refine (nInt _).mono ?_; rintro e w2 ⟨rfl, rfl⟩)
    | (go_at_call 28; refine (nCount _).mono ?_; rintro e w2 ⟨rfl, rfl⟩)
    | (go_at_call 21; refine (nByte _).mono ?_; rintro e w2 ⟨rfl, rfl⟩)
    | (go_at_call 14; refine (nGood _).mono ?_; rintro e w2 ⟨rfl, rfl⟩)
    | (go_at_call 31; refine (nWhole _).mono ?_; rintro e w2 ⟨rfl, rfl⟩))
  refine (nBytes _).mono ?_
  rintro e w3 ⟨⟨A3, c3, rfl⟩, f3⟩
  have R3 : Hid (Rdr w3 0 w1.heap.size none) := Lib.hid (show w3.heap[w1.heap.size]? = _ from f3.at_ (heap_alloc_new w1 _) (fun x => x))
  have F3 := Lib.hid ((F1.out.alloc (.cells #[.slice none 0 0, .bool false] 62)).then f3)
  clear f3
  have HZ := Lib.hid (zByte 0 w1.heap.size w3 R3.out)
  have HG := Lib.hid (zGood 0 w1.heap.size w3 R3.out)
  have HW := Lib.hid (zWhole 0 w1.heap.size w3 R3.out)
  clear R3
  go_wp2_with (first
    | (go_at_call 28; refine (nCount _).mono ?_; rintro e w2 ⟨rfl, rfl⟩)
    | (go_at_call 14; refine (nGood _).mono ?_; rintro e w2 ⟨rfl, rfl⟩))
  refine (nWhole _).mono ?_
  rintro e w2 ⟨rfl, rfl⟩
  go_wp2_with (go_at_call 14; refine HG.out.mono ?_; rintro e w4 ⟨rfl, rfl⟩)
  refine HW.out.mono ?_
  rintro e w4 ⟨rfl, rfl⟩
  go_wp2_with (go_at_call 21; refine HZ.out.mono ?_; rintro e w5 ⟨rfl, f5⟩)
  go_ret
  have hs := F1.out.size
  exact ⟨rfl, (F3.out.up f5 (fun k hk => by simp only [OneB] at hk; omega)).toBelow'⟩

end Go.Proofs.YtmklmjggichfhaaDoor

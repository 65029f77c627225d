/-
  Frames: WireFrames's walk.
-/
import Derived.Test.YtmklmjggichfhaaDoorAwk
import Derived.Test.YtmklmjggichfhaaDoorRfh
namespace Go.Proofs.YtmklmjggichfhaaDoor
open Go.RowKit

def uX (b : List UInt8) : List UInt8 := (unframe b).getD []
def uN (b : List UInt8) : Int := match unframe b with
  | none => 0
  | some x => ((8 + x.length : Nat) : Int)
def uE (b : List UInt8) : Int := match unframe b with
  | none => 4
  | some _ => 0
theorem uX_len (b : List UInt8) : (uX b).length ≤ b.length := by
  unfold uX unframe
  split
  · simp
  · split
    · simp
    · split <;> simp
      omega
theorem frame_gen {l : List UInt8} {w w' : World} {e : Ending} (h : Framed l w e w') : ∃ A c, e = .returned (.tuple #[.slice A (frameB l).length c, .int .i64 0]) ∧ Rd w' w.heap.size w'.heap.size A (frameB l) ∧ Fr NoB w w' := by
  obtain ⟨v, rfl, o, f⟩ := h
  obtain ⟨A, c, rfl, _, _⟩ := own_form o
  exact ⟨A, c, rfl, own_rd o, f⟩
theorem unframe_gen {l : List UInt8} {w w' : World} {e : Ending} (h : Unframed l w e w') : ∃ A c, e = .returned (.tuple #[.slice A (uX l).length c, .int .i64 (uN l), .int .i64 (uE l)]) ∧ Rd w' w.heap.size w'.heap.size A (uX l) ∧ Fr NoB w w' := by
  obtain ⟨h, f⟩ := h
  unfold uX uN uE
  cases hu : unframe l with
  | none =>
    rw [hu] at h
    exact ⟨none, 0, h, Rd.nil _ _ _ _, f⟩
  | some x =>
    rw [hu] at h
    obtain ⟨v, rfl, o⟩ := h
    obtain ⟨A, c, rfl, _, _⟩ := own_form o
    exact ⟨A, c, rfl, own_rd o, f⟩
theorem frameB_len (l : List UInt8) : (frameB l).length = 8 + l.length := by simp [frameB, fourB]; omega

set_option maxRecDepth 8000 in
set_option maxHeartbeats 1600000 in
theorem frames_long (A : Option Addr) (n c : Nat) (w : World) (hn : 4000 < n) :
    Calls Tryd.prog 5 #[.slice A n c] w fun e w' => e = .returned (.bool true) ∧ Below w.heap.size w w' := by
  have hn1 : (4000 : Int) < (n : Int) := by omega
  go_enter Tryd.func5, Tryd.ntmps5
  go_wp2_with (go_at_call 11; refine (awake_calls _).mono ?_; rintro e w1 ⟨rfl, f1⟩)
  go_ret
  exact ⟨rfl, f1.toBelow'⟩

set_option maxRecDepth 8000 in
set_option maxHeartbeats 3200000 in
theorem frames_short (A : Option Addr) (l : List UInt8) (c : Nat) (w : World) (h : Rd w 0 w.heap.size A l) (hlc : l.length ≤ c) (hcm : c ≤ maxLen) (hn : l.length ≤ 4000) :
    Calls Tryd.prog 5 #[.slice A l.length c] w fun e w' => e = .returned (.bool true) ∧ Below w.heap.size w w' := by
  have hn1 : (l.length : Int) ≤ 4000 := by omega
  have h1 := fun W (f : Fr NoB w W) => (frame_calls A l c 0 w.heap.size W (h.fr f (Nat.le_refl _) (fun _ _ _ x => x)) f.size (by omega)).mono fun _ _ x => frame_gen x
  have h2 := fun W (f : Fr NoB w W) => (rframe_calls A l c 0 w.heap.size W (h.fr f (Nat.le_refl _) (fun _ _ _ x => x)) f.size (by omega)).mono fun _ _ x => frame_gen x
  have h3 := fun W (f : Fr NoB w W) => (unframe_calls A l c 0 w.heap.size W (h.fr f (Nat.le_refl _) (fun _ _ _ x => x)) f.size hlc hcm (by omega)).mono fun _ _ x => unframe_gen x
  have h4 := fun W (f : Fr NoB w W) => (runframe_calls A l c 0 w.heap.size W (h.fr f (Nat.le_refl _) (fun _ _ _ x => x)) f.size hlc hcm (by omega)).mono fun _ _ x => unframe_gen x
  have h5 := fun W (f : Fr NoB w W) => sum_calls A l c 0 w.heap.size W (h.fr f (Nat.le_refl _) (fun _ _ _ x => x)) f.size (by omega)
  have h6 := fun W (f : Fr NoB w W) => rsum_fr A l c 0 w.heap.size W (h.fr f (Nat.le_refl _) (fun _ _ _ x => x)) f.size (by omega)
  have l1 := frameB_len l
  have l2 := uX_len l
  generalize frameB l = F at *
  generalize uX l = X at *
  generalize uN l = N at *
  generalize uE l = E at *
  generalize (crc l).toNat = K at *
  have h7 := fun B d lo hi W (h : Rd W lo hi B F) B' d' lo' hi' (h' : Rd W lo' hi' B' F) => same_calls B B' F F d d' lo hi lo' hi' W h h' (by omega) (by omega)
  have h8 := fun B d lo hi W (h : Rd W lo hi B X) B' d' lo' hi' (h' : Rd W lo' hi' B' X) => same_calls B B' X X d d' lo hi lo' hi' W h h' (by omega) (by omega)
  rw [show (F == F) = true by simp] at h7
  rw [show (X == X) = true by simp] at h8
  have H1 := Lib.hid h1
  have H2 := Lib.hid h2
  have H3 := Lib.hid h3
  have H4 := Lib.hid h4
  have H5 := Lib.hid h5
  have H6 := Lib.hid h6
  have H7 := Lib.hid h7
  have H8 := Lib.hid h8
  clear h1 h2 h3 h4 h5 h6 h7 h8 l1 l2 hlc hcm h hn
  go_enter Tryd.func5, Tryd.ntmps5
  go_wp2_with (first
    | (go_at_call 33; refine (H1.out _ (Fr.refl _ _)).mono ?_; rintro e w1 ⟨A1, c1, rfl, r1, f1⟩; have R1 := Lib.hid r1; have F1 := Lib.hid f1; clear r1 f1)
    | (go_at_call 34; refine (H2.out _ F1.out).mono ?_; rintro e w2 ⟨A2, c2, rfl, r2, f2⟩; have R2 := Lib.hid r2; have G2 := Lib.hid f2; have F2 := Lib.hid (F1.out.then f2); clear r2 f2)
    | (go_at_call 35; refine (H3.out _ F2.out).mono ?_; rintro e w3 ⟨A3, c3, rfl, r3, f3⟩; have R3 := Lib.hid r3; have G3 := Lib.hid f3; have F3 := Lib.hid (F2.out.then f3); clear r3 f3)
    | (go_at_call 36; refine (H4.out _ F3.out).mono ?_; rintro e w4 ⟨A4, c4, rfl, r4, f4⟩; have R4 := Lib.hid r4; have G4 := Lib.hid f4; have F4 := Lib.hid (F3.out.then f4); clear r4 f4)
    | (go_at_call 37; refine (H5.out _ F4.out).mono ?_; rintro e w5 ⟨rfl, f5⟩; have G5 := Lib.hid f5; have F5 := Lib.hid (F4.out.then f5); clear f5)
    | (go_at_call 38; refine (H6.out _ F5.out).mono ?_; rintro e w6 ⟨rfl, f6⟩; have G6 := Lib.hid (G5.out.then f6); have F6 := Lib.hid (F5.out.then f6); clear f6))
  refine (H7.out _ _ _ _ _ (R1.out.fr (G2.out.then (G3.out.then (G4.out.then G6.out))) (Nat.le_refl _) (fun _ _ _ x => x)) _ _ _ _ (R2.out.fr (G3.out.then (G4.out.then G6.out)) (Nat.le_refl _) (fun _ _ _ x => x))).mono ?_
  rintro e w7 ⟨rfl, n7, rfl⟩
  go_wp2_with (go_at_call 18; refine (H8.out _ _ _ _ _ ((R3.out.fr (G4.out.then G6.out) (Nat.le_refl _) (fun _ _ _ x => x)).fr ((Fr.refl NoB w6).drewN n7) (G4.out.then G6.out).size (fun _ _ _ x => x)) _ _ _ _ ((R4.out.fr G6.out (Nat.le_refl _) (fun _ _ _ x => x)).fr ((Fr.refl NoB w6).drewN n7) G6.out.size (fun _ _ _ x => x))).mono ?_; rintro e w8 ⟨rfl, n8, rfl⟩)
  go_wp2_with (go_at_call 11; refine (awake_calls _).mono ?_; rintro e w9 ⟨rfl, f9⟩)
  go_ret
  exact ⟨rfl, ((F6.out.drewN (n7 + n8)).then f9).toBelow'⟩

theorem frames_walk (A : Option Addr) (l : List UInt8) (c : Nat) (w : World) (h : Rd w 0 w.heap.size A l) (hlc : l.length ≤ c) (hcm : c ≤ maxLen) :
    Calls Tryd.prog 5 #[.slice A l.length c] w fun e w' => e = .returned (.bool true) ∧ Below w.heap.size w w' := by
  by_cases hn : 4000 < l.length
  · exact frames_long A l.length c w hn
  · exact frames_short A l c w h hlc hcm (by omega)

end Go.Proofs.YtmklmjggichfhaaDoor

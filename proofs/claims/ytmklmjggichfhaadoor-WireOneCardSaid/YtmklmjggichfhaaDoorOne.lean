/-
  One: WireOne's walk: of any bytes the statement is true.
-/
import Derived.Test.YtmklmjggichfhaaDoorAwk
namespace Go.Proofs.YtmklmjggichfhaaDoor
open Go.RowKit

theorem rInt_cases (l : List UInt8) : (rInt (some l) = (0, none)) ∨ ∃ n r, rInt (some l) = (n, some r) := by
  simp only [rInt]
  cases numAt 0 0 l with
  | none => exact .inl rfl
  | some x => exact .inr ⟨_, _, rfl⟩

set_option maxHeartbeats 3200000 in
theorem one_bad (A : Option Addr) (l : List UInt8) (c : Nat) (w : World) (h : Rd w 0 w.heap.size A l) (hm : l.length ≤ 140737488355328) (hb : rInt (some l) = (0, none)) :
    Calls Tryd.prog 3 #[.slice A l.length c] w fun e w' => e = .returned (.bool true) ∧ Below w.heap.size w w' := by
  have hI := fun W lo p (h : Rdr W lo p (some l)) => rInt_calls lo p (some l) W h
  have hG := fun W lo p (h : Rdr W lo p none) => rGood_calls lo p none W h
  rw [hb] at hI
  rw [show rGood none = false from rfl] at hG
  have HI := Lib.hid hI
  have HG := Lib.hid hG
  clear hI hG hb
  go_enter Tryd.func3, Tryd.ntmps3
  go_wp2_with (first
    | (go_at_call 11; refine (awake_calls _).mono ?_; rintro e w1 ⟨rfl, f1⟩)
    | (go_at_call 12; refine (rNew_calls A l c 0 _ _ (h.fr f1 (Nat.le_refl _) (fun _ _ _ x => x)) hm).mono ?_; rintro e w2 ⟨p, rfl, q1, q2, q3, -⟩)
    | (go_at_call 13; refine (HI.out _ _ _ q2).mono ?_; rintro e w3 ⟨rfl, r3, f3, -⟩)
    | (go_at_call 14; refine (HG.out _ _ _ r3).mono ?_; rintro e w4 ⟨rfl, rfl⟩))
  go_ret
  have s1 := f1.size
  exact ⟨rfl, ((f1.then q3).up f3 (fun k hk => by simp only [OneB] at hk; omega)).toBelow'⟩

set_option maxHeartbeats 3200000 in
theorem one_good (A : Option Addr) (l : List UInt8) (c : Nat) (n : Int) (r : List UInt8) (w : World) (h : Rd w 0 w.heap.size A l) (hlc : l.length ≤ c) (hcm : c ≤ maxLen) (hm : l.length ≤ 140737488355328) (hb : rInt (some l) = (n, some r)) :
    Calls Tryd.prog 3 #[.slice A l.length c] w fun e w' => e = .returned (.bool true) ∧ Below w.heap.size w w' := by
  obtain ⟨hbk, hn1, hn2⟩ := rInt_back hb
  have hI := fun W lo p (h : Rdr W lo p (some l)) => rInt_calls lo p (some l) W h
  have hG := fun W lo p (h : Rdr W lo p (some r)) => rGood_calls lo p (some r) W h
  rw [hb] at hI
  rw [show rGood (some r) = true from rfl] at hG
  have hil := intB_len n
  have htk : l.take (intB n).length = intB n := by rw [← hbk]; simp
  have hll : (intB n).length ≤ l.length := by rw [← hbk]; simp
  generalize hX : intB n = X at *
  have hsame := fun B d lo hi W (h : Rd W lo hi B X) B' d' lo' hi' (h' : Rd W lo' hi' B' X) => same_calls B B' X X d d' lo hi lo' hi' W h h' (by omega) (by omega)
  rw [show (X == X) = true by simp] at hsame
  have hput := fun p G W (h : Wtr W p G []) => wInt p G [] n W hn1 hn2 h (by simp)
  rw [hX, List.nil_append] at hput
  have HI := Lib.hid hI
  have HG := Lib.hid hG
  have HS := Lib.hid hsame
  have HP := Lib.hid hput
  have HT := Lib.hid htk
  have hx0 : (0 : Int) < (X.length : Int) := by omega
  have hx1 : (X.length : Int) ≤ 10 := by omega
  have hx2 : (X.length : Int) ≤ (l.length : Int) := by omega
  have hx3 : (X.length : Int) ≤ (c : Int) := by omega
  have hxm : X.length ≤ 140737488355328 := by omega
  have hd0 : decide ((0 : Int) < (X.length : Int)) = true := by simpa using hx0
  have hd1 : decide ((X.length : Int) ≤ 10) = true := by simpa using hx1
  have hd2 : decide ((X.length : Int) ≤ (l.length : Int)) = true := by simpa using hx2
  have hc' := hcm
  unfold maxLen at hc'
  clear hI hG hb hsame hput hX hbk htk hil
  go_enter Tryd.func3, Tryd.ntmps3
  go_wp2_with (first
    | (go_at_call 11; refine (awake_calls _).mono ?_; rintro e w1 ⟨rfl, f1⟩)
    | (go_at_call 12; refine (rNew_calls A l c 0 _ _ (h.fr f1 (Nat.le_refl _) (fun _ _ _ x => x)) hm).mono ?_; rintro e w2 ⟨p, rfl, q1, q2, q3, -⟩)
    | (go_at_call 13; refine (HI.out _ _ _ q2).mono ?_; rintro e w3 ⟨rfl, r3, f3, -⟩)
    | (go_at_call 14; refine (HG.out _ _ _ r3).mono ?_; rintro e w4 ⟨rfl, rfl⟩)
    | (go_at_call 15; refine (wNew _).mono ?_; rintro e w5 ⟨rfl, p5, f5, s5⟩; have S5 := Lib.hid s5; clear s5)
    | (go_at_call 16; refine (HP.out _ _ _ p5).mono ?_; rintro e w6 ⟨rfl, G6, p6, f6, g6⟩)
    | (go_at_call 17; refine (wDone _ _ _ _ p6 hxm).mono ?_; rintro e w7 ⟨v7, rfl, o7, b7⟩; obtain ⟨A7, c7, rfl, _, _⟩ := own_form o7))
  have s1 := f1.size
  have F3 := (f1.then q3).up f3 (fun k hk => by simp only [OneB] at hk; omega)
  have F5 := F3.then f5
  have s3 := F3.size
  have F6 := F5.up f6 (fun k hk => Nat.le_trans s3 (none_up _ k hk))
  have F7 : Fr NoB w w7 := F6.then (Fr.ofBelow b7)
  have r7 := (h.fr F7 (Nat.le_refl _) (fun _ _ _ x => x)).take (n := X.length)
  rw [HT.out] at r7
  have HF := Lib.hid F7
  clear F3 F5 F6 F7 s1 s3 f1 q3 f3 f5 f6 b7 g6
  refine (HS.out _ _ _ _ _ (own_rd o7) _ _ _ _ r7).mono ?_
  rintro e w8 ⟨rfl, n8, rfl⟩
  go_wp2
  go_ret
  exact ⟨rfl, (HF.out.drewN n8).toBelow'⟩

/-- The walk, of any bytes. -/
theorem one_walk (A : Option Addr) (l : List UInt8) (c : Nat) (w : World) (h : Rd w 0 w.heap.size A l) (hlc : l.length ≤ c) (hcm : c ≤ maxLen) (hm : l.length ≤ 140737488355328) :
    Calls Tryd.prog 3 #[.slice A l.length c] w fun e w' => e = .returned (.bool true) ∧ Below w.heap.size w w' := by
  rcases rInt_cases l with hb | ⟨n, r, hb⟩
  · exact one_bad A l c w h hm hb
  · exact one_good A l c n r w h hlc hcm hm hb

end Go.Proofs.YtmklmjggichfhaaDoor

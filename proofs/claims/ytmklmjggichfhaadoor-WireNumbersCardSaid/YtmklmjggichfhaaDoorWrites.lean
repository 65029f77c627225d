/-
  Writes: WireWrites's walk: whatever is put, the bytes are those that the document tells, behind each step.
-/
import Derived.Test.YtmklmjggichfhaaDoorPut
namespace Go.Proofs.YtmklmjggichfhaaDoor
open Go.RowKit

theorem WW.start {w w1 w2 : World} (a1 : Wtr w1 w.heap.size none []) (f1 : Fr NoB w w1) (s1 : w1.heap.size = w.heap.size + 1) (b2 : RWt w2 w1.heap.size none []) (f2 : Fr NoB w1 w2) : WW w w2 w.heap.size w1.heap.size [] none none where
  a := a1.fr f2 fun _ _ x => x
  b := b2
  fr := f1.then f2
  i := none_up _
  j := fun k hk => Nat.le_trans f1.size (none_up _ k hk)
  x := fun k h1 h2 => by
    have h2 := none_up _ k h2
    rcases h1 with h | h
    · omega
    · cases h
theorem putB_le {s m : Int} {l : List UInt8} (h : l.length ≤ 1048576) : (putB (s, m, l)).length ≤ 1048586 := by
  have h1 : (putB (s, m, l)).length ≤ l.length + 10 := putB_len (s, m, l)
  omega

set_option maxRecDepth 8000 in
set_option maxHeartbeats 6400000 in
theorem writes_small (D : Option Addr) (n d : Nat) (w : World) (hd : Dfs w D n 1048576) (h0 : 0 < n) (hn : n ≤ 60) :
    Calls Tryd.prog 7 #[.slice D n d] w fun e w' => e = .returned (.bool true) ∧ Below w.heap.size w w' := by
  have hnn : ((n : Int) ≤ 60) := by omega
  obtain ⟨b, o, rfl, hb, hcs⟩ := hd h0
  have HCS := Lib.hid hcs
  clear hcs hd h0
  go_enter Tryd.func7, Tryd.ntmps7
  go_wp2_with (first
    | (go_at_call 15; refine (wNew _).mono ?_; rintro e w1 ⟨rfl, a1, f1, s1⟩; have F1 := Lib.hid f1; clear f1)
    | (go_at_call 40; refine (rwNew _).mono ?_; rintro e w2 ⟨rfl, b2, f2, s2⟩; have F2 := Lib.hid f2; clear f2))
  have t0 : WW w w2 w.heap.size w1.heap.size [] none none := WW.start a1 F1.out s1 b2 F2.out
  rw [s1] at t0
  clear a1 F1 s1 b2 F2 s2
  generalize w.heap.size = p at t0 ⊢
  go_loopw [2, 5] (fun r i wr => r = .bool false ∧ ∃ (k : Nat) (L : List UInt8) (G G' : Option Nat), k ≤ n ∧ i = .int .i64 (k : Int) ∧ WW w wr p (p + 1) L G G' ∧ L.length ≤ k * 1048586) (fun _ i _ => n - (intOf i).toNat)
  case atStart => exact ⟨rfl, 0, _, _, _, Nat.zero_le _, rfl, t0, by simp⟩
  case round =>
    obtain ⟨rfl, k, L, G, G', hk, rfl, ht, hL⟩ := hrel
    have HT := Lib.hid ht
    clear ht
    by_cases hlt : k < n
    · obtain ⟨s, m, B, l, c, ⟨h1, h2⟩, hl, hlc, hcm, hr, hc0, hc1, hc2⟩ := HCS.out k (by omega)
      have hw0 := (HT.out.fr.cell (p := ⟨b, o + k * 3, none⟩) hb (fun x => x)).trans hc0
      have hw1 := (HT.out.fr.cell (p := ⟨b, o + k * 3 + 1, none⟩) hb (fun x => x)).trans hc1
      have hw2 := (HT.out.fr.cell (p := ⟨b, o + k * 3 + 2, none⟩) hb (fun x => x)).trans hc2
      clear hc0 hc1 hc2 hlc hcm
      have hP := putB_le (s := s) (m := m) hl
      have hput := put_calls w wr p (p + 1) L G G' HT.out s m B l c h1 h2 hr (by omega)
      have hlen : (L ++ putB (s, m, l)).length ≤ (k + 1) * 1048586 := by rw [List.length_append]; omega
      have hlen2 : (L ++ putB (s, m, l)).length ≤ 140737488355328 := by omega
      generalize L ++ putB (s, m, l) = M at hput hlen hlen2
      have HPut := Lib.hid hput
      have HE := Lib.hid hlen
      have HE2 := Lib.hid hlen2
      have hi1 : ((k : Int) < (n : Int)) := by omega
      clear hput hP hlen hlen2 hl h1 h2 hr hL
      go_wp2_with (first
        | (go_at_call 41; refine HPut.out.mono ?_; rintro e w3 ⟨rfl, G2, G2', t3⟩; have T3 := Lib.hid t3; clear t3)
        | (go_at_call 17; refine (wDone _ _ _ _ T3.out.a HE2.out).mono ?_; rintro e w4 ⟨v4, rfl, o4, b4⟩; obtain ⟨A4, c4, rfl, _, _⟩ := own_form o4; have R4 := Lib.hid (own_rd o4); have T4 := Lib.hid (T3.out.keep (Fr.ofBelow b4)); clear o4 b4)
        | (go_at_call 42; refine (rwDone _ _ _ _ T4.out.b HE2.out).mono ?_; rintro e w5 ⟨v5, rfl, o5, b5⟩; obtain ⟨A5, c5, rfl, _, _⟩ := own_form o5; have R5 := Lib.hid (own_rd o5); have B5 := Lib.hid b5; have T5 := Lib.hid (T4.out.keep (Fr.ofBelow b5)); clear o5 b5))
      refine (same_calls _ _ _ _ _ _ _ _ _ _ _ (R4.out.fr (Fr.ofBelow (M := NoB) B5.out) (Nat.le_refl _) (fun _ _ _ x => x)) R5.out HE2.out HE2.out).mono ?_
      rintro e w6 ⟨rfl, n6, rfl⟩
      rw [beq_self_eq_true]
      go_wp2
      go_roundw
      case rel => exact ⟨rfl, k + 1, _, _, _, by omega, by go_num, T5.out.keep ((Fr.refl NoB w5).drewN n6), HE.out⟩
      case measure => simp [intOf]; omega
    · go_wp2_with (go_at_call 11; refine (awake_calls _).mono ?_; rintro e w9 ⟨rfl, f9⟩)
      go_ret
      exact ⟨rfl, (HT.out.fr.then f9).toBelow'⟩

set_option maxRecDepth 8000 in
set_option maxHeartbeats 6400000 in
theorem writes_big (D : Option Addr) (n d : Nat) (w : World) (hd : Dfs w D n 1048576) (hn : 60 < n) (hnd : n ≤ d) :
    Calls Tryd.prog 7 #[.slice D n d] w fun e w' => e = .returned (.bool true) ∧ Below w.heap.size w w' := by
  obtain ⟨b, o, rfl, hb, hcs⟩ := hd (by omega)
  have HCS := Lib.hid hcs
  clear hcs hd
  have hnn : (60 < (n : Int)) := by omega
  have hnd1 : ((60 : Int) ≤ (n : Int)) := by omega
  have hnd2 : ((60 : Int) ≤ (d : Int)) := by omega
  have hnd3 : ((n : Int) ≤ (d : Int)) := by omega
  have hnd4 : 60 ≤ d := by omega
  go_enter Tryd.func7, Tryd.ntmps7
  go_wp2_with (first
    | (go_at_call 15; refine (wNew _).mono ?_; rintro e w1 ⟨rfl, a1, f1, s1⟩; have F1 := Lib.hid f1; clear f1)
    | (go_at_call 40; refine (rwNew _).mono ?_; rintro e w2 ⟨rfl, b2, f2, s2⟩; have F2 := Lib.hid f2; clear f2))
  have t0 : WW w w2 w.heap.size w1.heap.size [] none none := WW.start a1 F1.out s1 b2 F2.out
  rw [s1] at t0
  clear a1 F1 s1 b2 F2 s2
  generalize w.heap.size = p at t0 ⊢
  go_loopw [2, 5] (fun r i wr => r = .bool false ∧ ∃ (k : Nat) (L : List UInt8) (G G' : Option Nat), k ≤ 60 ∧ i = .int .i64 (k : Int) ∧ WW w wr p (p + 1) L G G' ∧ L.length ≤ k * 1048586) (fun _ i _ => 60 - (intOf i).toNat)
  case atStart => exact ⟨rfl, 0, _, _, _, Nat.zero_le _, rfl, t0, by simp⟩
  case round =>
    obtain ⟨rfl, k, L, G, G', hk, rfl, ht, hL⟩ := hrel
    have HT := Lib.hid ht
    clear ht
    by_cases hlt : k < 60
    · obtain ⟨s, m, B, l, c, ⟨h1, h2⟩, hl, hlc, hcm, hr, hc0, hc1, hc2⟩ := HCS.out k (by omega)
      have hw0 := (HT.out.fr.cell (p := ⟨b, o + k * 3, none⟩) hb (fun x => x)).trans hc0
      have hw1 := (HT.out.fr.cell (p := ⟨b, o + k * 3 + 1, none⟩) hb (fun x => x)).trans hc1
      have hw2 := (HT.out.fr.cell (p := ⟨b, o + k * 3 + 2, none⟩) hb (fun x => x)).trans hc2
      clear hc0 hc1 hc2 hlc hcm
      have hP := putB_le (s := s) (m := m) hl
      have hput := put_calls w wr p (p + 1) L G G' HT.out s m B l c h1 h2 hr (by omega)
      have hlen : (L ++ putB (s, m, l)).length ≤ (k + 1) * 1048586 := by rw [List.length_append]; omega
      have hlen2 : (L ++ putB (s, m, l)).length ≤ 140737488355328 := by omega
      generalize L ++ putB (s, m, l) = M at hput hlen hlen2
      have HPut := Lib.hid hput
      have HE := Lib.hid hlen
      have HE2 := Lib.hid hlen2
      have hi1 : ((k : Int) < 60) := by omega
      clear hput hP hlen hlen2 hl h1 h2 hr hL
      go_wp2_with (first
        | (go_at_call 41; refine HPut.out.mono ?_; rintro e w3 ⟨rfl, G2, G2', t3⟩; have T3 := Lib.hid t3; clear t3)
        | (go_at_call 17; refine (wDone _ _ _ _ T3.out.a HE2.out).mono ?_; rintro e w4 ⟨v4, rfl, o4, b4⟩; obtain ⟨A4, c4, rfl, _, _⟩ := own_form o4; have R4 := Lib.hid (own_rd o4); have T4 := Lib.hid (T3.out.keep (Fr.ofBelow b4)); clear o4 b4)
        | (go_at_call 42; refine (rwDone _ _ _ _ T4.out.b HE2.out).mono ?_; rintro e w5 ⟨v5, rfl, o5, b5⟩; obtain ⟨A5, c5, rfl, _, _⟩ := own_form o5; have R5 := Lib.hid (own_rd o5); have B5 := Lib.hid b5; have T5 := Lib.hid (T4.out.keep (Fr.ofBelow b5)); clear o5 b5))
      refine (same_calls _ _ _ _ _ _ _ _ _ _ _ (R4.out.fr (Fr.ofBelow (M := NoB) B5.out) (Nat.le_refl _) (fun _ _ _ x => x)) R5.out HE2.out HE2.out).mono ?_
      rintro e w6 ⟨rfl, n6, rfl⟩
      rw [beq_self_eq_true]
      go_wp2
      go_roundw
      case rel => exact ⟨rfl, k + 1, _, _, _, by omega, by go_num, T5.out.keep ((Fr.refl NoB w5).drewN n6), HE.out⟩
      case measure => simp [intOf]; omega
    · go_wp2_with (go_at_call 11; refine (awake_calls _).mono ?_; rintro e w9 ⟨rfl, f9⟩)
      go_ret
      exact ⟨rfl, (HT.out.fr.then f9).toBelow'⟩

set_option maxHeartbeats 1600000 in
theorem writes_none (D : Option Addr) (d : Nat) (w : World) :
    Calls Tryd.prog 7 #[.slice D 0 d] w fun e w' => e = .returned (.bool true) ∧ Below w.heap.size w w' := by
  go_enter Tryd.func7, Tryd.ntmps7
  go_wp2_with (first
    | (go_at_call 15; refine (wNew _).mono ?_; rintro e w1 ⟨rfl, a1, f1, s1⟩)
    | (go_at_call 40; refine (rwNew _).mono ?_; rintro e w2 ⟨rfl, b2, f2, s2⟩))
  clear a1 b2 s1 s2
  go_loopw [2, 5] (fun r i wr => r = .bool false ∧ i = .int .i64 0 ∧ wr = w2) (fun _ _ _ => 0)
  case atStart => exact ⟨rfl, rfl, rfl⟩
  case round =>
    obtain ⟨rfl, rfl, rfl⟩ := hrel
    go_wp2_with (go_at_call 11; refine (awake_calls _).mono ?_; rintro e w9 ⟨rfl, f9⟩)
    go_ret
    exact ⟨rfl, ((f1.then f2).then f9).toBelow'⟩

theorem writes_walk (D : Option Addr) (n d : Nat) (w : World) (hd : Dfs w D n 1048576) (hnd : n ≤ d) (_ : d ≤ maxLen) :
    Calls Tryd.prog 7 #[.slice D n d] w fun e w' => e = .returned (.bool true) ∧ Below w.heap.size w w' := by
  by_cases h0 : n = 0
  · subst h0; exact writes_none D d w
  · by_cases h : 60 < n
    · exact writes_big D n d w hd h hnd
    · exact writes_small D n d w hd (by omega) (by omega)

end Go.Proofs.YtmklmjggichfhaaDoor

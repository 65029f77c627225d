/-
  Nty: NetLives: the walk.
-/
import Derived.Test.YtmgkenbfjlahpaaNtw
import Derived.Test.YtmgkenbfjlahpaaNtx
namespace Go.Proofs.Ytmgkenbfjlahpaa
open Go.RowKit Go.WideMaps Go.Sort

theorem sw {a b : Int} (h : InR (a, b)) : InR (b, a) := ⟨h.2, h.1⟩
set_option maxRecDepth 8000 in
set_option maxHeartbeats 6400000 in
theorem lives_walk (A : Option Addr) (n c : Nat) (w : World) (hn : n ≤ c) (hcm : c ≤ maxLen) (hr : RdO w A n) : Calls Try.prog 4 #[.slice A n c] w fun e w' => e = .returned (.bool true) ∧ Fr NoB w w' := by
  have HR := Lib.hid hr
  clear hr
  by_cases hbig : (n : Int) > 200
  · obtain ⟨b, o, rfl, hb, hall⟩ := HR.out (by omega)
    have hc200 : ¬ (c : Int) < 200 := by omega
    have HALL := Lib.hid (fun i (hi : i < 200) => hall i (by omega))
    clear hall HR
    go_enter Try.func4, Try.ntmps4
    go_wp2_with (fail)
    refine (BN.new (X := NoB) (Fr.refl NoB w) (fun _ x => x.elim)).mono ?_
    rintro e w1 ⟨p, rfl, b1, f1⟩
    have B1 := Lib.hid b1
    clear b1 f1
    go_wp2_with (fail)
    refine (rnew_calls w1).mono ?_
    rintro e w2 ⟨q, rfl, r2, f2⟩
    have T2 := Lib.hid (TN.made B1.out r2 f2)
    clear r2 f2
    go_wp2_with (fail)
    go_loopw [5] (fun i W => ∃ (k : Nat) (L : List (Lk × List UInt8)), k ≤ 200 ∧ i = .int .i64 (k : Int) ∧ TN w W NoB p k L q L ∧ L.length ≤ k) (fun i _ => 200 - (intOf i).toNat)
    case atStart => exact ⟨0, [], Nat.zero_le _, rfl, T2.out, Nat.le_refl _⟩
    case round =>
      obtain ⟨k, L, hk, rfl, ht, hl⟩ := hrel
      have T := Lib.hid ht
      have HL := Lib.hid hl
      clear ht hl T2 B1
      by_cases hlt : k < 200
      · obtain ⟨op, x, y, z, B, l, d, hxy, hz, hrd, k0, k1, k2, k3, k4⟩ := HALL.out k hlt
        have F := Lib.hid T.out.fr
        have q0 := (F.out.cell (p := ⟨b, o + k * 5, none⟩) hb (fun x => x)).trans k0
        have q1 := (F.out.cell (p := ⟨b, o + k * 5 + 1, none⟩) hb (fun x => x)).trans k1
        have q2 := (F.out.cell (p := ⟨b, o + k * 5 + 2, none⟩) hb (fun x => x)).trans k2
        have q3 := (F.out.cell (p := ⟨b, o + k * 5 + 3, none⟩) hb (fun x => x)).trans k3
        have q4 := (F.out.cell (p := ⟨b, o + k * 5 + 4, none⟩) hb (fun x => x)).trans k4
        have hki : (k : Int) < ((200 : Nat) : Int) := by omega
        have hk0 : (0 : Int) ≤ (k : Int) := by omega
        clear k0 k1 k2 k3 k4
        go_wp2_with (fail)
        obtain ⟨Y, hY⟩ : ∃ Y : Nat → Prop, ∀ g, Y g ↔ g = wr.heap.size := ⟨_, fun _ => Iff.rfl⟩
        have h6 : TN w (wr.alloc (.cells #[.int .i64 op, .int .i64 x, .int .i64 y, .int .i64 z, .slice B l.length d] 40)) Y p k L q L := T.out.add ((Fr.refl NoB wr).alloc _) (fun g hg => .inr ⟨by have := (hY g).1 hg; omega, by rw [World.size_alloc]; have := (hY g).1 hg; omega⟩)
        have hbx := heap_alloc_new wr (.cells #[.int .i64 op, .int .i64 x, .int .i64 y, .int .i64 z, .slice B l.length d] 40)
        have hS : ∀ Z, Fr (fun g => ¬ Y g) (wr.alloc (.cells #[.int .i64 op, .int .i64 x, .int .i64 y, .int .i64 z, .slice B l.length d] 40)) Z → (Z.cell? ⟨wr.heap.size, 0, none⟩ = some (.int .i64 op) ∧ Z.cell? ⟨wr.heap.size, 1, none⟩ = some (.int .i64 x) ∧ Z.cell? ⟨wr.heap.size, 2, none⟩ = some (.int .i64 y) ∧ Z.cell? ⟨wr.heap.size, 3, none⟩ = some (.int .i64 z) ∧ Z.cell? ⟨wr.heap.size, 4, none⟩ = some (.slice B l.length d)) := fun Z f => by
          have h2 := f.at_ hbx (fun e => e ((hY _).2 rfl))
          exact ⟨Lib.cell_of_heap h2 0, Lib.cell_of_heap h2 1, Lib.cell_of_heap h2 2, Lib.cell_of_heap h2 3, Lib.cell_of_heap h2 4⟩
        have HS := Lib.hid hS
        have H6 := Lib.hid h6
        have HKB := Lib.hid (show k + 1 ≤ 1000000000 ∧ k ≤ 1000000 by omega)
        have HST := Lib.hid (step_calls (h6.step ((Fr.refl NoB _).drew)) HL.out HKB.out.2 op hxy z hz B l d _ _ (fun W' f => hrd.fr f (Nat.le_refl _) (fun _ _ _ x => x)))
        clear hbx hS h6 q0 q1 q2 q3 q4 hrd T
        generalize (wr.alloc (.cells #[.int .i64 op, .int .i64 x, .int .i64 y, .int .i64 z, .slice B l.length d] 40)) = W6 at HS H6 HST ⊢
        have D0 := Lib.hid ((Fr.refl (fun g => ¬ Y g) W6).drew)
        go_region_held3 (fun Z => Z.cell? ⟨wr.heap.size, 0, none⟩ = some (.int .i64 op) ∧ Z.cell? ⟨wr.heap.size, 1, none⟩ = some (.int .i64 x) ∧ Z.cell? ⟨wr.heap.size, 2, none⟩ = some (.int .i64 y) ∧ Z.cell? ⟨wr.heap.size, 3, none⟩ = some (.int .i64 z) ∧ Z.cell? ⟨wr.heap.size, 4, none⟩ = some (.slice B l.length d)) (first
          | with_reducible exact HS.out _ (Fr.refl _ W6)
          | with_reducible exact HS.out _ D0.out
          | with_reducible exact HS.out _ (D0.out.then f3)
          | with_reducible exact HS.out _ ((D0.out.then f3).then f4.no)
          | with_reducible exact HS.out _ (((D0.out.then f3).then f4.no).then f5.no)
          | with_reducible exact HS.out _ ((((D0.out.then f3).then f4.no).then f5.no).drewN n6)) (first
          | ((with_reducible refine HST.out.mono ?_); rintro e w3 ⟨rfl, L2, t3, l3, f3⟩)
          | (go_at_call 21; (with_reducible refine (t3.count hxy).mono ?_); rintro e w4 ⟨rfl, rfl⟩)
          | (go_at_call 22; (with_reducible refine (t3.rcount (Nat.le_trans l3 HKB.out.1) x y).mono ?_); rintro e w4 ⟨rfl, rfl⟩)
          | (go_at_call 21; (with_reducible refine (t3.count (sw hxy)).mono ?_); rintro e w4 ⟨rfl, rfl⟩)
          | (go_at_call 22; (with_reducible refine (t3.rcount (Nat.le_trans l3 HKB.out.1) y x).mono ?_); rintro e w4 ⟨rfl, rfl⟩)
          | (go_at_call 24; (with_reducible refine (t3.links HKB.out.1).mono ?_); rintro e w4 ⟨A4, c4, rfl, k4, t4, f4⟩)
          | (go_at_call 25; (with_reducible refine (t4.rlinks (Nat.le_trans l3 HKB.out.1)).mono ?_); rintro e w5 ⟨A5, c5, rfl, k5, t5, f5⟩)
          | (go_at_call 23; (with_reducible refine (slinks_calls A4 A5 _ _ c4 c5 w5 (k4.fr f5 (fun _ _ _ x => x)) k5 (Nat.le_trans (links_len _) (Nat.le_trans l3 (Nat.le_trans HKB.out.1 (by decide)))) (Nat.le_trans (links_len _) (Nat.le_trans l3 (Nat.le_trans HKB.out.1 (by decide))))).mono ?_); rintro e w6 ⟨rfl, n6, rfl⟩))
        have T5 := Lib.hid (t5.step ((Fr.refl NoB w5).drewN n6))
        have L5 := Lib.hid l3
        clear t3 l3 f3 k4 t4 f4 k5 t5 f5 H6 HS HST D0
        go_wp2_with (fail)
        go_roundw
        case rel => exact ⟨k + 1, L2, hlt, by go_num, T5.out.fewer (fun _ x => x.elim), L5.out⟩
        case measure => simp [intOf]; omega
      · obtain rfl : k = 200 := by omega
        go_wp2_with (fail)
        refine (awake_calls wr).mono ?_
        rintro e w3 ⟨rfl, f3⟩
        go_wp2
        go_ret
        exact ⟨rfl, T.out.fr.then f3⟩
  · have hbn : ¬ (n : Int) > 200 := hbig
    have hn200 : n ≤ 200 := by omega
    clear hbig
    go_enter Try.func4, Try.ntmps4
    go_wp2_with (fail)
    refine (BN.new (X := NoB) (Fr.refl NoB w) (fun _ x => x.elim)).mono ?_
    rintro e w1 ⟨p, rfl, b1, f1⟩
    have B1 := Lib.hid b1
    clear b1 f1
    go_wp2_with (fail)
    refine (rnew_calls w1).mono ?_
    rintro e w2 ⟨q, rfl, r2, f2⟩
    have T2 := Lib.hid (TN.made B1.out r2 f2)
    clear r2 f2
    go_wp2_with (fail)
    go_loopw [5] (fun i W => ∃ (k : Nat) (L : List (Lk × List UInt8)), k ≤ n ∧ i = .int .i64 (k : Int) ∧ TN w W NoB p k L q L ∧ L.length ≤ k) (fun i _ => n - (intOf i).toNat)
    case atStart => exact ⟨0, [], Nat.zero_le _, rfl, T2.out, Nat.le_refl _⟩
    case round =>
      obtain ⟨k, L, hk, rfl, ht, hl⟩ := hrel
      have T := Lib.hid ht
      have HL := Lib.hid hl
      clear ht hl T2 B1
      by_cases hlt : k < n
      · obtain ⟨b, o, rfl, hb, hall⟩ := HR.out (by omega)
        have HALL := Lib.hid hall
        clear hall
        obtain ⟨op, x, y, z, B, l, d, hxy, hz, hrd, k0, k1, k2, k3, k4⟩ := HALL.out k hlt
        have F := Lib.hid T.out.fr
        have q0 := (F.out.cell (p := ⟨b, o + k * 5, none⟩) hb (fun x => x)).trans k0
        have q1 := (F.out.cell (p := ⟨b, o + k * 5 + 1, none⟩) hb (fun x => x)).trans k1
        have q2 := (F.out.cell (p := ⟨b, o + k * 5 + 2, none⟩) hb (fun x => x)).trans k2
        have q3 := (F.out.cell (p := ⟨b, o + k * 5 + 3, none⟩) hb (fun x => x)).trans k3
        have q4 := (F.out.cell (p := ⟨b, o + k * 5 + 4, none⟩) hb (fun x => x)).trans k4
        have hki : (k : Int) < ((n : Nat) : Int) := by omega
        have hk0 : (0 : Int) ≤ (k : Int) := by omega
        clear k0 k1 k2 k3 k4
        go_wp2_with (fail)
        obtain ⟨Y, hY⟩ : ∃ Y : Nat → Prop, ∀ g, Y g ↔ g = wr.heap.size := ⟨_, fun _ => Iff.rfl⟩
        have h6 : TN w (wr.alloc (.cells #[.int .i64 op, .int .i64 x, .int .i64 y, .int .i64 z, .slice B l.length d] 40)) Y p k L q L := T.out.add ((Fr.refl NoB wr).alloc _) (fun g hg => .inr ⟨by have := (hY g).1 hg; omega, by rw [World.size_alloc]; have := (hY g).1 hg; omega⟩)
        have hbx := heap_alloc_new wr (.cells #[.int .i64 op, .int .i64 x, .int .i64 y, .int .i64 z, .slice B l.length d] 40)
        have hS : ∀ Z, Fr (fun g => ¬ Y g) (wr.alloc (.cells #[.int .i64 op, .int .i64 x, .int .i64 y, .int .i64 z, .slice B l.length d] 40)) Z → (Z.cell? ⟨wr.heap.size, 0, none⟩ = some (.int .i64 op) ∧ Z.cell? ⟨wr.heap.size, 1, none⟩ = some (.int .i64 x) ∧ Z.cell? ⟨wr.heap.size, 2, none⟩ = some (.int .i64 y) ∧ Z.cell? ⟨wr.heap.size, 3, none⟩ = some (.int .i64 z) ∧ Z.cell? ⟨wr.heap.size, 4, none⟩ = some (.slice B l.length d)) := fun Z f => by
          have h2 := f.at_ hbx (fun e => e ((hY _).2 rfl))
          exact ⟨Lib.cell_of_heap h2 0, Lib.cell_of_heap h2 1, Lib.cell_of_heap h2 2, Lib.cell_of_heap h2 3, Lib.cell_of_heap h2 4⟩
        have HS := Lib.hid hS
        have H6 := Lib.hid h6
        have HKB := Lib.hid (show k + 1 ≤ 1000000000 ∧ k ≤ 1000000 by omega)
        have HST := Lib.hid (step_calls (h6.step ((Fr.refl NoB _).drew)) HL.out HKB.out.2 op hxy z hz B l d _ _ (fun W' f => hrd.fr f (Nat.le_refl _) (fun _ _ _ x => x)))
        clear hbx hS h6 q0 q1 q2 q3 q4 hrd T
        generalize (wr.alloc (.cells #[.int .i64 op, .int .i64 x, .int .i64 y, .int .i64 z, .slice B l.length d] 40)) = W6 at HS H6 HST ⊢
        have D0 := Lib.hid ((Fr.refl (fun g => ¬ Y g) W6).drew)
        go_region_held3 (fun Z => Z.cell? ⟨wr.heap.size, 0, none⟩ = some (.int .i64 op) ∧ Z.cell? ⟨wr.heap.size, 1, none⟩ = some (.int .i64 x) ∧ Z.cell? ⟨wr.heap.size, 2, none⟩ = some (.int .i64 y) ∧ Z.cell? ⟨wr.heap.size, 3, none⟩ = some (.int .i64 z) ∧ Z.cell? ⟨wr.heap.size, 4, none⟩ = some (.slice B l.length d)) (first
          | with_reducible exact HS.out _ (Fr.refl _ W6)
          | with_reducible exact HS.out _ D0.out
          | with_reducible exact HS.out _ (D0.out.then f3)
          | with_reducible exact HS.out _ ((D0.out.then f3).then f4.no)
          | with_reducible exact HS.out _ (((D0.out.then f3).then f4.no).then f5.no)
          | with_reducible exact HS.out _ ((((D0.out.then f3).then f4.no).then f5.no).drewN n6)) (first
          | ((with_reducible refine HST.out.mono ?_); rintro e w3 ⟨rfl, L2, t3, l3, f3⟩)
          | (go_at_call 21; (with_reducible refine (t3.count hxy).mono ?_); rintro e w4 ⟨rfl, rfl⟩)
          | (go_at_call 22; (with_reducible refine (t3.rcount (Nat.le_trans l3 HKB.out.1) x y).mono ?_); rintro e w4 ⟨rfl, rfl⟩)
          | (go_at_call 21; (with_reducible refine (t3.count (sw hxy)).mono ?_); rintro e w4 ⟨rfl, rfl⟩)
          | (go_at_call 22; (with_reducible refine (t3.rcount (Nat.le_trans l3 HKB.out.1) y x).mono ?_); rintro e w4 ⟨rfl, rfl⟩)
          | (go_at_call 24; (with_reducible refine (t3.links HKB.out.1).mono ?_); rintro e w4 ⟨A4, c4, rfl, k4, t4, f4⟩)
          | (go_at_call 25; (with_reducible refine (t4.rlinks (Nat.le_trans l3 HKB.out.1)).mono ?_); rintro e w5 ⟨A5, c5, rfl, k5, t5, f5⟩)
          | (go_at_call 23; (with_reducible refine (slinks_calls A4 A5 _ _ c4 c5 w5 (k4.fr f5 (fun _ _ _ x => x)) k5 (Nat.le_trans (links_len _) (Nat.le_trans l3 (Nat.le_trans HKB.out.1 (by decide)))) (Nat.le_trans (links_len _) (Nat.le_trans l3 (Nat.le_trans HKB.out.1 (by decide))))).mono ?_); rintro e w6 ⟨rfl, n6, rfl⟩))
        have T5 := Lib.hid (t5.step ((Fr.refl NoB w5).drewN n6))
        have L5 := Lib.hid l3
        clear t3 l3 f3 k4 t4 f4 k5 t5 f5 H6 HS HST D0
        go_wp2_with (fail)
        go_roundw
        case rel => exact ⟨k + 1, L2, hlt, by go_num, T5.out.fewer (fun _ x => x.elim), L5.out⟩
        case measure => simp [intOf]; omega
      · obtain rfl : k = n := by omega
        go_wp2_with (fail)
        refine (awake_calls wr).mono ?_
        rintro e w3 ⟨rfl, f3⟩
        go_wp2
        go_ret
        exact ⟨rfl, T.out.fr.then f3⟩
end Go.Proofs.Ytmgkenbfjlahpaa

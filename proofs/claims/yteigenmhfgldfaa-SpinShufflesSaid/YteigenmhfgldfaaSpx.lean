/-
  Spx: SpinShuffles answers true.
-/
import Derived.Test.YteigenmhfgldfaaSps
namespace Go.Proofs.Yteigenmhfgldfaa
open Go.RowKit Ieee

/-- Three rows of one's own, each made behind the one before it, lie apart. -/
theorem apart3 {y : World} {B b0 b1 b2 n : Nat} {A0 A1 A2 : Option Addr} {c0 c1 c2 : Nat} {l0 l1 l2 : List Int} (h0 : y.ownsRow b0 3 1 (.slice A0 n c0) n (iv l0)) (h1 : y.ownsRow b1 3 1 (.slice A1 n c1) n (iv l1)) (h2 : y.ownsRow b2 3 1 (.slice A2 n c2) n (iv l2))
    (e0 : B ≤ b0) (e1 : ∀ g, (Value.slice A0 n c0).ownBlock = some g → g < b1) (e2 : ∀ g, (Value.slice A1 n c1).ownBlock = some g → g < b2) (e3 : b0 ≤ b1) (e4 : b1 ≤ b2) (hB : B ≤ y.heap.size) (hn : n ≤ 300) :
    Calls Try.prog 19 #[.slice (some ⟨y.heap.size, 0, none⟩) 3 3] (y.alloc (.cells #[.slice A0 n c0, .slice A1 n c1, .slice A2 n c2] 33)) fun e w' => e = .returned (.bool true) ∧ Fr (fun g => B ≤ g) y w' := by
  have hfa := (Fr.refl NoB y).alloc (.cells #[.slice A0 n c0, .slice A1 n c1, .slice A2 n c2] 33)
  have hcell := heap_alloc_new y (.cells #[.slice A0 n c0, .slice A1 n c1, .slice A2 n c2] 33)
  have d0 : ∀ g, (Value.slice A0 n c0).ownBlock = some g → B ≤ g ∧ g < b1 := fun g hg => ⟨Nat.le_trans e0 (h0.lt g hg).1, e1 g hg⟩
  have d1 : ∀ g, (Value.slice A1 n c1).ownBlock = some g → b1 ≤ g ∧ g < b2 := fun g hg => ⟨(h1.lt g hg).1, e2 g hg⟩
  have d2 : ∀ g, (Value.slice A2 n c2).ownBlock = some g → b2 ≤ g := fun g hg => (h2.lt g hg).1
  have hap := aparti_calls (some ⟨y.heap.size, 0, none⟩) 3 3 B (fun k => ([.slice A0 n c0, .slice A1 n c1, .slice A2 n c2] : List Value).getD k (.slice none 0 0)) (fun _ => n) (fun k => ([l0, l1, l2] : List (List Int)).getD k []) (y.alloc (.cells #[.slice A0 n c0, .slice A1 n c1, .slice A2 n c2] 33))
    ⟨_, 0, rfl, by simp, fun k hk => by
      rcases (show k = 0 ∨ k = 1 ∨ k = 2 by omega) with rfl | rfl | rfl
      · exact Lib.cell_of_heap hcell 0
      · exact Lib.cell_of_heap hcell 1
      · exact Lib.cell_of_heap hcell 2⟩
    (fun k hk => by
      rcases (show k = 0 ∨ k = 1 ∨ k = 2 by omega) with rfl | rfl | rfl
      · exact own_keep (own_base h0 (by omega)) fun g hg => hfa.block g (h0.lt g hg).2 (fun x => x)
      · exact own_keep (own_base h1 (by omega)) fun g hg => hfa.block g (h1.lt g hg).2 (fun x => x)
      · exact own_keep (own_base h2 (by omega)) fun g hg => hfa.block g (h2.lt g hg).2 (fun x => x))
    (fun i j hi hj hij g hg hg2 => by
      rcases (show i = 0 ∨ i = 1 ∨ i = 2 by omega) with rfl | rfl | rfl <;> rcases (show j = 0 ∨ j = 1 ∨ j = 2 by omega) with rfl | rfl | rfl
      · exact hij rfl
      · have := d0 g hg; have := d1 g hg2; omega
      · have := d0 g hg; have := d2 g hg2; omega
      · have := d1 g hg; have := d0 g hg2; omega
      · exact hij rfl
      · have := d1 g hg; have := d2 g hg2; omega
      · have := d2 g hg; have := d0 g hg2; omega
      · have := d2 g hg; have := d1 g hg2; omega
      · exact hij rfl)
    (Nat.le_trans hB hfa.size) (by decide) (by decide) (fun _ _ => by omega)
  refine hap.mono fun e w' ⟨h, f⟩ => ⟨h, (hfa.no (M := fun g => B ≤ g)).then (f.mono fun k _ ⟨i, hi, hg⟩ => ?_)⟩
  rcases (show i = 0 ∨ i = 1 ∨ i = 2 by omega) with rfl | rfl | rfl
  · have := d0 k hg; omega
  · have := d1 k hg; omega
  · have := d2 k hg; omega

set_option maxRecDepth 8000 in
set_option maxHeartbeats 3200000 in
theorem shuffles_walk (seed : Int) (D : Option Addr) (a : List Int) (d : Nat) (w : World) (hD : RdI w 0 w.heap.size D a) (hla : a.length ≤ 140737488355328) :
    Calls Try.prog 5 #[.int .i64 seed, .slice D a.length d] w fun e w' => e = .returned (.bool true) ∧ Fr NoB w w' := by
  by_cases h1 : 300 < a.length
  · have h1i : 300 < (a.length : Int) := by omega
    go_enter Try.func5, Try.ntmps5
    go_wp2_with ((with_reducible refine (awake_calls _).mono ?_); rintro e w1 ⟨rfl, f1⟩)
    go_ret
    exact ⟨rfl, f1⟩
  have h1i : ¬ 300 < (a.length : Int) := by omega
  have hA := Lib.hid hD
  clear hD
  have hok : gok (pm seed, 1) := ⟨pm_lt _, (by decide : 1 < 524287)⟩
  have hle : (shuf (a.length - 1) (pm seed, 1) a).2.length = a.length := (shuf_ok (a.length - 1) (pm seed, 1) a hok).2
  have hcnt : ∀ x, (shuf (a.length - 1) (pm seed, 1) a).2.count x = a.count x := fun x => shuf_perm _ _ _ x (by omega)
  have c2 := fun W (f : Fr NoB w W) => copyi_calls D a d 0 w.heap.size W (hA.out.fr f (Nat.le_refl _) (fun _ _ _ x => x)) (by omega)
  have c4 := fun W p A c lo hi (hs : SpinAt W p (pm seed) 1) (h : RdI W lo hi A a) => shuffle_own p (pm seed, 1) A a c lo hi W hs hok h (by omega)
  generalize hLL : (shuf (a.length - 1) (pm seed, 1) a).2 = L at *
  go_enter Try.func5, Try.ntmps5
  go_wp2_with (first
    | ((with_reducible refine (awake_calls _).mono ?_); rintro e w1 ⟨rfl, f1⟩)
    | ((with_reducible refine (c2 _ f1).mono ?_); rintro e w2 ⟨v2, rfl, r2, f2⟩; obtain ⟨A2, k2, rfl, -, -⟩ := own_form4 r2)
    | ((with_reducible refine (new_calls seed _).mono ?_); rintro e w3 ⟨p, rfl, hp, hs, f3⟩))
  have r2b := own_keep r2 (w' := w3) fun g hg => f3.block g (r2.lt g hg).2 (fun x => x)
  refine (c4 _ p A2 k2 w1.heap.size w3.heap.size hs (own_rdi r2b)).mono ?_
  rintro e w4 ⟨A4, k4, rfl, r4, f4⟩
  have sp := hs.cells.2.2.2
  have s1 := f1.size
  have s2 := f2.size
  have s3 := f3.size
  have s4 := f4.size
  have r2lt : ∀ g, (Value.slice A2 a.length k2).ownBlock = some g → g < w2.heap.size := fun g hg => (r2.lt g hg).2
  have r2c := own_keep r2b (w' := w4) fun g hg => f4.block g (r2b.lt g hg).2 (fun hx => by have hx' : g = p := hx; have := r2lt g hg; omega)
  have F4 : Fr NoB w w4 := ((f1.then f2).then f3).upE f4 (fun k hk => by have hk' : k = p := hk; omega)
  clear f1 f2 f3 f4 hs r2 r2b
  go_wp2_with ((with_reducible refine (new_calls seed _).mono ?_); rintro e w5 ⟨q, rfl, hq, hs2, f5⟩)
  have s5 := f5.size
  have r2d := own_keep r2c (w' := w5) fun g hg => f5.block g (r2c.lt g hg).2 (fun x => x)
  have r4b := own_keep r4 (w' := w5) fun g hg => f5.block g (r4.lt g hg).2 (fun x => x)
  refine (c4 _ q A2 k2 w1.heap.size w5.heap.size hs2 (own_rdi r2d)).mono ?_
  rintro e w6 ⟨A6, k6, rfl, r6, f6⟩
  have s6 := f6.size
  have r4lt : ∀ g, (Value.slice A4 a.length k4).ownBlock = some g → g < w4.heap.size := fun g hg => (r4.lt g hg).2
  have r2e := own_keep r2d (w' := w6) fun g hg => f6.block g (r2d.lt g hg).2 (fun hx => by have hx' : g = q := hx; have := r2lt g hg; omega)
  have r4c := own_keep r4b (w' := w6) fun g hg => f6.block g (r4b.lt g hg).2 (fun hx => by have hx' : g = q := hx; have := r4lt g hg; omega)
  have F6 : Fr NoB w w6 := (F4.then f5).upE f6 (fun k hk => by have hk' : k = q := hk; omega)
  clear f5 f6 hs2 r2c r2d r4 r4b F4 c2 c4
  have hAL := own_rdi (l := L) (n := a.length) (c := k4) (base := w3.heap.size) (w := w6) (A := A4) (e := 3) (by rw [hle]; exact r4c)
  have hBL := own_rdi (l := L) (n := a.length) (c := k6) (base := w5.heap.size) (w := w6) (A := A6) (e := 3) (by rw [hle]; exact r6)
  go_wp2_with ((with_reducible refine (samei_n _ _ L _ _ _ _ _ _ _ _ hle hAL hBL hla).mono ?_); rintro e w7 ⟨rfl, n7, rfl⟩)
  have RA := Lib.hid (hA.out.fr F6 (Nat.le_refl _) (fun _ _ _ x => x))
  have HAL := Lib.hid hAL
  clear hAL hBL hA
  go_loopw [8] (fun i W => ∃ k : Nat, k ≤ a.length ∧ i = .int .i64 (k : Int) ∧ ∃ m, W = w6.drewN m) (fun i _ => a.length - (intOf i).toNat)
  case atStart => exact ⟨0, Nat.zero_le _, rfl, n7, rfl⟩
  case round =>
    obtain ⟨k, hk, rfl, m, rfl⟩ := hrel
    by_cases hlt : k < a.length
    · have hki : (k : Int) < (a.length : Int) := by omega
      go_wp2
      go_loopw [9, 10] (fun n j W => ∃ t : Nat, t ≤ a.length ∧ n = .int .i64 (bal a L (a.getD k 0) t) ∧ j = .int .i64 (t : Int) ∧ ∃ m, W = w6.drewN m) (fun _ j _ => a.length - (intOf j).toNat)
      case atStart => exact ⟨0, Nat.zero_le _, rfl, rfl, _, rfl⟩
      case round =>
        obtain ⟨t, ht, rfl, rfl, m2, rfl⟩ := hrel
        by_cases hltt : t < a.length
        · have hti : (t : Int) < (a.length : Int) := by omega
          obtain ⟨b, o, rfl, -, -, h0⟩ := RA.out (by omega)
          have ct := h0 t hltt
          have ck := h0 k hlt
          obtain ⟨b', o', rfl, -, -, h0'⟩ := HAL.out (by omega)
          have ct' := h0' t (by omega)
          clear h0 h0' r2e r4c r6 RA HAL
          have hb := bal_le a L (a.getD k 0) t
          have hs := show bal a L (a.getD k 0) (t + 1) = (bal a L (a.getD k 0) t + (if a.getD t 0 = a.getD k 0 then 1 else 0)) - (if L.getD t 0 = a.getD k 0 then 1 else 0) from rfl
          generalize hB : bal a L (a.getD k 0) t = B at *
          generalize a.getD k 0 = x at *
          generalize a.getD t 0 = y at *
          generalize L.getD t 0 = z at *
          by_cases e1 : y = x <;> by_cases e2 : z = x <;> simp only [e1, e2, if_true, if_false] at hs
          all_goals
            go_wp2
            go_quiet (fail)
            go_wp2
            go_quiet (fail)
            go_wp2
            refine ⟨⟨t + 1, by omega, by rw [hs]; go_num, by go_num, _, rfl⟩, by simp [intOf]; omega⟩
        · obtain rfl : t = a.length := by omega
          rw [bal_end a L _ hle hcnt]
          go_wp2
          go_roundw
          case rel => exact ⟨k + 1, by omega, by go_num, _, rfl⟩
          case measure => simp [intOf]; omega
    · obtain rfl : k = a.length := by omega
      go_wp2_with (fail)
      refine (apart3 (y := w6.drewN m) (B := w.heap.size) r2e r4c r6 (by omega) (fun g hg => by have := r2lt g hg; omega) (fun g hg => by have := r4lt g hg; omega) (by omega) (by omega) F6.size (by omega)).mono ?_
      rintro e w9 ⟨rfl, f9⟩
      have F9 := (F6.drewN m).upE f9 (fun k hk => hk)
      go_wp2
      go_ret
      exact ⟨rfl, F9⟩
end Go.Proofs.Yteigenmhfgldfaa

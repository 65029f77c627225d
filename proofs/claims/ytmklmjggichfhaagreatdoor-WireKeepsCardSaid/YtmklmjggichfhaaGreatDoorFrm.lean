/-
  Frm: wire.four, wire.number, wire.Frame, wire.Unframe.
-/
import Derived.Test.YtmklmjggichfhaaGreatDoorSum
import Derived.Test.YtmklmjggichfhaaGreatDoorWtr
import Derived.Test.YtmklmjggichfhaaGreatDoorKit
namespace Go.Proofs.YtmklmjggichfhaaGreatDoor
open Go.RowKit

set_option maxRecDepth 8000 in
set_option maxHeartbeats 800000 in
theorem four_calls (n : Nat) (hn : n < 4294967296) (w : World) :
    Calls Tryz.prog 33 #[.int .u32 n] w fun e w' => ∃ v, e = .returned v ∧ w'.ownsRow w.heap.size 5 1 v 4 (bv (fourB n)) ∧ Below w.heap.size w w' := by
  go_enter Tryz.func33, Tryz.ntmps33
  go_wp2
  go_ret
  refine ⟨_, rfl, ?_, (Below.refl _ _).alloc (Nat.le_refl _) _⟩
  rw [four_bv n hn]
  exact World.ownsRow_lit (size := 1) w #[_, _, _, _] 4 (Nat.le_refl _) (by unfold maxLen; omega) rfl

set_option maxRecDepth 8000 in
set_option maxHeartbeats 800000 in
theorem number_calls (A : Option Addr) (l : List UInt8) (c lo hi : Nat) (w : World) (h : Rd w lo hi A l) (hl : 4 ≤ l.length) (hm : l.length ≤ 140737488355328) :
    Calls Tryz.prog 34 #[.slice A l.length c] w fun e w' => e = .returned (.int .u32 (numB l)) ∧ ∃ n, w' = w.drewN n := by
  obtain ⟨b, o, rfl, -, -, hc⟩ := h (by omega)
  have c0 := hc 0 (by omega)
  have c1 := hc 1 (by omega)
  have c2 := hc 2 (by omega)
  have c3 := hc 3 (by omega)
  obtain ⟨x0, x1, x2, x3, r, rfl⟩ : ∃ x0 x1 x2 x3 r, l = x0 :: x1 :: x2 :: x3 :: r := by
    match l, hl with
    | x0 :: x1 :: x2 :: x3 :: r, _ => exact ⟨x0, x1, x2, x3, r, rfl⟩
  simp only [List.getD_cons_zero, List.getD_cons_succ, Nat.add_zero] at c0 c1 c2 c3
  have hn := bv_num x0 x1 x2 x3
  have h0 := x0.toNat_lt; have h1 := x1.toNat_lt; have h2 := x2.toNat_lt; have h3 := x3.toNat_lt
  have HN := Lib.hid hn
  clear h hc hn
  go_enter Tryz.func34, Tryz.ntmps34
  go_wp2
  go_quiet (fail)
  go_wp2
  go_ret
  refine ⟨?_, _, rfl⟩
  refine Eq.trans ?_ (ret_int HN.out)
  rfl

theorem own_fr {M : Nat → Prop} {w w' : World} {base e size n : Nat} {v : Value} {xs : List Value} (h : w.ownsRow base e size v n xs) (hf : Fr M w w') (hm : ∀ g, v.ownBlock = some g → ¬ M g) : w'.ownsRow base e size v n xs :=
  own_keep h fun g hg => hf.block g (h.lt g hg).2 (hm g hg)
theorem own_srcs {w : World} {base e m c : Nat} {A : Option Addr} {xs : List Value} (h : w.ownsRow base e 1 (.slice A m c) m xs) : 0 < m → ∃ ad, A = some ad ∧ ∀ j u, xs[j]? = some u → w.cell? (ad.add j) = some u := fun hm => by
  obtain ⟨g, cap, hv, _, _⟩ := h.form hm
  have hA : A = some ⟨g, 0, none⟩ := by injection hv
  subst hA
  exact ⟨_, rfl, h.cells (g := g) rfl⟩

set_option maxRecDepth 8000 in
set_option maxHeartbeats 800000 in
theorem frame_long (A : Option Addr) (n c : Nat) (w : World) (h : 1048576 < n) (hm : n ≤ 140737488355328) :
    Calls Tryz.prog 9 #[.slice A n c] w fun e w' => e = .returned (.tuple #[.slice none 0 0, .int .i64 3]) ∧ w = w' := by
  go_enter Tryz.func9, Tryz.ntmps9
  go_wp2
  go_ret2
  exact ⟨rfl, rfl⟩

/-- A frame in new memory. -/
def Framed (l : List UInt8) (w : World) (e : Ending) (w' : World) : Prop :=
  ∃ v, e = .returned (.tuple #[v, .int .i64 0]) ∧ w'.ownsRow w.heap.size 5 1 v (frameB l).length (bv (frameB l)) ∧ Fr NoB w w'

set_option maxRecDepth 8000 in
set_option maxHeartbeats 1600000 in
theorem frame_calls (A : Option Addr) (l : List UInt8) (c lo hi : Nat) (w : World) (h : Rd w lo hi A l) (hh : hi ≤ w.heap.size) (hl : l.length ≤ 1048576) :
    Calls Tryz.prog 9 #[.slice A l.length c] w (Framed l w) := by
  obtain ⟨i0, hi0, hz0, hz1, hz2⟩ := info_parts info_byte
  have hcr := (crc l).isLt
  go_enter Tryz.func9, Tryz.ntmps9
  go_wp2_with (go_at_call 33; refine (four_calls l.length (by omega) _).mono ?_)
  rintro e w1 ⟨v1, rfl, o1, b1⟩
  have f1 : Fr NoB w w1 := Fr.ofBelow b1
  have r1 := h.fr f1 hh (fun _ _ _ x => x)
  obtain ⟨A1, c1, rfl, _, _⟩ := own_form o1
  go_wp2_with (go_at_call 11; refine (sum_calls A l c lo hi _ r1 (Nat.le_trans hh f1.size) (by omega)).mono ?_)
  rintro e w2 ⟨rfl, f2⟩
  have o2 := own_fr o1 f2 (fun _ _ x => x)
  have r2 := r1.fr f2 (Nat.le_trans hh f1.size) (fun _ _ _ x => x)
  have f12 := f1.then f2
  clear o1 r1 b1
  go_wp2_with (go_at_call 33; refine (four_calls (crc l).toNat (by omega) _).mono ?_)
  rintro e w3 ⟨v3, rfl, o3, b3⟩
  have f3 : Fr NoB w2 w3 := Fr.ofBelow b3
  have o4 := own_fr o2 f3 (fun _ _ x => x)
  have r3 := r2.fr f3 (Nat.le_trans hh f12.size) (fun _ _ _ x => x)
  have f13 := f12.then f3
  obtain ⟨A3, c3, rfl, _, _⟩ := own_form o3
  have hs3 := own_srcs o3
  clear o2 r2 b3 o3
  go_wp2_with (at_builtin; refine wpList_append_src _ rfl _ _ 22 rfl w.heap.size 5 i0 (.int .u8 0) 1 1 Tryz.underlying22 hi0 hz0 hz1 hz2 rfl (by decide) _ 4 (bv (fourB l.length)) rfl o4 A3 4 c3 (bv (fourB (crc l).toNat)) rfl rfl hs3 (bv_one _) (by unfold maxLen; omega) (by omega) f13.size ?_)
  intro v4 w4 hA4
  have f14 : Fr NoB w w4 := f13.trans hA4.fr fun k hk h1 => absurd (o4.lt k h1).1 (by omega)
  have o5 := hA4.own
  clear hA4 o4 hs3 f13 r3
  have r4 := h.fr f14 hh (fun _ _ _ x => x)
  obtain ⟨A4, c4, rfl, _, _⟩ := own_form o5
  go_wp2_with (at_builtin; refine wpList_append_src _ rfl _ _ 22 rfl w.heap.size 5 i0 (.int .u8 0) 1 1 Tryz.underlying22 hi0 hz0 hz1 hz2 rfl (by decide) _ _ _ rfl o5 A l.length c (bv l) rfl (by simp) r4.srcs (bv_one _) (by unfold maxLen; omega) (by omega) f14.size ?_)
  intro v5 w5 hA5
  have f15 : Fr NoB w w5 := f14.trans hA5.fr fun k hk h1 => absurd (o5.lt k h1).1 (by omega)
  have o6 := hA5.own
  clear hA5 o5 f14 r4
  obtain ⟨A5, c5, rfl, _, _⟩ := own_form o6
  have HF := Lib.hid f15
  clear f15
  go_wp2
  go_ret2
  refine ⟨_, rfl, ?_, HF.out⟩
  have e1 : (frameB l).length = 4 + 4 + l.length := by simp [frameB, fourB]; omega
  have e2 : bv (frameB l) = bv (fourB l.length) ++ bv (fourB (crc l).toNat) ++ bv l := by simp [frameB]
  rw [e1, e2]
  exact o6

/-- What Unframe answers of bytes. -/
def Unframed (b : List UInt8) (w : World) (e : Ending) (w' : World) : Prop :=
  (match unframe b with
    | none => e = .returned (.tuple #[.slice none 0 0, .int .i64 0, .int .i64 4])
    | some x => ∃ v, e = .returned (.tuple #[v, .int .i64 (8 + x.length : Nat), .int .i64 0]) ∧ w'.ownsRow w.heap.size 5 1 v x.length (bv x)) ∧ Fr NoB w w'

set_option maxRecDepth 8000 in
set_option maxHeartbeats 1600000 in
theorem unframe_short (A : Option Addr) (l : List UInt8) (c : Nat) (w : World) (hl : l.length < 8) :
    Calls Tryz.prog 10 #[.slice A l.length c] w (Unframed l w) := by
  have q : Unframed l w (.returned (.tuple #[.slice none 0 0, .int .i64 0, .int .i64 4])) w := by
    refine ⟨?_, Fr.refl _ _⟩
    simp only [unframe, if_pos hl]
  go_enter Tryz.func10, Tryz.ntmps10
  go_wp2
  go_ret3
  exact q

set_option maxRecDepth 8000 in
set_option maxHeartbeats 1600000 in
theorem unframe_big (A : Option Addr) (l : List UInt8) (c lo hi : Nat) (w : World) (h : Rd w lo hi A l) (hm : l.length ≤ 140737488355328) (hl : 8 ≤ l.length) (hb : 1048576 < numB l ∨ l.length - 8 < numB l) :
    Calls Tryz.prog 10 #[.slice A l.length c] w (Unframed l w) := by
  have q : ∀ n, Unframed l w (.returned (.tuple #[.slice none 0 0, .int .i64 0, .int .i64 4])) (w.drewN n) := by
    intro n
    refine ⟨?_, (Fr.refl _ _).drewN _⟩
    simp only [unframe, if_neg (show ¬ l.length < 8 by omega), if_pos hb]
  have hnl := numB_lt l
  go_enter Tryz.func10, Tryz.ntmps10
  go_wp2_with (go_at_call 34; refine (number_calls A l c lo hi _ h (by omega) hm).mono ?_)
  rintro e w1 ⟨rfl, n, rfl⟩
  generalize numB l = N at *
  go_wp2
  by_cases h1 : 1048576 < N
  · have d1 : decide (1048576 < N) = true := by simpa using h1
    have d1' : decide ((1048576 : Int) < (N : Int)) = true := by rw [decide_eq_true_iff]; omega
    clear hb h
    go_quiet (fail)
    go_wp2
    go_ret3
    have := q (n + nq)
    simpa using this
  · have d1 : decide (1048576 < N) = false := by simpa using h1
    have d1' : decide ((1048576 : Int) < (N : Int)) = false := by rw [decide_eq_false_iff_not]; omega
    have d2' : decide ((l.length : Int) - 8 < (N : Int)) = true := by rw [decide_eq_true_iff]; omega
    clear hb h
    go_quiet (fail)
    go_wp2
    go_ret3
    have := q (n + nq)
    simpa using this

end Go.Proofs.YtmklmjggichfhaaGreatDoor

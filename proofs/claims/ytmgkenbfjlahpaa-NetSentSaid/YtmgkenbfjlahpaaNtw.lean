/-
  Ntw: one step by the program and by the document.
-/
import Derived.Test.YtmgkenbfjlahpaaNtv
import Derived.Test.YtmgkenbfjlahpaaKit
namespace Go.Proofs.Ytmgkenbfjlahpaa
open Go.RowKit Go.WideMaps Go.Sort

theorem TN.tkb {w W : World} {X : Nat → Prop} {p B q : Nat} {L R : List (Lk × List UInt8)} (h : TN w W X p B L q R) (k : Lk) (z : Int) : (tkB R k z).length ≤ 1048576 := by
  obtain ⟨U, -, ⟨v, V, h2, rfl⟩, h3⟩ := h
  unfold tkB
  cases hm : meant (bytesV V) k z with
  | none => simp
  | some l =>
    obtain ⟨n, -, -, hn⟩ := meant_some hm
    rw [bag_bytes] at hn
    obtain ⟨x, hx, rfl⟩ := List.mem_map.1 (List.mem_of_getElem? hn)
    exact h2.lens _ (bag_mem.1 hx)

set_option maxRecDepth 8000 in
set_option maxHeartbeats 6400000 in
theorem step_calls {w W : World} {X : Nat → Prop} {p B q : Nat} {L : List (Lk × List UInt8)} (h : TN w W X p B L q L) (hl : L.length ≤ B) (hB : B ≤ 1000000) (op : Int) {a b : Int} (hk : InR (a, b)) (z : Int) (hz : z ≤ 9223372036854775807) (A : Option Addr) (l : List UInt8) (c lo hi : Nat) (hr : ∀ W', Fr NoB w W' → Rd W' lo hi A l) :
    Calls Try.prog 20 #[.pointer (some ⟨p, 0, none⟩), .pointer (some ⟨q, 0, none⟩), .agg #[.int .i64 op, .int .i64 a, .int .i64 b, .int .i64 z, .slice A l.length c]] W fun e w' => e = .returned (.bool true) ∧ ∃ L', TN w w' X p (B + 1) L' q L' ∧ L'.length ≤ B + 1 ∧ Fr (fun g => ¬ X g) W w' := by
  obtain ⟨Y, hY⟩ : ∃ Y : Nat → Prop, ∀ g, Y g ↔ (X g ∨ g = W.heap.size) := ⟨_, fun _ => Iff.rfl⟩
  have h1 : TN w (W.alloc (.cells #[.int .i64 op, .int .i64 a, .int .i64 b, .int .i64 z, .slice A l.length c] 40)) Y p B L q L := h.add ((Fr.refl NoB W).alloc _) (fun g hg => ((hY g).1 hg).imp id fun e => ⟨by omega, by rw [World.size_alloc]; omega⟩)
  have hbx := heap_alloc_new W (.cells #[.int .i64 op, .int .i64 a, .int .i64 b, .int .i64 z, .slice A l.length c] 40)
  have HF0 := Lib.hid (fun W' (f : Fr (fun g => ¬ Y g) (W.alloc (.cells #[.int .i64 op, .int .i64 a, .int .i64 b, .int .i64 z, .slice A l.length c] 40)) W') => ((Fr.refl (fun g => ¬ X g) W).alloc _).then (f.mono fun g _ hg hx => hg ((hY g).2 (.inl hx))))
  have HYX := Lib.hid (fun g (x : X g) => (hY g).2 (.inl x))
  have hS : ∀ Z, Fr (fun g => ¬ Y g) (W.alloc (.cells #[.int .i64 op, .int .i64 a, .int .i64 b, .int .i64 z, .slice A l.length c] 40)) Z → (Z.cell? ⟨W.heap.size, 1, none⟩ = some (.int .i64 a) ∧ Z.cell? ⟨W.heap.size, 2, none⟩ = some (.int .i64 b) ∧ Z.cell? ⟨W.heap.size, 3, none⟩ = some (.int .i64 z) ∧ Z.cell? ⟨W.heap.size, 4, none⟩ = some (.slice A l.length c)) := fun Z f => by
    have h2 := f.at_ hbx (fun x => x ((hY _).2 (.inr rfl)))
    exact ⟨Lib.cell_of_heap h2 1, Lib.cell_of_heap h2 2, Lib.cell_of_heap h2 3, Lib.cell_of_heap h2 4⟩
  have HS := Lib.hid hS
  have H1 := Lib.hid h1
  have HR := Lib.hid hr
  have HBm := Lib.hid (show B < maxLen by unfold maxLen; omega)
  have HLm := Lib.hid (show L.length ≤ 1000000000 by omega)
  have HL := Lib.hid hl
  clear hbx hS h1 h hr hl hB hY
  obtain ⟨m, hm⟩ : ∃ m, op % 6 = m := ⟨_, rfl⟩
  have hmm : m = 0 ∨ m = 1 ∨ m = 2 ∨ m = 3 ∨ m = 4 ∨ m = 5 := by omega
  have hp := fun W => pick_calls op 6 W (by decide) (by decide)
  rw [hm] at hp
  have HP := Lib.hid hp
  clear hp hm
  go_enter Try.func20, Try.ntmps20
  rcases hmm with rfl | rfl | rfl | rfl | rfl | rfl
  · go_wp2_with (first | ((with_reducible refine (HP.out _).mono ?_); rintro e w' ⟨rfl, rfl⟩) | fail)
    generalize (W.alloc (.cells #[.int .i64 op, .int .i64 a, .int .i64 b, .int .i64 z, .slice A l.length c] 40)) = W1 at H1 HS HF0 ⊢
    have D0 := Lib.hid ((Fr.refl (fun g => ¬ Y g) W1).drew)
    have TP := Lib.hid ((H1.out.step ((Fr.refl NoB W1).drew)).send HBm.out hk A l c lo hi (HR.out _ (H1.out.fr.drew)))
    go_region_held3 (fun Z => Z.cell? ⟨W.heap.size, 1, none⟩ = some (.int .i64 a) ∧ Z.cell? ⟨W.heap.size, 2, none⟩ = some (.int .i64 b) ∧ Z.cell? ⟨W.heap.size, 3, none⟩ = some (.int .i64 z) ∧ Z.cell? ⟨W.heap.size, 4, none⟩ = some (.slice A l.length c)) (first
      | with_reducible exact HS.out _ (Fr.refl _ W1)
      | with_reducible exact HS.out _ D0.out
      | with_reducible exact HS.out _ (D0.out.then f2)
      | with_reducible exact HS.out _ ((D0.out.then f2).then f3)) (first
      | ((with_reducible refine TP.out.mono ?_); rintro e w2 ⟨rfl, t2, f2⟩)
      | ((with_reducible refine (t2.rsend HLm.out a b A l c lo hi (HR.out _ t2.fr)).mono ?_); rintro e w3 ⟨rfl, t3, f3⟩))
    go_wp2
    go_ret
    exact ⟨rfl, _, t3.fewer HYX.out, Nat.le_trans (sendL_len _ _ _) (Nat.add_le_add_right HL.out 1), HF0.out _ ((D0.out.then f2).then f3)⟩
  · go_wp2_with (first | ((with_reducible refine (HP.out _).mono ?_); rintro e w' ⟨rfl, rfl⟩) | fail)
    generalize (W.alloc (.cells #[.int .i64 op, .int .i64 a, .int .i64 b, .int .i64 z, .slice A l.length c] 40)) = W1 at H1 HS HF0 ⊢
    have D0 := Lib.hid ((Fr.refl (fun g => ¬ Y g) W1).drew)
    have TP := Lib.hid ((H1.out.step ((Fr.refl NoB W1).drew)).send HBm.out hk A l c lo hi (HR.out _ (H1.out.fr.drew)))
    go_region_held3 (fun Z => Z.cell? ⟨W.heap.size, 1, none⟩ = some (.int .i64 a) ∧ Z.cell? ⟨W.heap.size, 2, none⟩ = some (.int .i64 b) ∧ Z.cell? ⟨W.heap.size, 3, none⟩ = some (.int .i64 z) ∧ Z.cell? ⟨W.heap.size, 4, none⟩ = some (.slice A l.length c)) (first
      | with_reducible exact HS.out _ (Fr.refl _ W1)
      | with_reducible exact HS.out _ D0.out
      | with_reducible exact HS.out _ (D0.out.then f2)
      | with_reducible exact HS.out _ ((D0.out.then f2).then f3)) (first
      | ((with_reducible refine TP.out.mono ?_); rintro e w2 ⟨rfl, t2, f2⟩)
      | ((with_reducible refine (t2.rsend HLm.out a b A l c lo hi (HR.out _ t2.fr)).mono ?_); rintro e w3 ⟨rfl, t3, f3⟩))
    go_wp2
    go_ret
    exact ⟨rfl, _, t3.fewer HYX.out, Nat.le_trans (sendL_len _ _ _) (Nat.add_le_add_right HL.out 1), HF0.out _ ((D0.out.then f2).then f3)⟩
  · go_wp2_with (first | ((with_reducible refine (HP.out _).mono ?_); rintro e w' ⟨rfl, rfl⟩) | fail)
    generalize (W.alloc (.cells #[.int .i64 op, .int .i64 a, .int .i64 b, .int .i64 z, .slice A l.length c] 40)) = W1 at H1 HS HF0 ⊢
    have D0 := Lib.hid ((Fr.refl (fun g => ¬ Y g) W1).drew)
    have TP := Lib.hid ((H1.out.step ((Fr.refl NoB W1).drew)).send HBm.out hk A l c lo hi (HR.out _ (H1.out.fr.drew)))
    go_region_held3 (fun Z => Z.cell? ⟨W.heap.size, 1, none⟩ = some (.int .i64 a) ∧ Z.cell? ⟨W.heap.size, 2, none⟩ = some (.int .i64 b) ∧ Z.cell? ⟨W.heap.size, 3, none⟩ = some (.int .i64 z) ∧ Z.cell? ⟨W.heap.size, 4, none⟩ = some (.slice A l.length c)) (first
      | with_reducible exact HS.out _ (Fr.refl _ W1)
      | with_reducible exact HS.out _ D0.out
      | with_reducible exact HS.out _ (D0.out.then f2)
      | with_reducible exact HS.out _ ((D0.out.then f2).then f3)) (first
      | ((with_reducible refine TP.out.mono ?_); rintro e w2 ⟨rfl, t2, f2⟩)
      | ((with_reducible refine (t2.rsend HLm.out a b A l c lo hi (HR.out _ t2.fr)).mono ?_); rintro e w3 ⟨rfl, t3, f3⟩))
    go_wp2
    go_ret
    exact ⟨rfl, _, t3.fewer HYX.out, Nat.le_trans (sendL_len _ _ _) (Nat.add_le_add_right HL.out 1), HF0.out _ ((D0.out.then f2).then f3)⟩
  · have hc0 := HS.out _ (Fr.refl _ (W.alloc (.cells #[.int .i64 op, .int .i64 a, .int .i64 b, .int .i64 z, .slice A l.length c] 40)))
    go_wp2_with (first | ((with_reducible refine (HP.out _).mono ?_); rintro e w' ⟨rfl, rfl⟩) | fail)
    generalize (W.alloc (.cells #[.int .i64 op, .int .i64 a, .int .i64 b, .int .i64 z, .slice A l.length c] 40)) = W1 at H1 HS HF0 ⊢
    refine (H1.out.take HBm.out hk z).mono ?_
    rintro e w2 ⟨A2, c2, rfl, o2, t2, f2⟩
    obtain ⟨l2, hl2⟩ : ∃ l2, tkB L (a, b) z = l2 := ⟨_, rfl⟩
    obtain ⟨g2, hg2⟩ : ∃ g2, (meant L (a, b) z).isSome = g2 := ⟨_, rfl⟩
    have TL := Lib.hid (show l2.length ≤ 140737488355328 by have := H1.out.tkb (a, b) z; rw [hl2] at this; omega)
    rw [hl2] at o2 t2 ⊢
    rw [hg2]
    obtain ⟨hc1, hc2, hc3, -⟩ := HS.out _ f2
    have O2 := Lib.hid o2
    have T2 := Lib.hid t2
    have F2 := Lib.hid f2
    clear o2 t2 f2 hc0
    go_wp2_with (fail)
    refine (T2.out.rtake HLm.out a b z hz).mono ?_
    rintro e w3 ⟨A3, c3, rfl, o3, t3, f3⟩
    rw [hl2] at o3 ⊢
    rw [hg2]
    have HSM := Lib.hid (same_calls A2 A3 l2 l2 c2 c3 _ _ _ _ w3 (own_rd (ownBlock_kept2 O2.out f3 (fun g hg hx => hx (.inr hg)))) (own_rd o3) TL.out TL.out)
    have T3 := Lib.hid t3
    have F3 := Lib.hid f3
    clear hl2 hg2 o3 t3 f3 hc1 hc2 hc3
    go_wp2_with (first | ((with_reducible refine HSM.out.mono ?_); rintro e w4 ⟨rfl, n4, rfl⟩) | fail)
    go_ret
    exact ⟨by simp, _, (T3.out.step ((Fr.refl NoB w3).drewN n4)).fewer (fun g x => .inl (HYX.out g x)), Nat.le_trans (tkL_len _ _ _) (Nat.add_le_add_right HL.out 1), HF0.out _ ((F2.out.then (F3.out.mono fun g _ hg hx => hg (.inl hx))).drewN n4)⟩
  · go_wp2_with (first | ((with_reducible refine (HP.out _).mono ?_); rintro e w' ⟨rfl, rfl⟩) | fail)
    generalize (W.alloc (.cells #[.int .i64 op, .int .i64 a, .int .i64 b, .int .i64 z, .slice A l.length c] 40)) = W1 at H1 HS HF0 ⊢
    have D0 := Lib.hid ((Fr.refl (fun g => ¬ Y g) W1).drew)
    have TP := Lib.hid ((H1.out.step ((Fr.refl NoB W1).drew)).twice HBm.out hk z)
    go_region_held3 (fun Z => Z.cell? ⟨W.heap.size, 1, none⟩ = some (.int .i64 a) ∧ Z.cell? ⟨W.heap.size, 2, none⟩ = some (.int .i64 b) ∧ Z.cell? ⟨W.heap.size, 3, none⟩ = some (.int .i64 z) ∧ Z.cell? ⟨W.heap.size, 4, none⟩ = some (.slice A l.length c)) (first
      | with_reducible exact HS.out _ (Fr.refl _ W1)
      | with_reducible exact HS.out _ D0.out
      | with_reducible exact HS.out _ (D0.out.then f2)
      | with_reducible exact HS.out _ ((D0.out.then f2).then f3)) (first
      | ((with_reducible refine TP.out.mono ?_); rintro e w2 ⟨rfl, t2, f2⟩)
      | ((with_reducible refine (t2.rtwice HLm.out a b z hz).mono ?_); rintro e w3 ⟨rfl, t3, f3⟩))
    go_wp2
    go_ret
    exact ⟨rfl, _, t3.fewer HYX.out, Nat.le_trans (twL_len _ _ _) (Nat.add_le_add_right HL.out 1), HF0.out _ ((D0.out.then f2).then f3)⟩
  · go_wp2_with (first | ((with_reducible refine (HP.out _).mono ?_); rintro e w' ⟨rfl, rfl⟩) | fail)
    generalize (W.alloc (.cells #[.int .i64 op, .int .i64 a, .int .i64 b, .int .i64 z, .slice A l.length c] 40)) = W1 at H1 HS HF0 ⊢
    refine (H1.out.clear hk).mono ?_
    rintro e w2 ⟨rfl, t2, f2⟩
    obtain ⟨hc1, hc2, hc3, -⟩ := HS.out _ f2
    have T2 := Lib.hid t2
    have F2 := Lib.hid f2
    clear t2 f2
    go_wp2_with (fail)
    refine (T2.out.rclear HLm.out a b).mono ?_
    rintro e w3 ⟨rfl, t3, f3⟩
    go_wp2
    go_ret
    exact ⟨rfl, _, (t3.fewer HYX.out).le (Nat.le_succ _), Nat.le_trans (clearL_len _ _ _) (Nat.add_le_add_right HL.out 1), HF0.out _ (F2.out.then f3)⟩
end Go.Proofs.Ytmgkenbfjlahpaa

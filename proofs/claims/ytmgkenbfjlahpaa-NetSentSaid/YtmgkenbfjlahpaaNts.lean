/-
  Nts: the document's Clear.
-/
import Derived.Test.YtmgkenbfjlahpaaNtr
namespace Go.Proofs.Ytmgkenbfjlahpaa
open Go.RowKit Go.WideMaps Go.Sort

theorem clear_snoc (V : PkV) (a b : Int) (x : Lk × Pk) : clearL (V ++ [x]) a b = clearL V a b ++ (if (x.1.1 == a && x.1.2 == b || x.1.1 == b && x.1.2 == a) = true then [] else [x]) := by
  obtain ⟨⟨x1, x2⟩, y⟩ := x
  unfold clearL
  rw [List.filter_append]
  congr 1
  have e1 : (((x1, x2) : Lk) == (a, b)) = (x1 == a && x2 == b) := rfl
  have e2 : (((x1, x2) : Lk) == (b, a)) = (x1 == b && x2 == a) := rfl
  simp only [List.filter_cons, List.filter_nil, e1, e2]
  cases (x1 == a && x2 == b || x1 == b && x2 == a) <;> rfl

theorem bd5 {m j n : Nat} (h : m ≤ j) (hj : j < n) (hn : n ≤ 1000000000) : m + 1 ≤ maxLen ∧ (m + 1) * 40 ≤ 140737488355328 := by unfold maxLen; omega
theorem pcs_one1 (x : Lk × Pk) : ∀ u ∈ pc x, u.oneCell' = true := by
  intro u hu
  simp only [pc, List.mem_cons, List.not_mem_nil, or_false] at hu
  rcases hu with rfl | rfl | rfl <;> rfl
set_option maxRecDepth 8000 in
set_option maxHeartbeats 6400000 in
theorem rclear_calls {w : World} {p : Nat} {L : List (Lk × List UInt8)} {O : Nat → Prop} (h : RW w p L O) (hl : L.length ≤ 1000000000) (a b : Int) :
    Calls Try.prog 41 #[.pointer (some ⟨p, 0, none⟩), .int .i64 a, .int .i64 b] w fun e w' => e = .returned (.tuple #[]) ∧ RW w' p (clearL L a b) (fun g => O g ∨ New w w' g) ∧ Fr O w w' := by
  obtain ⟨v, V, h1, rfl⟩ := h
  rw [bytesV_len] at hl
  obtain ⟨i0, hi0, hz0, hz1, hz2⟩ := info_parts info_pk
  obtain ⟨A, c, rfl, -, -⟩ := nown_form4 h1.row
  have hc := h1.cell
  have hpl : p < w.heap.size := Lib.lt_of_heap h1.box
  have H := Lib.hid h1
  clear h1
  go_enter Try.func41, Try.ntmps41
  go_wp2
  go_loopw [6, 7] (fun s i W => ∃ j : Nat, j ≤ V.length ∧ i = .int .i64 (j : Int) ∧ W.ownsRow w.heap.size 86 3 s (clearL (V.take j) a b).length (pcs (clearL (V.take j) a b)) ∧ (clearL (V.take j) a b).length ≤ j ∧ Fr NoB w W) (fun _ i _ => V.length - (intOf i).toNat)
  case atStart => exact ⟨0, Nat.zero_le _, rfl, World.ownsRow_nil _ _ _ _, Nat.zero_le _, Fr.refl _ _⟩
  case round =>
    obtain ⟨j, hj, rfl, ho, hcl, hf⟩ := hrel
    have F := Lib.hid hf
    have hcw := (hf.cell (p := ⟨p, 0, none⟩) hpl (fun x => x)).trans hc
    obtain ⟨A6, c6, rfl, -, -⟩ := nown_form4 ho
    have O6 := Lib.hid ho
    clear ho hf
    by_cases hlt : j < V.length
    · have hji : (j : Int) < (V.length : Int) := by omega
      have hj0 : (0 : Int) ≤ (j : Int) := by omega
      obtain ⟨g, c', hv⟩ := own_some H.out.row (by omega)
      cases hv
      have hgl : g < w.heap.size := (H.out.row.lt g rfl).2
      obtain ⟨⟨⟨x1, x2⟩, ⟨xA, xc, xl⟩⟩, hx⟩ : ∃ x, V[j] = x := ⟨_, rfl⟩
      have hgx : V[j]? = some ((x1, x2), ⟨xA, xc, xl⟩) := by rw [List.getElem?_eq_getElem hlt, hx]
      obtain ⟨k0, k1, k2⟩ := H.out.at_ hgx
      have hst : clearL (V.take (j + 1)) a b = clearL (V.take j) a b ++ (if (x1 == a && x2 == b || x1 == b && x2 == a) = true then [] else [((x1, x2), ⟨xA, xc, xl⟩)]) := by rw [List.take_succ_eq_append_getElem hlt, hx, clear_snoc]
      simp only [Pk.val] at k0 k1 k2
      have q0 := (F.out.cell (p := ⟨g, j * 3, none⟩) hgl (fun x => x)).trans k0
      have q1 := (F.out.cell (p := ⟨g, j * 3 + 1, none⟩) hgl (fun x => x)).trans k1
      have q2 := (F.out.cell (p := ⟨g, j * 3 + 2, none⟩) hgl (fun x => x)).trans k2
      obtain ⟨CL, hCL⟩ : ∃ CL, clearL (V.take j) a b = CL := ⟨_, rfl⟩
      rw [hCL] at hst hcl O6 ⊢
      have FB := Lib.hid (F.out.alloc (.cells #[.int .i64 x1, .int .i64 x2, .slice xA xl.length xc] 86))
      have OB := Lib.hid (O6.out.alloc (.cells #[.int .i64 x1, .int .i64 x2, .slice xA xl.length xc] 86))
      have FC := Lib.hid (FB.out.alloc (.cells #[.int .i64 x1, .int .i64 x2, .slice xA xl.length xc] 86))
      have OC := Lib.hid (OB.out.alloc (.cells #[.int .i64 x1, .int .i64 x2, .slice xA xl.length xc] 86))
      have NC := Lib.hid (World.news_of_block (heap_alloc_new (wr.alloc (.cells #[.int .i64 x1, .int .i64 x2, .slice xA xl.length xc] 86)) (.cells #[.int .i64 x1, .int .i64 x2, .slice xA xl.length xc] 86)))
      have HBD := Lib.hid (bd5 hcl hlt hl)
      have hj9 : j + 1 ≤ V.length := hlt
      have hj9b : j < 1000000000 := Nat.lt_of_lt_of_le hlt hl
      clear k0 k1 k2 hx hgx hCL hl
      obtain ⟨B1, hB1⟩ : ∃ B, (x1 == a) = B := ⟨_, rfl⟩
      obtain ⟨B2, hB2⟩ : ∃ B, (x2 == b) = B := ⟨_, rfl⟩
      obtain ⟨B3, hB3⟩ : ∃ B, (x1 == b) = B := ⟨_, rfl⟩
      obtain ⟨B4, hB4⟩ : ∃ B, (x2 == a) = B := ⟨_, rfl⟩
      rw [hB1, hB2, hB3, hB4] at hst
      by_cases hk : (B1 && B2 || B3 && B4) = true
      · rw [if_pos hk, List.append_nil] at hst
        have HST := Lib.hid hst
        clear hst
        cases B1 <;> cases B2 <;> cases B3 <;> cases B4 <;> first | (exfalso; revert hk; decide) | skip
        all_goals
          clear hk
          go_wp2
          go_roundw
          case rel => exact ⟨j + 1, hj9, by go_num, by rw [HST.out]; exact OB.out, by rw [HST.out]; omega, FB.out⟩
          case measure => simp [intOf]; omega
      · rw [if_neg hk] at hst
        have HST := Lib.hid hst
        clear hst
        cases B1 <;> cases B2 <;> cases B3 <;> cases B4 <;> first | (exfalso; revert hk; decide) | skip
        all_goals
          clear hk
          go_wp2_with (first | (at_builtin; refine wpList_append_src _ rfl _ _ 82 rfl w.heap.size 86 i0 (.agg #[.int .i64 0, .int .i64 0, .slice none 0 0]) 3 40 Try.underlying82 hi0 hz0 hz1 hz2 rfl (by decide) (.slice A6 CL.length c6) CL.length (pcs CL) rfl OC.out _ 1 _ (pc ((x1, x2), ⟨xA, xc, xl⟩)) rfl rfl (fun _ => ⟨_, rfl, by have := NC.out; rw [World.size_alloc] at this; exact this⟩) (pcs_one1 _) HBD.out.1 HBD.out.2 FC.out.size ?_; intro v1 W1 hA1; have f1 : Fr NoB w W1 := FC.out.trans hA1.fr (fun k hk hx => absurd (OC.out.lt k hx).1 (Nat.not_le.2 hk)); have o1 := hA1.own; have F1 := Lib.hid f1; have O1 := Lib.hid o1; clear hA1 f1 o1) | fail)
          go_roundw
          case rel => exact ⟨j + 1, hj9, by go_num, by rw [HST.out, pcs_append, List.length_append]; exact O1.out, by rw [HST.out, List.length_append]; simp; omega, F1.out⟩
          case measure => simp [intOf]; omega
    · obtain rfl : j = V.length := by omega
      rw [List.take_length] at O6 ⊢
      have hR := RS.setv (V' := clearL V a b) H.out F.out O6.out (fun y hy => (List.mem_filter.1 hy).1)
      have hb2 := F.out.at_ H.out.box (fun x => x)
      have hf2 : wr.frozen? ⟨p, 0, none⟩ = false := Lib.frozen_of_heap hb2 0
      have HR := Lib.hid hR
      clear hR hb2
      go_wp2
      go_end0
      exact ⟨rfl, ⟨_, _, HR.out.1.mono (fun x hx => hx.imp id fun h => ⟨h.1, by simpa using h.2⟩) (fun x hx => hx.elim (fun h => Nat.lt_of_lt_of_le (H.out.lt x h) HR.out.2.size) (fun h => h.2)), (clear_bytes V a b).symm⟩, HR.out.2.mono fun x _ e => by have e' : x = p := e; rw [e']; exact H.out.op⟩
end Go.Proofs.Ytmgkenbfjlahpaa

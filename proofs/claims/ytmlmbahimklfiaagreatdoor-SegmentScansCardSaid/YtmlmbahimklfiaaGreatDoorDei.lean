/-
  Dei: Drc, Dei.
-/
import Derived.Test.YtmlmbahimklfiaaGreatDoorDee
import Derived.Test.YtmlmbahimklfiaaGreatDoorDeh
/- Drc -/
namespace Go.Proofs.YtmlmbahimklfiaaGreatDoor
open Go.RowKit

set_option maxHeartbeats 3200000 in
set_option maxRecDepth 8000 in
theorem right_5 (f : Fd) (p : Pl) (l : List (Fd × Nat)) (lo hi : Nat) (w : World) (hf : f.Ok) (hn : l.length ≤ 140737488355328) (hok : ∀ q ∈ l, q.1.Ok ∧ q.2 ≤ 140737488355328) (hD : RdD w lo hi f p l) (hh : hi ≤ w.heap.size) (hH : Has w) (hy : Head f l.length) (hk : f.k = 5) :
    Calls Tryz.prog 46 #[dval f p l.length] w fun e w' => e = .returned (.bool (decide (PartsOk l 0 500 2))) ∧ Fr NoB w w' := by
  have hcm := fun W => may_calls f.z W hf.z
  have hcf := fun W (hW : Has W) => dfits_calls f p l.length W hf hn hW
  have HH := Lib.hid hH
  rw [decide_eq_true hy.2.1] at hcm
  rw [decide_eq_true hy.2.2.2.2.2.2] at hcf
  have hcp := fun W (F : Fr NoB w W) => dparts_calls p.P l p.e lo hi 0 500 2 W (hD.parts.fr F hh (fun _ _ _ x => x)) (Nat.le_trans hh F.size) hn hok (hH.fr F) (by decide) (by decide)
  generalize decide (PartsOk l 0 500 2) = R at *
  obtain ⟨h1, -, h2, h3, h4, h5, -⟩ := hy
  clear hH hD hok
  obtain ⟨z, k, s, t, x, m, path, data, ow, ve, cv, ti, er, cver, ms⟩ := f
  obtain ⟨A, c, B, d, P, e'⟩ := p
  simp only at *
  simp only [dval, dcells] at *
  clear hf
  subst hk
  go_enter Tryz.func46, Tryz.ntmps46
  go_wp2_with (first
    | ((with_reducible refine (hcm _).mono ?_); rintro e w1 ⟨rfl, rfl⟩)
    | ((with_reducible refine (hcf _ (HH.out.fr ((Fr.refl NoB w).alloc _))).mono ?_); rintro e w2 ⟨rfl, f2⟩; have hb := f2.at_ (heap_alloc_new w _) (fun x => x); have d0 := (cells_of hb 0).1; have d1 := (cells_of hb 1).1; have d13 := (cells_of hb 13).1; have d14 := (cells_of hb 14).1; have d15 := (cells_of hb 15).1; clear hb; simp only [List.getElem?_toArray, List.getElem?_cons_zero, List.getElem?_cons_succ] at d0 d1 d13 d14 d15)
    | (refine (hcp _ (((Fr.refl NoB w).alloc _).then f2)).mono ?_; rintro e w3 ⟨rfl, f3⟩))
  all_goals first
    | (go_ret; exact ⟨rfl, (((Fr.refl NoB w).alloc _).then f2).then f3⟩)
    | trace_state

set_option maxHeartbeats 3200000 in
set_option maxRecDepth 8000 in
theorem right_8 (f : Fd) (p : Pl) (l : List (Fd × Nat)) (lo hi : Nat) (w : World) (hf : f.Ok) (hn : l.length ≤ 140737488355328) (hok : ∀ q ∈ l, q.1.Ok ∧ q.2 ≤ 140737488355328) (hD : RdD w lo hi f p l) (hh : hi ≤ w.heap.size) (hH : Has w) (hy : Head f l.length) (hk : f.k = 8) :
    Calls Tryz.prog 46 #[dval f p l.length] w fun e w' => e = .returned (.bool (decide (PartsOk l 1 16 3))) ∧ Fr NoB w w' := by
  have hcm := fun W => may_calls f.z W hf.z
  have hcf := fun W (hW : Has W) => dfits_calls f p l.length W hf hn hW
  have HH := Lib.hid hH
  rw [decide_eq_true hy.2.1] at hcm
  rw [decide_eq_true hy.2.2.2.2.2.2] at hcf
  have hcp := fun W (F : Fr NoB w W) => dparts_calls p.P l p.e lo hi 1 16 3 W (hD.parts.fr F hh (fun _ _ _ x => x)) (Nat.le_trans hh F.size) hn hok (hH.fr F) (by decide) (by decide)
  generalize decide (PartsOk l 1 16 3) = R at *
  obtain ⟨h1, -, h2, h3, h4, h5, -⟩ := hy
  clear hH hD hok
  obtain ⟨z, k, s, t, x, m, path, data, ow, ve, cv, ti, er, cver, ms⟩ := f
  obtain ⟨A, c, B, d, P, e'⟩ := p
  simp only at *
  simp only [dval, dcells] at *
  clear hf
  subst hk
  go_enter Tryz.func46, Tryz.ntmps46
  go_wp2_with (first
    | ((with_reducible refine (hcm _).mono ?_); rintro e w1 ⟨rfl, rfl⟩)
    | ((with_reducible refine (hcf _ (HH.out.fr ((Fr.refl NoB w).alloc _))).mono ?_); rintro e w2 ⟨rfl, f2⟩; have hb := f2.at_ (heap_alloc_new w _) (fun x => x); have d0 := (cells_of hb 0).1; have d1 := (cells_of hb 1).1; have d13 := (cells_of hb 13).1; have d14 := (cells_of hb 14).1; have d15 := (cells_of hb 15).1; clear hb; simp only [List.getElem?_toArray, List.getElem?_cons_zero, List.getElem?_cons_succ] at d0 d1 d13 d14 d15)
    | (refine (hcp _ (((Fr.refl NoB w).alloc _).then f2)).mono ?_; rintro e w3 ⟨rfl, f3⟩))
  all_goals first
    | (go_ret; exact ⟨rfl, (((Fr.refl NoB w).alloc _).then f2).then f3⟩)
    | trace_state

set_option maxHeartbeats 3200000 in
set_option maxRecDepth 8000 in
theorem right_7 (f : Fd) (p : Pl) (l : List (Fd × Nat)) (lo hi : Nat) (w : World) (hf : f.Ok) (hn : l.length ≤ 140737488355328) (_hok : ∀ q ∈ l, q.1.Ok ∧ q.2 ≤ 140737488355328) (hD : RdD w lo hi f p l) (hh : hi ≤ w.heap.size) (hH : Has w) (hy : Head f l.length) (hk : f.k = 7) :
    Calls Tryz.prog 46 #[dval f p l.length] w fun e w' => e = .returned (.bool (decide (chk f.c.1 f.c.2 = 0 ∧ f.c.1 = f.z))) ∧ Fr NoB w w' := by
  have hcm := fun W => may_calls f.z W hf.z
  have hcf := fun W (hW : Has W) => dfits_calls f p l.length W hf hn hW
  have HH := Lib.hid hH
  rw [decide_eq_true hy.2.1] at hcm
  rw [decide_eq_true hy.2.2.2.2.2.2] at hcf
  have hck := fun W (F : Fr NoB w W) => check_calls f.c.1 p.B f.c.2 p.d lo hi W (hD.ms.fr F hh (fun _ _ _ x => x)) (Nat.le_trans hh F.size) (by have := hf.ms; omega)
  generalize chk f.c.1 f.c.2 = C at *
  obtain ⟨h1, -, h2, h3, h4, h5, -⟩ := hy
  clear hH hD _hok
  obtain ⟨z, k, s, t, x, m, path, data, ow, ve, cv, ti, er, cver, ms⟩ := f
  obtain ⟨A, c, B, d, P, e'⟩ := p
  simp only at *
  simp only [dval, dcells] at *
  clear hf
  subst hk
  go_enter Tryz.func46, Tryz.ntmps46
  go_wp2_with (first
    | ((with_reducible refine (hcm _).mono ?_); rintro e w1 ⟨rfl, rfl⟩)
    | ((with_reducible refine (hcf _ (HH.out.fr ((Fr.refl NoB w).alloc _))).mono ?_); rintro e w2 ⟨rfl, f2⟩; have hb := f2.at_ (heap_alloc_new w _) (fun x => x); have d0 := (cells_of hb 0).1; have d1 := (cells_of hb 1).1; have d13 := (cells_of hb 13).1; have d14 := (cells_of hb 14).1; have d15 := (cells_of hb 15).1; clear hb; simp only [List.getElem?_toArray, List.getElem?_cons_zero, List.getElem?_cons_succ] at d0 d1 d13 d14 d15)
    | (refine (hck _ (((Fr.refl NoB w).alloc _).then f2)).mono ?_; rintro e w3 ⟨rfl, f3⟩; have g0 := (f3.cell (p := ⟨w.heap.size, 0, none⟩) (World.block_lt_of_cell? _ _ d0) (fun x => x)).trans d0; have g13 := (f3.cell (p := ⟨w.heap.size, 13, none⟩) (World.block_lt_of_cell? _ _ d13) (fun x => x)).trans d13))
  all_goals first
    | (go_ret; exact ⟨ret_bool (by rename_i hc; by_cases h : cver = z <;> simp [hc, h]), (((Fr.refl NoB w).alloc _).then f2).then f3⟩)
    | (rename_i hc; subst hc; go_ret; exact ⟨ret_bool (by by_cases h : cver = z <;> simp [h]), (((Fr.refl NoB w).alloc _).then f2).then f3⟩)
    | trace_state

theorem right_calls (f : Fd) (p : Pl) (l : List (Fd × Nat)) (lo hi : Nat) (w : World) (hf : f.Ok) (hn : l.length ≤ 140737488355328) (hok : ∀ q ∈ l, q.1.Ok ∧ q.2 ≤ 140737488355328) (hD : RdD w lo hi f p l) (hh : hi ≤ w.heap.size) (hH : Has w) :
    Calls Tryz.prog 46 #[dval f p l.length] w fun e w' => e = .returned (.bool (decide (Right f l))) ∧ Fr NoB w w' := by
  by_cases hy : Head f l.length
  rotate_left
  · rw [decide_eq_false (fun h => hy ⟨h.1, h.2.1, h.2.2.1, h.2.2.2.1, h.2.2.2.2.1, h.2.2.2.2.2.1, h.2.2.2.2.2.2.1⟩)]
    exact right_no f p l.length w hf hn hH hy
  have key : ∀ (P : Prop) [Decidable P], (Right f l ↔ P) → (Calls Tryz.prog 46 #[dval f p l.length] w fun e w' => e = .returned (.bool (decide P)) ∧ Fr NoB w w') → Calls Tryz.prog 46 #[dval f p l.length] w fun e w' => e = .returned (.bool (decide (Right f l))) ∧ Fr NoB w w' := fun P _ h hc => by
    rw [show decide (Right f l) = decide P from decide_eq_decide.2 h]
    exact hc
  have hsplit : Right f l ↔ (f.k = 5 → PartsOk l 0 500 2) ∧ (f.k = 7 → chk f.c.1 f.c.2 = 0 ∧ f.c.1 = f.z) ∧ (f.k = 8 → PartsOk l 1 16 3) :=
    ⟨fun h => ⟨h.2.2.2.2.2.2.2.1, h.2.2.2.2.2.2.2.2.1, h.2.2.2.2.2.2.2.2.2⟩, fun h => ⟨hy.1, hy.2.1, hy.2.2.1, hy.2.2.2.1, hy.2.2.2.2.1, hy.2.2.2.2.2.1, hy.2.2.2.2.2.2, h.1, h.2.1, h.2.2⟩⟩
  by_cases h5 : f.k = 5
  · exact key (PartsOk l 0 500 2) (hsplit.trans ⟨fun h => h.1 h5, fun h => ⟨fun _ => h, fun h7 => absurd (h5.symm.trans h7) (by decide), fun h7 => absurd (h5.symm.trans h7) (by decide)⟩⟩) (right_5 f p l lo hi w hf hn hok hD hh hH hy h5)
  by_cases h7 : f.k = 7
  · exact key (chk f.c.1 f.c.2 = 0 ∧ f.c.1 = f.z) (hsplit.trans ⟨fun h => h.2.1 h7, fun h => ⟨fun h5 => absurd (h7.symm.trans h5) (by decide), fun _ => h, fun h5 => absurd (h7.symm.trans h5) (by decide)⟩⟩) (right_7 f p l lo hi w hf hn hok hD hh hH hy h7)
  by_cases h8 : f.k = 8
  · exact key (PartsOk l 1 16 3) (hsplit.trans ⟨fun h => h.2.2 h8, fun h => ⟨fun h5 => absurd (h8.symm.trans h5) (by decide), fun h5 => absurd (h8.symm.trans h5) (by decide), fun _ => h⟩⟩) (right_8 f p l lo hi w hf hn hok hD hh hH hy h8)
  · rw [decide_eq_true (hsplit.2 ⟨fun h => absurd h h5, fun h => absurd h h7, fun h => absurd h h8⟩)]
    exact right_else f p l lo hi w hf hn hok hD hh hH hy h5 h7 h8
end Go.Proofs.YtmlmbahimklfiaaGreatDoor

/- Dei -/
namespace Go.Proofs.YtmlmbahimklfiaaGreatDoor
open Go.RowKit

theorem own_low {w : World} {B B' e size n : Nat} {v : Value} {xs : List Value} (h : w.ownsRow B e size v n xs) (hb : B' ≤ B) : w.ownsRow B' e size v n xs := by
  obtain ⟨h1, h2⟩ := h
  refine ⟨h1, ?_⟩
  rcases h2 with h2 | ⟨g, cap, cur, hv, hg, r⟩
  · exact .inl h2
  · exact .inr ⟨g, cap, cur, hv, Nat.le_trans hb hg, r⟩
def tailB (f : Fd) (l : List (Fd × Nat)) : List UInt8 := bodyB f ++ if f.k = 5 ∨ f.k = 8 then intB l.length ++ partsB l else []
def headV (f : Fd) : Nat → Int
  | 0 => f.z
  | 1 => f.s
  | 2 => f.t
  | 3 => f.x
  | _ => f.m
def headP (f : Fd) : Nat → List UInt8
  | 0 => []
  | j + 1 => headP f j ++ intB (headV f j)
theorem headP_five (f : Fd) : headB f = [kindB f.k] ++ headP f 5 := by simp [headP, headV, headB]
theorem headP_len (f : Fd) (j : Nat) : (headP f j).length ≤ 10 * j := by
  induction j with
  | zero => simp [headP]
  | succ j ih => have := intB_len (headV f j); simp [headP]; omega
/-- What Put answers. -/
def putD (f : Fd) (l : List (Fd × Nat)) : List UInt8 × Int := if Right f l then (deedB f l, 0) else ([], 4)
theorem putD_len (f : Fd) (l : List (Fd × Nat)) : (putD f l).1.length ≤ 700000 := by
  unfold putD
  split
  · rename_i h; exact deedB_len h
  · simp

theorem body_right (f : Fd) (p : Pl) (l : List (Fd × Nat)) (pw : Nat) (G : Option Nat) (L : List UInt8) (lo hi : Nat) (w : World) (hR : Right f l) (hf : f.Ok) (hok : ∀ q ∈ l, q.1.Ok ∧ q.2 ≤ 140737488355328) (hH : Has w) (hw : Wtr w pw G L) (hp : ∀ k, WF pw G k → k < w.heap.size) (hlim : L.length ≤ 100000) (hD : RdD w lo hi f p l) (hh : hi ≤ w.heap.size) (hpn : ∀ k, lo ≤ k → k < hi → ¬ WF pw G k) (hgn : ¬ WF pw G 0) :
    Calls Tryz.prog 50 #[.pointer (some ⟨pw, 0, none⟩), dval f p l.length] w fun e w' => e = .returned (.tuple #[]) ∧ Put pw G (L ++ tailB f l) w w' := by
  obtain ⟨hps, hl5, h0, -⟩ := hR.parts
  have hfit := hR.2.2.2.2.2.2.1
  have h7 := hR.2.2.2.2.2.2.2.2.1
  have key : ∀ T, tailB f l = T → (Calls Tryz.prog 50 #[.pointer (some ⟨pw, 0, none⟩), dval f p l.length] w fun e w' => e = .returned (.tuple #[]) ∧ Put pw G (L ++ T) w w') → Calls Tryz.prog 50 #[.pointer (some ⟨pw, 0, none⟩), dval f p l.length] w fun e w' => e = .returned (.tuple #[]) ∧ Put pw G (L ++ tailB f l) w w' := fun T h hc => by rw [h]; exact hc
  have hL1 : L.length ≤ 1000000 := by omega
  have hno : ¬ (f.k = 5 ∨ f.k = 8) → tailB f l = bodyB f := fun h => by unfold tailB; rw [if_neg h, List.append_nil]
  have hyes : (f.k = 5 ∨ f.k = 8) → tailB f l = bodyB f ++ (intB l.length ++ partsB l) := fun h => by unfold tailB; rw [if_pos h]
  rcases hfit with h | h | h | h | h | h | h | h | h <;> have hk := h.1
  · exact key _ (hno (by omega)) (body1_calls f p l.length pw G L lo hi w hf hH hw hp ⟨by have := pchk_len h.2.2.2.2.2.2.1; omega, by have := h.2.2.2.2.2.2.2.1; omega⟩ hL1 hD.data hh hpn hk)
  · exact key _ (hno (by omega)) (body2_calls f p l.length pw G L lo hi w hf hH hw hp ⟨by have := pchk_len h.2.2.2.2.2.2.2.2.1; omega, by rw [h.2.1]; simp⟩ hL1 hD.data hh hpn hk)
  · exact key _ (hno (by omega)) (body3_calls f p l.length pw G L lo hi w hf hH hw hp ⟨by have := pchk_len h.2.2.2.2.2.2.2.1; omega, by have := h.2.2.2.2.2.2.2.2.1; omega⟩ hL1 hD.data hh hpn hk)
  · exact key _ (hno (by omega)) (body4_calls f p l.length pw G L lo hi w hf hH hw hp ⟨by rw [h.2.1]; simp, by rw [h.2.2.1]; simp⟩ hL1 hD.data hh hpn hk)
  · exact key _ (hyes (by omega)) (body5_calls f p l pw G L lo hi w hf hok hH hw hp hlim hD.parts hl5 hps hh hpn hgn hk)
  · exact key _ (hno (by omega)) (body6_calls f p l.length pw G L lo hi w hf hH hw hp ⟨by rw [h.2.1]; simp, by rw [h.2.2.1]; simp⟩ hL1 hD.data hh hpn hk)
  · exact key _ (hno (by omega)) (body7_calls f p l.length pw G L lo hi w hf hH hw hp hL1 hD.ms hh hpn (h7 hk).1 hk)
  · exact key _ (hyes (by omega)) (body8_calls f p l pw G L lo hi w hf hok hH hw hp hlim hD.parts hl5 hps hh hpn hgn hk)
  · exact key _ (hno (by omega)) (body9_calls f p l.length pw G L lo hi w hf hH hw hp ⟨by rw [h.2.1]; simp, by rw [h.2.2.1]; simp⟩ hL1 hD.data hh hpn hk)

theorem idx_five (x0 x1 x2 x3 x4 : Int) (w : World) (j : Nat) (hj : j < 5) :
    (Instr.index 97 (.agg #[.int .i64 x0, .int .i64 x1, .int .i64 x2, .int .i64 x3, .int .i64 x4]) (.int .i64 j)).run Tryz.prog w = .ok (.int .i64 (match j with | 0 => x0 | 1 => x1 | 2 => x2 | 3 => x3 | _ => x4)) w := by
  rcases (show j = 0 ∨ j = 1 ∨ j = 2 ∨ j = 3 ∨ j = 4 by omega) with rfl | rfl | rfl | rfl | rfl <;> simp [Instr.index, run_underlying Tryz.underlying97, asIntOf, go_sem]

set_option maxRecDepth 8000 in
set_option maxHeartbeats 6400000 in
theorem dput_yes (f : Fd) (p : Pl) (l : List (Fd × Nat)) (lo hi : Nat) (w : World) (hf : f.Ok) (hok : ∀ q ∈ l, q.1.Ok ∧ q.2 ≤ 140737488355328) (hn : l.length ≤ 140737488355328) (hD : RdD w lo hi f p l) (hh : hi ≤ w.heap.size) (hH : Has w) (hR : Right f l) :
    Calls Tryz.prog 25 #[dval f p l.length] w fun e w' => ∃ v, e = .returned (.tuple #[v, .int .i64 0]) ∧ w'.ownsRow w.heap.size 5 1 v (deedB f l).length (bv (deedB f l)) ∧ Fr NoB w w' := by
  have hcr := fun W (F : Fr NoB w W) => right_calls f p l lo hi W hf hn hok (hD.fr F hh (fun _ _ _ x => x)) (Nat.le_trans hh F.size) (hH.fr F)
  rw [decide_eq_true hR] at hcr
  have hcb := fun pw G L W (F : Fr NoB w W) (hw : Wtr W pw G L) (hi2 : ∀ k, WF pw G k → w.heap.size ≤ k) (hlim : L.length ≤ 100000) => body_right f p l pw G L lo hi W hR hf hok (hH.fr F) hw (fun k hk => hw.lt hk) hlim (hD.fr F hh (fun _ _ _ x => x)) (Nat.le_trans hh F.size) (fun k _ h2 h3 => by have := hi2 k h3; omega) (fun h => by have := hi2 _ h; have := hH.1; omega)
  have hZ : deedB f l = [kindB f.k] ++ headP f 5 ++ tailB f l := by rw [← headP_five]; rfl
  have hlen := deedB_len hR
  rw [hZ] at hlen ⊢
  have HLEN := Lib.hid hlen
  have HF := Lib.hid hf
  have HPL := fun j => headP_len f j
  have hpj : ∀ j, headP f (j + 1) = headP f j ++ intB (headV f j) := fun _ => rfl
  have HP0 : Hid (headP f 0 = []) := rfl
  have hhv : ∀ j, j < 5 → -9223372036854775808 ≤ headV f j ∧ headV f j ≤ 9223372036854775807 := fun j hj => by
    rcases (show j = 0 ∨ j = 1 ∨ j = 2 ∨ j = 3 ∨ j = 4 by omega) with rfl | rfl | rfl | rfl | rfl
    · exact hf.z
    · exact hf.s
    · exact hf.t
    · exact hf.x
    · exact hf.m
  have HVR := Lib.hid hhv
  have HPJ := Lib.hid hpj
  have HPLH := Lib.hid HPL
  have HCB := Lib.hid hcb
  have HCR := Lib.hid hcr
  have hix : ∀ (j : Nat) (W : World), j < 5 → (Instr.index 97 (.agg #[.int .i64 f.z, .int .i64 f.s, .int .i64 f.t, .int .i64 f.x, .int .i64 f.m]) (.int .i64 j)).run Tryz.prog W = .ok (.int .i64 (headV f j)) W := fun j W hj => by
    rw [idx_five _ _ _ _ _ W j hj]
    rcases (show j = 0 ∨ j = 1 ∨ j = 2 ∨ j = 3 ∨ j = 4 by omega) with rfl | rfl | rfl | rfl | rfl <;> rfl
  have HIX := Lib.hid hix
  have hkr := hf.k
  obtain ⟨Z, hZZ⟩ : ∃ Z, [kindB f.k] ++ headP f 5 ++ tailB f l = Z := ⟨_, rfl⟩
  rw [hZZ] at HLEN ⊢
  have HZZ := Lib.hid hZZ
  clear hZZ
  generalize tailB f l = TB at *
  have HHP := Lib.hid (rfl : headP f = headP f)
  clear hH hD hok hR hcr hcb hZ hlen hf HHP hhv hpj HPL hix
  generalize headP f = hp at *
  generalize headV f = hv at *
  obtain ⟨z, k, s, t, x, m, path, data, ow, ve, cv, ti, er, cver, ms⟩ := f
  obtain ⟨A, c, B, d, P, e'⟩ := p
  simp only at *
  simp only [dval, dcells] at *
  have HKR := Lib.hid hkr
  clear hkr HF
  go_enter Tryz.func25, Tryz.ntmps25
  go_wp2_with (fail)
  have F0 := Lib.hid ((Fr.refl NoB w).alloc (.cells #[.int .i64 z, .int .u8 k, .int .i64 s, .int .i64 t, .int .i64 x, .int .i64 m, .string ⟨path.toArray⟩, .slice A data.length c, .int .i64 ow, .int .i64 ve, .int .i64 cv, .int .i64 ti, .int .i64 er, .int .i64 cver, .slice B ms.length d, .slice P l.length e'] 31))
  have HBX := Lib.hid (heap_alloc_new w (.cells #[.int .i64 z, .int .u8 k, .int .i64 s, .int .i64 t, .int .i64 x, .int .i64 m, .string ⟨path.toArray⟩, .slice A data.length c, .int .i64 ow, .int .i64 ve, .int .i64 cv, .int .i64 ti, .int .i64 er, .int .i64 cver, .slice B ms.length d, .slice P l.length e'] 31))
  generalize w.alloc (.cells #[.int .i64 z, .int .u8 k, .int .i64 s, .int .i64 t, .int .i64 x, .int .i64 m, .string ⟨path.toArray⟩, .slice A data.length c, .int .i64 ow, .int .i64 ve, .int .i64 cv, .int .i64 ti, .int .i64 er, .int .i64 cver, .slice B ms.length d, .slice P l.length e'] 31) = wb at F0 HBX ⊢
  have HSZ := Lib.hid F0.out.size
  generalize w.heap.size = NB at *
  refine (HCR.out _ F0.out).mono ?_
  rintro e w1 ⟨rfl, f1⟩
  have F1 := Lib.hid f1
  clear f1 HCR
  go_wp2_with (fail)
  refine (wNew _).mono ?_
  rintro e w2 ⟨rfl, a2, f2, -⟩
  have t2 : WE wb w2 w1.heap.size [] none := ⟨a2, F1.out.then f2, fun k hk => by
    rcases hk with rfl | hk
    · exact F1.out.size
    · cases hk⟩
  have T2 := Lib.hid t2
  have HB2 := Lib.hid (t2.fr.at_ HBX.out (fun x => x))
  have d1 := (cells_of HB2.out 1).1
  simp only [List.getElem?_toArray, List.getElem?_cons_zero, List.getElem?_cons_succ] at d1
  generalize w1.heap.size = pw at *
  clear a2 f2 t2 F1
  go_wp2_with (fail)
  refine (wByteI pw none [] k _ HKR.out T2.out.a (by simp)).mono ?_
  rintro e w3 ⟨rfl, G3, a3, f3, g3⟩
  rw [List.nil_append] at a3
  have T3 := Lib.hid (T2.out.next a3 f3 g3)
  clear a3 f3 g3 d1 HB2 T2
  have HB3 := Lib.hid (T3.out.fr.at_ HBX.out (fun x => x))
  have d0 := (cells_of HB3.out 0).1
  have d2 := (cells_of HB3.out 2).1
  have d3 := (cells_of HB3.out 3).1
  have d4 := (cells_of HB3.out 4).1
  have d5 := (cells_of HB3.out 5).1
  simp only [List.getElem?_toArray, List.getElem?_cons_zero, List.getElem?_cons_succ] at d0 d2 d3 d4 d5
  go_wp2
  clear d0 d2 d3 d4 d5 HB3
  generalize hkb : [kindB k] = K1 at *
  have HK1 : Hid (K1.length = 1) := by rw [← hkb]; rfl
  clear hkb
  go_loopw [26] (fun i wx => ∃ (j : Nat) (G2 : Option Nat), j ≤ 5 ∧ i = .int .i64 (j : Int) ∧ WE wb wx pw (K1 ++ hp j) G2) (fun i _ => 5 - (intOf i).toNat)
  case atStart => exact ⟨0, G3, by omega, rfl, by rw [HP0.out, List.append_nil]; exact T3.out⟩
  case round =>
    obtain ⟨j, G2, hj, rfl, ht⟩ := hrel
    have T5 := Lib.hid ht
    clear ht T3
    by_cases hlt : j < 5
    · have hji : (j : Int) < 5 := by omega
      have hjx := fun W => HIX.out j W hlt
      have hvr := Lib.hid (HVR.out j hlt)
      go_wp2_with (fail)
      refine (wInt pw G2 _ (hv j) _ hvr.out.1 hvr.out.2 T5.out.a (by rw [List.length_append, HK1.out]; have := HPLH.out j; omega)).mono ?_
      rintro e w6 ⟨rfl, G6, a6, f6, g6⟩
      have T6 := Lib.hid (T5.out.next a6 f6 g6)
      clear a6 f6 g6 T5 hjx
      go_wp2
      go_roundw
      case rel => exact ⟨j + 1, G6, by omega, by go_num, by have h := T6.out; rw [List.append_assoc] at h; rw [HPJ.out j]; exact h⟩
      case measure => simp [intOf]; omega
    · obtain rfl : j = 5 := by omega
      clear hlt hj HIX HVR HPJ
      have HB5 := Lib.hid (T5.out.fr.at_ HBX.out (fun x => x))
      have HL5 : Hid ((K1 ++ hp 5).length ≤ 100000) := by show _ ≤ _; rw [List.length_append, HK1.out]; have := HPLH.out 5; omega
      generalize K1 ++ hp 5 = LH at *
      go_wp2_with (first | (refine wpList_load_row rfl 31 _ rfl NB rfl _ _ _ _ HB5.out Tryz.underlying31 rfl size16 ?_) | fail)
      refine (HCB.out pw G2 LH _ (F0.out.then T5.out.fr) T5.out.a (fun k hk => Nat.le_trans HSZ.out (T5.out.i k hk)) HL5.out).mono ?_
      rintro e w7 ⟨rfl, G7, a7, f7, g7⟩
      have T7 := Lib.hid (T5.out.next a7 f7 g7)
      rw [HZZ.out] at T7
      clear a7 f7 g7 T5 HB5 HCB
      go_wp2_with (fail)
      refine (wDone pw G7 _ _ T7.out.a (by have := HLEN.out; omega)).mono ?_
      rintro e w8 ⟨v8, rfl, o8, b8⟩
      obtain ⟨A8, c8, rfl, n1, n2⟩ := own_form o8
      go_wp2
      go_ret2
      exact ⟨.slice A8 Z.length c8, rfl, own_low o8 (Nat.le_trans F0.out.size T7.out.fr.size), (F0.out.then T7.out.fr).then (Fr.ofBelow b8)⟩

set_option maxRecDepth 8000 in
set_option maxHeartbeats 3200000 in
theorem dput_calls (f : Fd) (p : Pl) (l : List (Fd × Nat)) (lo hi : Nat) (w : World) (hf : f.Ok) (hok : ∀ q ∈ l, q.1.Ok ∧ q.2 ≤ 140737488355328) (hn : l.length ≤ 140737488355328) (hD : RdD w lo hi f p l) (hh : hi ≤ w.heap.size) (hH : Has w) :
    Calls Tryz.prog 25 #[dval f p l.length] w fun e w' => ∃ v, e = .returned (.tuple #[v, .int .i64 (putD f l).2]) ∧ w'.ownsRow w.heap.size 5 1 v (putD f l).1.length (bv (putD f l).1) ∧ Fr NoB w w' := by
  by_cases hR : Right f l
  · rw [show putD f l = (deedB f l, 0) from if_pos hR]
    exact dput_yes f p l lo hi w hf hok hn hD hh hH hR
  · rw [show putD f l = ([], 4) from if_neg hR]
    have hcr := fun W (F : Fr NoB w W) => right_calls f p l lo hi W hf hn hok (hD.fr F hh (fun _ _ _ x => x)) (Nat.le_trans hh F.size) (hH.fr F)
    rw [decide_eq_false hR] at hcr
    have HCR := Lib.hid hcr
    clear hcr hH hD hok hR hf
    obtain ⟨z, k, s, t, x, m, path, data, ow, ve, cv, ti, er, cver, ms⟩ := f
    obtain ⟨A, c, B, d, P, e'⟩ := p
    simp only [dval, dcells] at *
    go_enter Tryz.func25, Tryz.ntmps25
    go_wp2_with (fail)
    refine (HCR.out _ ((Fr.refl NoB w).alloc _)).mono ?_
    rintro e w1 ⟨rfl, f1⟩
    go_wp2
    go_ret2
    exact ⟨.slice none 0 0, rfl, World.ownsRow_nil _ _ _ _, ((Fr.refl NoB w).alloc _).then f1⟩
end Go.Proofs.YtmlmbahimklfiaaGreatDoor

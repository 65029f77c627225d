/-
  Sps: Shuffle's row is of its own; what is shuffled has the same numbers: SpinShuffles answers true.
-/
import Derived.Test.YteigenmhfgldfaaSpw
import Derived.Test.YteigenmhfgldfaaSpr
namespace Go.Proofs.Yteigenmhfgldfaa
open Go.RowKit Ieee

theorem swp_perm (l : List Int) (i j : Nat) (hi : i < l.length) (hj : j < l.length) (x : Int) : (swp l i j).count x = l.count x := by
  have e1 : l.getD i 0 = l[i] := by simp [List.getD, hi]
  have e2 : l.getD j 0 = l[j] := by simp [List.getD, hj]
  have hd : (l.set i l[j]).length = l.length := List.length_set
  unfold swp
  rw [e1, e2, List.count_set (h := by rw [hd]; exact hj), List.count_set (h := hi)]
  have hp : ∀ (k : Nat) (h : k < l.length) (y : Int), l[k] == y → 0 < l.count y := fun k h y hy => List.count_pos_iff.2 (by rw [← eq_of_beq hy]; exact List.getElem_mem h)
  have h1 := hp i hi x
  have h2 := hp j hj x
  by_cases hij : i = j
  · subst hij
    simp only [List.getElem_set_self]
    split <;> rename_i hx
    · have := h1 hx; omega
    · omega
  · rw [List.getElem_set_ne hij]
    by_cases a : l[i] == x <;> by_cases b : l[j] == x <;> simp only [a, b, if_true, if_false, Bool.false_eq_true] <;> (try have := h1 a) <;> (try have := h2 b) <;> omega
theorem shuf_perm : ∀ (k : Nat) (s : G) (l : List Int) (x : Int), k < l.length ∨ k = 0 → (shuf k s l).2.count x = l.count x
  | 0, _, _, _, _ => rfl
  | k + 1, s, l, x, h => by
    have ht := tell_lt (nx s.1 s.2) k
    have hk : k + 1 < l.length := by omega
    have := shuf_perm k (nx s.1 s.2) (swp l (k + 1) (tell (nx s.1 s.2) ((k : Int) + 2)).toNat) x (by rw [swp_len]; omega)
    rw [swp_perm l (k + 1) _ hk (by omega)] at this
    exact this
/-- How many more of the first list's numbers than of the second's are x. -/
def bal (l a : List Int) (x : Int) : Nat → Int
  | 0 => 0
  | j + 1 => (bal l a x j + (if l.getD j 0 = x then 1 else 0)) - (if a.getD j 0 = x then 1 else 0)
theorem count_take (l : List Int) (x : Int) (j : Nat) (hj : j < l.length) : (l.take (j + 1)).count x = (l.take j).count x + (if l.getD j 0 = x then 1 else 0) := by
  rw [List.take_add_one, List.getElem?_eq_getElem hj, List.count_append]
  simp [List.getD, hj, List.count_cons]
theorem bal_eq (l a : List Int) (x : Int) : ∀ j, j ≤ l.length → j ≤ a.length → bal l a x j = ((l.take j).count x : Int) - ((a.take j).count x : Int)
  | 0, _, _ => by simp [bal]
  | j + 1, h, h' => by
    rw [bal, bal_eq l a x j (by omega) (by omega), count_take l x j (by omega), count_take a x j (by omega)]
    split <;> split <;> omega
theorem bal_le (l a : List Int) (x : Int) : ∀ j, bal l a x j ≤ j ∧ - (j : Int) ≤ bal l a x j
  | 0 => by simp [bal]
  | j + 1 => by
    have := bal_le l a x j
    rw [bal]
    split <;> split <;> omega
theorem bal_end (l a : List Int) (x : Int) (hl : a.length = l.length) (hc : ∀ x, a.count x = l.count x) : bal l a x l.length = 0 := by
  rw [bal_eq l a x _ (Nat.le_refl _) (by omega), List.take_length, ← hl, List.take_length, hc]
  omega

theorem swp_own {w : World} {base g n c : Nat} {m : List Int} (i j : Nat) (hi : i < m.length) (hj : j < m.length) (h : w.ownsRow base 3 1 (.slice (some ⟨g, 0, none⟩) n c) n (iv m)) :
    ((w.setCell ⟨g, i, none⟩ (.int .i64 m[j])).setCell ⟨g, j, none⟩ (.int .i64 m[i])).drew.ownsRow base 3 1 (.slice (some ⟨g, 0, none⟩) n c) n (iv (swp m i j)) := by
  have e1 : m[i] = m.getD i 0 := by simp [List.getD, hi]
  have e2 : m[j] = m.getD j 0 := by simp [List.getD, hj]
  rw [e1, e2]
  have h1 := own_set (i := i) (u := .int .i64 (m.getD j 0)) h
  rw [iv_set] at h1
  have h2 := own_set (i := j) (u := .int .i64 (m.getD i 0)) h1
  rw [iv_set] at h2
  exact own_keep h2 fun g _ => rfl
set_option maxRecDepth 8000 in
set_option maxHeartbeats 1600000 in
theorem shuffle_own (p : Nat) (s : G) (A : Option Addr) (l : List Int) (c lo hi : Nat) (w : World) (hs : SpinAt w p s.1 s.2) (hok : gok s) (h : RdI w lo hi A l) (hl : l.length ≤ 300) :
    Calls Try.prog 17 #[.pointer (some ⟨p, 0, none⟩), .slice A l.length c] w fun e w' => ∃ A' c', e = .returned (.slice A' l.length c') ∧ w'.ownsRow w.heap.size 3 1 (.slice A' l.length c') l.length (iv (shuf (l.length - 1) s l).2) ∧ Fr (OneB p) w w' := by
  obtain ⟨g1, g2, g3, g4⟩ := hs.cells
  have hc := clone_calls A l c lo hi w h hl
  have hli : (l.length : Int) ≤ 300 := by omega
  by_cases hn : l.length ≤ 1
  · have hz : l.length - 1 = 0 := by omega
    rw [hz]
    have hni : (l.length : Int) ≤ 1 := by omega
    replace hc : Calls Try.prog 29 #[.slice A l.length c] w fun e w' => ∃ A' c', e = .returned (.slice A' l.length c') ∧ w'.ownsRow w.heap.size 3 1 (.slice A' l.length c') l.length (iv l) ∧ Fr NoB w w' := by
      refine hc.mono fun e w' ⟨v, e1, e2, e3⟩ => ?_
      obtain ⟨A', c', rfl, _, _⟩ := own_form4 e2
      exact ⟨A', c', e1, e2, e3⟩
    generalize hL : l.length = n at *
    go_enter Try.func17, Try.ntmps17
    go_wp2_with ((with_reducible refine hc.mono ?_); rintro e w1 ⟨A', c', rfl, r1, f1⟩)
    go_loopw [6] (fun i W => i = .int .i64 ((n : Int) - 1) ∧ W = w1) (fun _ _ => 0)
    case atStart => exact ⟨rfl, rfl⟩
    case round =>
      obtain ⟨rfl, rfl⟩ := hrel
      go_wp2
      go_ret
      exact ⟨A', c', rfl, r1, f1.no⟩
  · have hpos : 0 < l.length := by omega
    replace hc : Calls Try.prog 29 #[.slice A l.length c] w fun e w' => ∃ g c', e = .returned (.slice (some ⟨g, 0, none⟩) l.length c') ∧ l.length ≤ c' ∧ w.heap.size ≤ g ∧ NR w' g l ∧ w'.ownsRow w.heap.size 3 1 (.slice (some ⟨g, 0, none⟩) l.length c') l.length (iv l) ∧ Fr NoB w w' := by
      refine hc.mono fun e w' ⟨v, e1, e2, e3⟩ => ?_
      obtain ⟨g, c', rfl, h1, h2, _, h4⟩ := own_nr e2 hpos
      exact ⟨g, c', e1, h1, h2, h4, e2, e3⟩
    generalize hL : l.length = n at *
    go_enter Try.func17, Try.ntmps17
    go_wp2_with ((with_reducible refine hc.mono ?_); rintro e w1 ⟨g, c', rfl, hgc, hg, hnr, ho1, f1⟩)
    go_loopw [6] (fun i W => ∃ (k : Nat) (t : G) (m : List Int), i = .int .i64 (k : Int) ∧ k < n ∧ gok t ∧ m.length = n ∧ shuf k t m = shuf (n - 1) s l ∧ SpinAt W p t.1 t.2 ∧ NR W g m ∧ W.ownsRow w.heap.size 3 1 (.slice (some ⟨g, 0, none⟩) n c') n (iv m) ∧ Fr (OneB p) w W) (fun i _ => (intOf i).toNat)
    case atStart =>
      refine ⟨n - 1, s, l, ?_, by omega, hok, hL, rfl, hs.fr f1 id, hnr, ho1, f1.no⟩
      rw [show ((n - 1 : Nat) : Int) = (n : Int) - 1 by omega]
    case round =>
      obtain ⟨k, t, m, rfl, hk, ht, hm, hsh, hst, hnm, hom, hf⟩ := hrel
      have hpg : ¬ OneB p g := fun hx => by have hx' : g = p := hx; omega
      cases k with
      | zero =>
        go_wp2
        go_ret
        rw [← hsh]
        exact ⟨some ⟨g, 0, none⟩, c', rfl, hom, hf⟩
      | succ k =>
        obtain ⟨j0, j1⟩ := tell_lt (nx t.1 t.2) k
        obtain ⟨j, hj⟩ : ∃ j : Nat, tell (nx t.1 t.2) ((k : Int) + 2) = (j : Int) := ⟨_, (Int.toNat_of_nonneg j0).symm⟩
        have hjn : j < n := by omega
        have hx := fun W (hW : SpinAt W p t.1 t.2) => next_calls p t.1 t.2 ((k : Int) + 2) W hW ht.1 ht.2
        rw [hj, show (k : Int) + 2 = (k : Int) + 1 + 1 by omega] at hx
        have hjj : j ≤ k + 1 := by omega
        have hsh2 : shuf k (nx t.1 t.2) (swp m (k + 1) j) = shuf (n - 1) s l := by
          rw [← hsh]
          show _ = shuf k (nx t.1 t.2) (swp m (k + 1) (tell (nx t.1 t.2) ((k : Int) + 2)).toNat)
          rw [hj]; rfl
        have hki : ((k + 1 : Nat) : Int) = (k : Int) + 1 := by omega
        rw [hki]
        have hkn : (k : Int) + 1 < (n : Int) := by omega
        have hjni : (j : Int) < (n : Int) := by omega
        have hkt : ((k : Int) + 1).toNat = k + 1 := by omega
        go_wp2_with ((with_reducible refine (hx _ hst).mono ?_); rintro e w2 ⟨rfl, hst2, f2⟩; have hn2 := hnm.fr f2 hpg; have ho2 := own_keep hom (fun g' hg' => by cases hg'; exact f2.block g hnm.lt hpg); obtain ⟨a1, a2⟩ := hn2.cell (i := k + 1) (by omega); obtain ⟨a3, a4⟩ := hn2.cell (i := j) (by omega); have hn3 := hn2.set (i := k + 1) (by omega) (m.getD j 0); obtain ⟨a5, a6⟩ := hn3.cell (i := j) (by rw [List.length_set]; omega))
        have hz1 : (0 : Int) ≤ (k : Int) + 1 := by omega
        have hz2 : (0 : Int) ≤ (j : Int) := by omega
        have hjt : (j : Int).toNat = j := rfl
        have sw := swp_world (k + 1) j (by omega) (by omega) hst2 hn2 hpg (hf.then f2) hg
        have so := swp_own (k + 1) j (by omega) (by omega) ho2
        by_cases hjk : j = k + 1
        · subst hjk
          go_region
          go_wp2
          (repeat apply Exists.intro)
          refine ⟨⟨k, nx t.1 t.2, swp m (k + 1) (k + 1), rfl, by omega, gok_nx _ _, by rw [swp_len, hm], hsh2, sw.1, sw.2.1, so, sw.2.2⟩, ?_⟩
          show k < ((k : Int) + 1).toNat
          omega
        · go_region
          go_wp2
          (repeat apply Exists.intro)
          refine ⟨⟨k, nx t.1 t.2, swp m (k + 1) j, rfl, by omega, gok_nx _ _, by rw [swp_len, hm], hsh2, sw.1, sw.2.1, so, sw.2.2⟩, ?_⟩
          show k < ((k : Int) + 1).toNat
          omega
end Go.Proofs.Yteigenmhfgldfaa

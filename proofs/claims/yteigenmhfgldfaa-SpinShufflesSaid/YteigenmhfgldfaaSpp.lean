/-
  Spp: spin's Shuffle.
-/
import Derived.Test.YteigenmhfgldfaaSpm
import Derived.Test.YteigenmhfgldfaaSpn
namespace Go.Proofs.Yteigenmhfgldfaa
open Go.RowKit Ieee

theorem shuf_ok : ∀ (k : Nat) (s : G) (l : List Int), gok s → gok (shuf k s l).1 ∧ (shuf k s l).2.length = l.length
  | 0, s, l, h => ⟨h, rfl⟩
  | k + 1, s, l, h => by
    have := shuf_ok k (nx s.1 s.2) (swp l (k + 1) (tell (nx s.1 s.2) ((k : Int) + 2)).toNat) (gok_nx _ _)
    rw [swp_len] at this
    exact this

theorem swp_world {w w2 : World} {p g : Nat} {s : G} {m : List Int} (i j : Nat) (hi : i < m.length) (hj : j < m.length) (hst : SpinAt w2 p s.1 s.2) (hn : NR w2 g m) (hpg : ¬ OneB p g) (f : Fr (OneB p) w w2) (hg : w.heap.size ≤ g) :
    SpinAt ((w2.setCell ⟨g, i, none⟩ (.int .i64 m[j])).setCell ⟨g, j, none⟩ (.int .i64 m[i])).drew p s.1 s.2 ∧ NR ((w2.setCell ⟨g, i, none⟩ (.int .i64 m[j])).setCell ⟨g, j, none⟩ (.int .i64 m[i])).drew g (swp m i j) ∧
      Fr (OneB p) w ((w2.setCell ⟨g, i, none⟩ (.int .i64 m[j])).setCell ⟨g, j, none⟩ (.int .i64 m[i])).drew := by
  have e1 : m[i] = m.getD i 0 := by simp [List.getD, hi]
  have e2 : m[j] = m.getD j 0 := by simp [List.getD, hj]
  rw [e1, e2]
  have fd : ∀ (M : Nat → Prop) (W : World), Fr M W W.drew := fun M W => (Fr.refl M W).drewN 1
  have f2 : Fr (OneB g) w2 ((w2.setCell ⟨g, i, none⟩ (.int .i64 (m.getD j 0))).setCell ⟨g, j, none⟩ (.int .i64 (m.getD i 0))).drew :=
    (((Fr.refl (OneB g) w2).setCell (p := ⟨g, i, none⟩) (fun _ => rfl) _).setCell (p := ⟨g, j, none⟩) (fun _ => rfl) _).drewN 1
  have hgp : ¬ OneB g p := fun hx => hpg (show g = p from (show p = g from hx).symm)
  have h1 := hn.set hi (m.getD j 0)
  have h2 := h1.set (i := j) (by rw [List.length_set]; exact hj) (m.getD i 0)
  refine ⟨hst.fr f2 hgp, h2.fr (fd NoB _) id, ?_⟩
  have hh : ∀ {a : Addr}, a.block = g → a.block < w.heap.size → OneB p a.block := fun he hl => absurd hl (by rw [he]; omega)
  exact ((f.setCell (p := ⟨g, i, none⟩) (hh rfl) _).setCell (p := ⟨g, j, none⟩) (hh rfl) _).drewN 1

set_option maxRecDepth 8000 in
set_option maxHeartbeats 1600000 in
theorem shuffle_calls (p : Nat) (s : G) (A : Option Addr) (l : List Int) (c lo hi : Nat) (w : World) (hs : SpinAt w p s.1 s.2) (hok : gok s) (h : RdI w lo hi A l) (hl : l.length ≤ 300) :
    Calls Try.prog 17 #[.pointer (some ⟨p, 0, none⟩), .slice A l.length c] w fun e w' => ∃ A' c', e = .returned (.slice A' l.length c') ∧ RdI w' w.heap.size w'.heap.size A' (shuf (l.length - 1) s l).2 ∧ SpinAt w' p (shuf (l.length - 1) s l).1.1 (shuf (l.length - 1) s l).1.2 ∧ Fr (OneB p) w w' := by
  obtain ⟨g1, g2, g3, g4⟩ := hs.cells
  have hc := clone_calls A l c lo hi w h hl
  have hli : (l.length : Int) ≤ 300 := by omega
  by_cases hn : l.length ≤ 1
  · have hz : l.length - 1 = 0 := by omega
    rw [hz]
    have hni : (l.length : Int) ≤ 1 := by omega
    replace hc : Calls Try.prog 29 #[.slice A l.length c] w fun e w' => ∃ A' c', e = .returned (.slice A' l.length c') ∧ RdI w' w.heap.size w'.heap.size A' l ∧ Fr NoB w w' := by
      refine hc.mono fun e w' ⟨v, e1, e2, e3⟩ => ?_
      obtain ⟨A', c', rfl, _, _⟩ := own_form4 e2
      exact ⟨A', c', e1, own_rdi e2, e3⟩
    generalize hL : l.length = n at *
    go_enter Try.func17, Try.ntmps17
    go_wp2_with ((with_reducible refine hc.mono ?_); rintro e w1 ⟨A', c', rfl, r1, f1⟩)
    go_loopw [6] (fun i W => i = .int .i64 ((n : Int) - 1) ∧ W = w1) (fun _ _ => 0)
    case atStart => exact ⟨rfl, rfl⟩
    case round =>
      obtain ⟨rfl, rfl⟩ := hrel
      go_wp2
      go_ret
      exact ⟨A', c', rfl, r1, hs.fr f1 id, f1.no⟩
  · have hpos : 0 < l.length := by omega
    replace hc : Calls Try.prog 29 #[.slice A l.length c] w fun e w' => ∃ g c', e = .returned (.slice (some ⟨g, 0, none⟩) l.length c') ∧ l.length ≤ c' ∧ w.heap.size ≤ g ∧ NR w' g l ∧ Fr NoB w w' := by
      refine hc.mono fun e w' ⟨v, e1, e2, e3⟩ => ?_
      obtain ⟨g, c', rfl, h1, h2, _, h4⟩ := own_nr e2 hpos
      exact ⟨g, c', e1, h1, h2, h4, e3⟩
    generalize hL : l.length = n at *
    go_enter Try.func17, Try.ntmps17
    go_wp2_with ((with_reducible refine hc.mono ?_); rintro e w1 ⟨g, c', rfl, hgc, hg, hnr, f1⟩)
    go_loopw [6] (fun i W => ∃ (k : Nat) (t : G) (m : List Int), i = .int .i64 (k : Int) ∧ k < n ∧ gok t ∧ m.length = n ∧ shuf k t m = shuf (n - 1) s l ∧ SpinAt W p t.1 t.2 ∧ NR W g m ∧ Fr (OneB p) w W) (fun i _ => (intOf i).toNat)
    case atStart =>
      refine ⟨n - 1, s, l, ?_, by omega, hok, hL, rfl, hs.fr f1 id, hnr, f1.no⟩
      rw [show ((n - 1 : Nat) : Int) = (n : Int) - 1 by omega]
    case round =>
      obtain ⟨k, t, m, rfl, hk, ht, hm, hsh, hst, hnm, hf⟩ := hrel
      have hpg : ¬ OneB p g := fun hx => by have hx' : g = p := hx; omega
      cases k with
      | zero =>
        go_wp2
        go_ret
        rw [← hsh]
        exact ⟨some ⟨g, 0, none⟩, c', rfl, hnm.rd.wide hg (Nat.succ_le_of_lt hnm.lt), hst, hf⟩
      | succ k =>
        obtain ⟨j0, j1⟩ := tell_lt (nx t.1 t.2) k
        obtain ⟨j, hj⟩ : ∃ j : Nat, tell (nx t.1 t.2) ((k : Int) + 2) = (j : Int) := ⟨_, (Int.toNat_of_nonneg j0).symm⟩
        have hjn : j < n := by omega
        have hx := fun W (hW : SpinAt W p t.1 t.2) => next_calls p t.1 t.2 ((k : Int) + 2) W hW ht.1 ht.2
        rw [hj, show (k : Int) + 2 = (k : Int) + 1 + 1 by omega] at hx
        have hjj : j ≤ k + 1 := by omega
        have hsh2 : shuf k (nx t.1 t.2) (swp m (k + 1) j) = shuf (n - 1) s l := by
          rw [← hsh]
          show _ = shuf k (nx t.1 t.2) (swp m (k + 1) (tell (nx t.1 t.2) ((k : Int) + 2)).toNat)
          rw [hj]; rfl
        have hki : ((k + 1 : Nat) : Int) = (k : Int) + 1 := by omega
        rw [hki]
        have hkn : (k : Int) + 1 < (n : Int) := by omega
        have hjni : (j : Int) < (n : Int) := by omega
        have hkt : ((k : Int) + 1).toNat = k + 1 := by omega
        go_wp2_with ((with_reducible refine (hx _ hst).mono ?_); rintro e w2 ⟨rfl, hst2, f2⟩; have hn2 := hnm.fr f2 hpg; obtain ⟨a1, a2⟩ := hn2.cell (i := k + 1) (by omega); obtain ⟨a3, a4⟩ := hn2.cell (i := j) (by omega); have hn3 := hn2.set (i := k + 1) (by omega) (m.getD j 0); obtain ⟨a5, a6⟩ := hn3.cell (i := j) (by rw [List.length_set]; omega))
        have hz1 : (0 : Int) ≤ (k : Int) + 1 := by omega
        have hz2 : (0 : Int) ≤ (j : Int) := by omega
        have hjt : (j : Int).toNat = j := rfl
        have sw := swp_world (k + 1) j (by omega) (by omega) hst2 hn2 hpg (hf.then f2) hg
        by_cases hjk : j = k + 1
        · subst hjk
          go_region
          go_wp2
          (repeat apply Exists.intro)
          refine ⟨⟨k, nx t.1 t.2, swp m (k + 1) (k + 1), rfl, by omega, gok_nx _ _, by rw [swp_len, hm], hsh2, sw.1, sw.2.1, sw.2.2⟩, ?_⟩
          show k < ((k : Int) + 1).toNat
          omega
        · go_region
          go_wp2
          (repeat apply Exists.intro)
          refine ⟨⟨k, nx t.1 t.2, swp m (k + 1) j, rfl, by omega, gok_nx _ _, by rw [swp_len, hm], hsh2, sw.1, sw.2.1, sw.2.2⟩, ?_⟩
          show k < ((k : Int) + 1).toNat
          omega
end Go.Proofs.Yteigenmhfgldfaa

/-
  Spq: the document's Shuffle; SameInts; CopyInts.
-/
import Derived.Test.YteigenmhfgldfaaSpp
namespace Go.Proofs.Yteigenmhfgldfaa
open Go.RowKit Ieee

theorem swp_world2 {w w2 : World} {p g : Nat} {s : G} {m : List Int} (i j : Nat) (hi : i < m.length) (hj : j < m.length) (hst : RefAt w2 p s) (hn : NR w2 g m) (hpg : ¬ OneB p g) (f : Fr (OneB p) w w2) (hg : w.heap.size ≤ g) :
    RefAt ((w2.setCell ⟨g, i, none⟩ (.int .i64 m[j])).setCell ⟨g, j, none⟩ (.int .i64 m[i])) p s ∧ NR ((w2.setCell ⟨g, i, none⟩ (.int .i64 m[j])).setCell ⟨g, j, none⟩ (.int .i64 m[i])) g (swp m i j) ∧
      Fr (OneB p) w ((w2.setCell ⟨g, i, none⟩ (.int .i64 m[j])).setCell ⟨g, j, none⟩ (.int .i64 m[i])) := by
  have e1 : m[i] = m.getD i 0 := by simp [List.getD, hi]
  have e2 : m[j] = m.getD j 0 := by simp [List.getD, hj]
  rw [e1, e2]
  have f2 : Fr (OneB g) w2 ((w2.setCell ⟨g, i, none⟩ (.int .i64 (m.getD j 0))).setCell ⟨g, j, none⟩ (.int .i64 (m.getD i 0))) :=
    (((Fr.refl (OneB g) w2).setCell (p := ⟨g, i, none⟩) (fun _ => rfl) _).setCell (p := ⟨g, j, none⟩) (fun _ => rfl) _)
  have hgp : ¬ OneB g p := fun hx => hpg (show g = p from (show p = g from hx).symm)
  have h1 := hn.set hi (m.getD j 0)
  have h2 := h1.set (i := j) (by rw [List.length_set]; exact hj) (m.getD i 0)
  refine ⟨hst.fr f2 hgp, h2, ?_⟩
  have hh : ∀ {a : Addr}, a.block = g → a.block < w.heap.size → OneB p a.block := fun he hl => absurd hl (by rw [he]; omega)
  exact ((f.setCell (p := ⟨g, i, none⟩) (hh rfl) _).setCell (p := ⟨g, j, none⟩) (hh rfl) _)

theorem RefAt.drew {w : World} {p : Nat} {x : G} (h : RefAt w p x) : RefAt w.drew p x := h
theorem NR.drew {w : World} {g : Nat} {l : List Int} (h : NR w g l) : NR w.drew g l := h

set_option maxRecDepth 8000 in
set_option maxHeartbeats 1600000 in
theorem refshuffle_calls (p : Nat) (s : G) (A : Option Addr) (l : List Int) (c lo hi : Nat) (w : World) (hs : RefAt w p s) (hok : gok s) (h : RdI w lo hi A l) (hh : hi ≤ w.heap.size) (hl : l.length ≤ 300) :
    Calls Try.prog 25 #[.pointer (some ⟨p, 0, none⟩), .slice A l.length c] w fun e w' => ∃ A' c', e = .returned (.slice A' l.length c') ∧ RdI w' w.heap.size w'.heap.size A' (shuf (l.length - 1) s l).2 ∧ RefAt w' p (shuf (l.length - 1) s l).1 ∧ Fr (OneB p) w w' := by
  obtain ⟨i0, hi0, hz0, hz1, hz2⟩ := info_parts info_int
  obtain ⟨g1, g2, g4⟩ := hs.cells
  have H1 := Lib.hid h
  clear h
  have O0 : Ow w (w.alloc (.cells #[] 3)) 3 1 (.slice (some ⟨w.heap.size, 0, none⟩) 0 0) 0 [] := ⟨(Fr.refl _ _).alloc _, World.ownsRow_lit w #[] 0 (Nat.le_refl _) (by decide) rfl⟩
  have HO := Lib.hid O0
  clear O0
  have hli : (l.length : Int) ≤ 300 := by omega
  generalize hR : shuf (l.length - 1) s l = R
  go_enter Try.func25, Try.ntmps25
  go_wp2_with (at_builtin; go_loud (refine wpList_append_src _ rfl _ _ 33 rfl w.heap.size 3 i0 (.int .i64 0) 1 8 Try.underlying33 hi0 hz0 hz1 hz2 rfl (by decide) _ 0 [] rfl HO.out.own A l.length c (iv l) rfl (by simp) (H1.out.fr ((Fr.refl NoB w).alloc _) hh (fun _ _ _ x => x)).srcs (iv_one l) (by unfold maxLen; omega) (by omega) (by simp) ?_))
  intro V1 w1 hA1
  have o2 : Ow w w1 3 1 V1 l.length (iv l) := by have h := HO.out.push0 hA1; simpa using h
  clear hA1 HO
  have f1 := o2.fr
  by_cases hn : l.length ≤ 1
  · have hz : l.length - 1 = 0 := by omega
    rw [hz] at hR
    have hni : (l.length : Int) ≤ 1 := by omega
    obtain ⟨A', c', rfl, _, _⟩ := own_form4 o2.own
    have r1 := own_rdi o2.own
    generalize hL : l.length = n at *
    clear o2
    go_wp2
    go_loopw [6] (fun i W => i = .int .i64 ((n : Int) - 1) ∧ W = w1) (fun _ _ => 0)
    case atStart => exact ⟨rfl, rfl⟩
    case round =>
      obtain ⟨rfl, rfl⟩ := hrel
      go_wp2
      go_ret
      subst hR hL
      exact ⟨A', c', rfl, r1, hs.fr f1 id, f1.no⟩
  · have hpos : 0 < l.length := by omega
    obtain ⟨g, c', rfl, hgc, hg, _, hnr⟩ := own_nr o2.own hpos
    generalize hL : l.length = n at *
    clear o2
    go_wp2
    go_loopw [6] (fun i W => ∃ (k : Nat) (t : G) (m : List Int), i = .int .i64 (k : Int) ∧ k < n ∧ gok t ∧ m.length = n ∧ shuf k t m = R ∧ RefAt W p t ∧ NR W g m ∧ Fr (OneB p) w W) (fun i _ => (intOf i).toNat)
    case atStart =>
      refine ⟨n - 1, s, l, ?_, by omega, hok, hL, hR, hs.fr f1 id, hnr, f1.no⟩
      go_num
    case round =>
      obtain ⟨k, t, m, rfl, hk, ht, hm, hsh, hst, hnm, hf⟩ := hrel
      have hpg : ¬ OneB p g := fun hx => by have hx' : g = p := hx; omega
      cases k with
      | zero =>
        go_wp2
        go_ret
        rw [← hsh]
        subst hL
        exact ⟨some ⟨g, 0, none⟩, c', rfl, hnm.rd.wide hg (Nat.succ_le_of_lt hnm.lt), hst, hf⟩
      | succ k =>
        obtain ⟨j0, j1⟩ := tell_lt (nx t.1 t.2) k
        obtain ⟨j, hj⟩ : ∃ j : Nat, tell (nx t.1 t.2) ((k : Int) + 2) = (j : Int) := ⟨_, (Int.toNat_of_nonneg j0).symm⟩
        have hjn : j < n := by omega
        have hx := fun W (hW : RefAt W p t) => refnext_calls p t ((k : Int) + 2) W hW ht
        rw [hj, show (k : Int) + 2 = (k : Int) + 1 + 1 by omega] at hx
        have hjj : j ≤ k + 1 := by omega
        have hsh2 : shuf k (nx t.1 t.2) (swp m (k + 1) j) = R := by
          rw [← hsh]
          show _ = shuf k (nx t.1 t.2) (swp m (k + 1) (tell (nx t.1 t.2) ((k : Int) + 2)).toNat)
          rw [hj]; rfl
        have hki : ((k + 1 : Nat) : Int) = (k : Int) + 1 := by omega
        rw [hki]
        have hkn : (k : Int) + 1 < (n : Int) := by omega
        have hjni : (j : Int) < (n : Int) := by omega
        have hkt : ((k : Int) + 1).toNat = k + 1 := by omega
        have hjm : j < m.length := by omega
        have hkm : k + 1 < m.length := by omega
        have hA := fun w2 (f2 : Fr (OneB p) wr w2) => (hnm.fr f2 hpg).cell hjm
        have hB := fun w2 (f2 : Fr (OneB p) wr w2) => (hnm.fr f2 hpg).cell hkm
        have hC := fun w2 (f2 : Fr (OneB p) wr w2) => ((hnm.fr f2 hpg).set hkm m[j]).cell (i := j) (by rw [List.length_set]; omega)
        have hD := fun w2 (f2 : Fr (OneB p) wr w2) (hst2 : RefAt w2 p (nx t.1 t.2)) => swp_world2 (k + 1) j hkm hjm hst2 (hnm.fr f2 hpg) hpg (hf.then f2) hg
        have e1 : m.getD j 0 = m[j] := by simp [List.getD, hjm]
        have e2 : m.getD (k + 1) 0 = m[k + 1] := by simp [List.getD, hkm]
        rw [e1] at hA
        rw [e2] at hB
        clear e1 e2
        go_wp2_with ((with_reducible refine (hx _ hst).mono ?_); rintro e w2 ⟨rfl, hst2, f2⟩; obtain ⟨a1, a2⟩ := hA _ f2; obtain ⟨a3, a4⟩ := hB _ f2; obtain ⟨a5, a6⟩ := hC _ f2; have sw := hD _ f2 hst2; clear hA hB hC hD)
        (repeat apply Exists.intro)
        refine ⟨⟨k, nx t.1 t.2, swp m (k + 1) j, rfl, by omega, gok_nx _ _, by rw [swp_len, hm], hsh2, sw.1, sw.2.1, sw.2.2⟩, ?_⟩
        show k < ((k : Int) + 1).toNat
        omega
end Go.Proofs.Yteigenmhfgldfaa

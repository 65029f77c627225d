/-
  Dsg: DeedGets: what it does.
-/
import Derived.Test.YtljioepkbbbibaaDoorDrz
namespace Go.Proofs.YtljioepkbbbibaaDoor
open Go.RowKit

set_option maxRecDepth 8000 in
set_option maxHeartbeats 6400000 in
theorem gets_walk (A : Option Addr) (b : List UInt8) (c : Nat) (w : World) (hb : Rd w 0 w.heap.size A b) (hbl : b.length ≤ 140737488355328) (hH : Has w) (hM : Max w) :
    Calls Tryd.prog 7 #[.slice A b.length c] w fun e w' => e = .returned (.bool true) ∧ Fr NoB w w' := by
  have HA := Lib.hid (fun W (F : Fr NoB w W) => awake_calls W (hH.fr F))
  by_cases k1 : 100000 < b.length
  · as_aux_lemma =>
    have k1i : (100000 : Int) < (b.length : Int) := by omega
    go_enter Tryd.func7, Tryd.ntmps7
    go_wp2_with (fail)
    refine (HA.out w (Fr.refl _ _)).mono ?_
    rintro e w1 ⟨rfl, f1⟩
    go_wp2
    go_ret
    exact ⟨rfl, f1⟩
  have k1i : ¬ (100000 : Int) < (b.length : Int) := by omega
  have HG := Lib.hid (b_get A b c 0 w.heap.size w hb (Nat.le_refl _) hbl hH)
  have HG2 := Lib.hid (fun W (F : Fr NoB w W) => rdget_calls A b c 0 w.heap.size W (hb.fr F (Nat.le_refl _) (fun _ _ _ x => x)) F.size hbl (hM.fr F))
  clear hb hH hM k1
  go_enter Tryd.func7, Tryd.ntmps7
  go_wp2_with (fail)
  refine HG.out.mono ?_
  rintro e w1 ⟨xa, fa, la, za, rfl, ha, hda, f1⟩
  have A16 := Lib.hid hda.size
  have AON := Lib.hid hda.one
  have FA := Lib.hid ((Fr.refl NoB w1).alloc (.cells xa 31))
  have F1 := Lib.hid (f1.then FA.out)
  have XA := Lib.hid (hda.fr FA.out)
  have HXA := Lib.hid (heap_alloc_new w1 (.cells xa 31))
  clear f1 HG hda FA
  go_wp2_with (first | (with_reducible refine held_store (ty := 31) ?_) | fail)
  unfold Held
  refine wpList_store_row rfl 31 _ _ rfl w1.heap.size xa ?_ ?_ _ _ (heap_alloc_last w1 _) (size_of A16.out) A16.out.symm AON.out ?_
  · rfl
  · rfl
  rw [World.setRow_alloc_new]
  generalize w1.alloc (.cells xa 31) = w2 at *
  obtain ⟨NA, hNA⟩ : ∃ NA, w1.heap.size = NA := ⟨_, rfl⟩
  rw [hNA] at HXA ⊢
  clear hNA
  go_wp2_with (fail)
  refine (HG2.out w2 F1.out).mono ?_
  rintro e w3 ⟨xb, fb, lb, zb, rfl, hb, hdb, f3⟩
  have B16 := Lib.hid hdb.size
  have BON := Lib.hid hdb.one
  have FB := Lib.hid ((Fr.refl NoB w3).alloc (.cells xb 31))
  have F3 := Lib.hid (F1.out.then (f3.then FB.out))
  have XA3 := Lib.hid (XA.out.fr (f3.then FB.out))
  have HXA3 := Lib.hid ((f3.then FB.out).at_ HXA.out (fun x => x))
  have XB := Lib.hid (hdb.fr FB.out)
  have HXB := Lib.hid (heap_alloc_new w3 (.cells xb 31))
  clear f3 F1 XA HXA HG2 hdb FB
  have hsame : fa = fb ∧ la = lb ∧ za = zb ∧ Fine fa la := by
    rcases ha with ⟨h1, h2⟩ | ⟨h1, h2, h3, h4⟩ <;> rcases hb with ⟨g1, g2⟩ | ⟨g1, g2, g3, g4⟩
    · have h := h1.symm.trans g1
      simp only [Option.some.injEq, Prod.mk.injEq] at h
      exact ⟨h.1, h.2, h2.trans g2.symm, Fine.get h1⟩
    · rw [g1] at h1; cases h1
    · rw [g1] at h1; cases h1
    · exact ⟨h2.trans g2.symm, h3.trans g3.symm, h4.trans g4.symm, by rw [h2, h3]; exact Fine.bare⟩
  obtain ⟨rfl, rfl, rfl, hfi⟩ := hsame
  have HFI := Lib.hid hfi
  clear ha hb hfi
  go_wp2_with (first | (with_reducible refine held_store (ty := 31) ?_) | fail)
  unfold Held
  refine wpList_store_row rfl 31 _ _ rfl w3.heap.size xb ?_ ?_ _ _ (heap_alloc_last w3 _) (size_of B16.out) B16.out.symm BON.out ?_
  · rfl
  · rfl
  rw [World.setRow_alloc_new]
  generalize w3.alloc (.cells xb 31) = w4 at *
  obtain ⟨NB, hNB⟩ : ∃ NB, w3.heap.size = NB := ⟨_, rfl⟩
  rw [hNB] at HXB ⊢
  clear hNB
  go_wp2_with (first | (refine wpList_load_row rfl 31 _ rfl NA rfl _ _ _ _ HXA3.out Tryd.underlying31 rfl (size_of A16.out) ?_) | (refine wpList_load_row rfl 31 _ rfl NB rfl _ _ _ _ HXB.out Tryd.underlying31 rfl (size_of B16.out) ?_) | fail)
  refine (b_same XA3.out XB.out HFI.out).mono ?_
  rintro e w5 ⟨rfl, f5⟩
  have F5 := Lib.hid (F3.out.then f5)
  clear f5 F3 XA3 XB HXA3 HXB
  go_wp2_with (fail)
  refine (HA.out w5 F5.out).mono ?_
  rintro e w6 ⟨rfl, f6⟩
  go_wp2
  go_ret
  exact ⟨rfl, F5.out.then f6⟩
end Go.Proofs.YtljioepkbbbibaaDoor

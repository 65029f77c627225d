/-
  Ptq: the document's answer: Parent, Base.
-/
import Derived.Test.YtbfcggcfabkbjaaDoorPtp
namespace Go.Proofs.YtbfcggcfabkbjaaDoor
open Go.RowKit Go.Shelf

theorem join_spl : ∀ t : List UInt8, Lib.join (spl t) [47] = t
  | [] => by simp [spl, Lib.join_one]
  | c :: t => by
    have ih := join_spl t
    unfold spl
    split
    · rename_i hc
      subst hc
      cases hs : spl t with
      | nil => exact absurd hs (spl_ne t)
      | cons y r =>
        rw [hs, Lib.join_cons] at ih
        rw [Lib.join_cons, ← ih]
        simp [Lib.joinTail]
    · cases hs : spl t with
      | nil => exact absurd hs (spl_ne t)
      | cons y r =>
        rw [hs, Lib.join_cons] at ih
        rw [Lib.join_cons, ← ih]
        simp

set_option maxRecDepth 8000 in
set_option maxHeartbeats 1600000 in
theorem refpath_calls (b c : Nat) (ys : List (List UInt8)) (w : World) (h : StrRow w b ys) (hb : b < w.heap.size) (hc : ys.length ≤ c) (hlen : (Lib.join ys [47]).length ≤ 140737488300000) (hn : ys.length ≤ 1000) :
    Calls Tryd.prog 24 #[.slice (some ⟨b, 0, none⟩) ys.length c] w fun e w' => e = .returned (.string ⟨(47 :: Lib.join ys [47]).toArray⟩) ∧ Fr NoB w w' := by
  have hmm : (ys.map fun x => (⟨x.toArray⟩ : ByteArray)).map (·.data.toList) = ys := by
    rw [List.map_map]
    exact (List.map_congr_left fun x _ => by simp).trans (List.map_id ys)
  have hj : Calls Tryd.prog 37 #[.slice (some ⟨b, 0, none⟩) ys.length c, .string ⟨#[47]⟩] w fun e w' => e = .returned (.string ⟨(Lib.join ys [47]).toArray⟩) ∧ Fr NoB w w' := by
    have := Tryd.strings_Join b 0 c (ys.map fun x => ⟨x.toArray⟩) ⟨#[47]⟩ w (fun j x hx => by
      rw [List.getElem?_map, Option.map_eq_some_iff] at hx
      obtain ⟨y, hy, rfl⟩ := hx
      rw [Nat.zero_add]
      exact h j y hy) hb (by rw [List.length_map]; omega) (by rw [List.length_map]; exact hc) (by rw [hmm]; exact Nat.le_trans hlen (by decide))
    rw [List.length_map, hmm] at this
    exact this.mono fun e w' h => ⟨h.1, Fr.ofBelow h.2⟩
  have hadd : ByteArray.mk #[47] ++ ByteArray.mk (Lib.join ys [47]).toArray = ByteArray.mk (47 :: Lib.join ys [47]).toArray := mk_app [47] _
  have hz : ¬ 9223372036854775807 < (ByteArray.mk #[47]).size + (ByteArray.mk (Lib.join ys [47]).toArray).size := by
    rw [mk_size (Lib.join ys [47]), show (ByteArray.mk #[47]).size = 1 from rfl]; omega
  have hz2 : ¬ 9223372036854775807 < 1 + (ByteArray.mk (Lib.join ys [47]).toArray).size := by
    rw [mk_size]; omega
  generalize ByteArray.mk (Lib.join ys [47]).toArray = J at *
  generalize ByteArray.mk (47 :: Lib.join ys [47]).toArray = R at *
  generalize ys.length = n at *
  go_enter Tryd.func24, Tryd.ntmps24
  go_wp2_with ((with_reducible refine hj.mono ?_); rintro e w1 ⟨rfl, f⟩)
  go_ret
  exact ⟨rfl, f⟩

/-- A path's parts: the last, and those before it. -/
theorem parts_last {l : List UInt8} (hk : chk l = true) (hne : l ≠ [47]) : ∃ ys, spl (l.drop 1) = ys ++ [bas l] ∧ 47 :: Lib.join ys [47] = par l ∧ ys.length ≤ 200 ∧ (par l).length ≤ 200 := by
  obtain ⟨hm, hl⟩ := chk_slash hk
  obtain ⟨p, b, rfl, hb⟩ := cutLast l hm
  have hpar : par (p ++ 47 :: b) = if p = [] then [47] else p := by
    unfold par; rw [if_pos ⟨hk, hne⟩, upTo_eq p b hb]
  have hbas : bas (p ++ 47 :: b) = b := by
    unfold bas; rw [if_pos ⟨hk, hne⟩, lastOf_eq p b hb]
  rw [hpar, hbas]
  obtain ⟨t, ht, _, _⟩ := chk_iff.1 hk
  cases p with
  | nil =>
    exact ⟨[], by simp [spl_none hb], by rfl, by simp, by simp⟩
  | cons c p =>
    simp only [List.cons_append, List.cons.injEq] at ht
    obtain ⟨rfl, rfl⟩ := ht
    refine ⟨spl p, ?_, ?_, ?_, ?_⟩
    · simp only [List.cons_append, List.drop_one, List.tail_cons]
      rw [spl_app, spl_none hb]
    · rw [join_spl]; simp
    · have := spl_count p
      simp at hl; omega
    · simp at hl ⊢; omega

set_option maxRecDepth 8000 in
set_option maxHeartbeats 1600000 in
theorem refparent_calls (l : List UInt8) (w : World) (hm : Max w) (hl : l.length ≤ 140737488400000) :
    Calls Tryd.prog 12 #[.string ⟨l.toArray⟩] w fun e w' => e = .returned (.string ⟨(par l).toArray⟩) ∧ Fr NoB w w' := by
  have hc := refparts_calls l w hm hl
  by_cases hk : chk l = true ∧ l ≠ [47]
  · obtain ⟨ys, h1, h2, h3, h4⟩ := parts_last hk.1 hk.2
    have hjl : (Lib.join ys [47]).length ≤ 140737488300000 := by
      rw [← h2] at h4; simp at h4; omega
    have hlen : (spl (l.drop 1)).length = ys.length + 1 := by rw [h1]; simp
    have hP := fun b W (hr : StrRow W b ys) (hb : b < W.heap.size) => refpath_calls b (ys.length + 1) ys W hr hb (by omega) hjl (by omega)
    rw [h2] at hP
    replace hc : Calls Tryd.prog 22 #[.string ⟨l.toArray⟩] w fun e w' => ∃ b, e = .returned (.tuple #[.slice (some ⟨b, 0, none⟩) (ys.length + 1) (ys.length + 1), .bool true]) ∧ b < w'.heap.size ∧ StrRow w' b ys ∧ Fr NoB w w' := by
      refine hc.mono fun e w' h => ?_
      rcases h.1 with ⟨k1, _⟩ | ⟨k1, _⟩ | ⟨_, _, b, e1, e2, e3, e4⟩
      · rw [hk.1] at k1; cases k1
      · exact absurd k1 hk.2
      · rw [hlen] at e1
        refine ⟨b, e1, e3, fun j x hx => e4 j x ?_, h.2⟩
        rw [h1, List.getElem?_append_left (List.getElem?_eq_some_iff.1 hx).1]; exact hx
    generalize ByteArray.mk l.toArray = S at *
    generalize ByteArray.mk (par l).toArray = R at *
    generalize hn : ys.length = n at *
    have hni : (n : Int) ≤ 200 := by omega
    go_enter Tryd.func12, Tryd.ntmps12
    go_wp2_with (first | ((with_reducible refine hc.mono ?_); rintro e w1 ⟨b, rfl, hb, hr, f1⟩) | ((with_reducible refine (hP b _ hr hb).mono ?_); rintro e w2 ⟨rfl, f2⟩))
    go_ret
    exact ⟨rfl, f1.then f2⟩
  · have hp : par l = [] := by unfold par; rw [if_neg hk]
    rw [hp]
    replace hc : Calls Tryd.prog 22 #[.string ⟨l.toArray⟩] w fun e w' => ∃ b, e = .returned (.tuple #[.slice none 0 0, .bool b]) ∧ Fr NoB w w' := by
      refine hc.mono fun e w' h => ?_
      rcases h.1 with ⟨_, k⟩ | ⟨_, k⟩ | ⟨k1, k2, _⟩
      · exact ⟨_, k, h.2⟩
      · exact ⟨_, k, h.2⟩
      · exact absurd ⟨k1, k2⟩ hk
    generalize ByteArray.mk l.toArray = S at *
    go_enter Tryd.func12, Tryd.ntmps12
    go_wp2_with ((with_reducible refine hc.mono ?_); rintro e w1 ⟨b, rfl, f1⟩)
    go_ret
    exact ⟨rfl, f1⟩

set_option maxRecDepth 8000 in
set_option maxHeartbeats 1600000 in
theorem refbase_calls (l : List UInt8) (w : World) (hm : Max w) (hl : l.length ≤ 140737488400000) :
    Calls Tryd.prog 14 #[.string ⟨l.toArray⟩] w fun e w' => e = .returned (.string ⟨(bas l).toArray⟩) ∧ Fr NoB w w' := by
  have hc := refparts_calls l w hm hl
  by_cases hk : chk l = true ∧ l ≠ [47]
  · obtain ⟨ys, h1, h2, h3, h4⟩ := parts_last hk.1 hk.2
    have hlen : (spl (l.drop 1)).length = ys.length + 1 := by rw [h1]; simp
    replace hc : Calls Tryd.prog 22 #[.string ⟨l.toArray⟩] w fun e w' => ∃ b, e = .returned (.tuple #[.slice (some ⟨b, 0, none⟩) (ys.length + 1) (ys.length + 1), .bool true]) ∧ w'.cell? ⟨b, ys.length, none⟩ = some (.string ⟨(bas l).toArray⟩) ∧ Fr NoB w w' := by
      refine hc.mono fun e w' h => ?_
      rcases h.1 with ⟨k1, _⟩ | ⟨k1, _⟩ | ⟨_, _, b, e1, e2, e3, e4⟩
      · rw [hk.1] at k1; cases k1
      · exact absurd k1 hk.2
      · rw [hlen] at e1
        exact ⟨b, e1, e4 ys.length (bas l) (by rw [h1]; simp), h.2⟩
    generalize ByteArray.mk l.toArray = S at *
    generalize ByteArray.mk (bas l).toArray = R at *
    generalize hn : ys.length = n at *
    have hni : (n : Int) ≤ 200 := by omega
    go_enter Tryd.func14, Tryd.ntmps14
    go_wp2_with ((with_reducible refine hc.mono ?_); rintro e w1 ⟨b, rfl, hb, f1⟩)
    go_ret
    exact ⟨rfl, f1⟩
  · have hp : bas l = [] := by unfold bas; rw [if_neg hk]
    rw [hp]
    replace hc : Calls Tryd.prog 22 #[.string ⟨l.toArray⟩] w fun e w' => ∃ b, e = .returned (.tuple #[.slice none 0 0, .bool b]) ∧ Fr NoB w w' := by
      refine hc.mono fun e w' h => ?_
      rcases h.1 with ⟨_, k⟩ | ⟨_, k⟩ | ⟨k1, k2, _⟩
      · exact ⟨_, k, h.2⟩
      · exact ⟨_, k, h.2⟩
      · exact absurd ⟨k1, k2⟩ hk
    generalize ByteArray.mk l.toArray = S at *
    go_enter Tryd.func14, Tryd.ntmps14
    go_wp2_with ((with_reducible refine hc.mono ?_); rintro e w1 ⟨b, rfl, f1⟩)
    go_ret
    exact ⟨rfl, f1⟩
end Go.Proofs.YtbfcggcfabkbjaaDoor

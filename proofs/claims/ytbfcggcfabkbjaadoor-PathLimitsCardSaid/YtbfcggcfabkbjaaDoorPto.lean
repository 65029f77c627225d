/-
  Pto: the document's answer: Parts of any text, Check.
-/
import Derived.Test.YtbfcggcfabkbjaaDoorPtn
namespace Go.Proofs.YtbfcggcfabkbjaaDoor
open Go.RowKit Go.Shelf

set_option maxRecDepth 8000 in
set_option maxHeartbeats 3200000 in
theorem parts_root (w : World) :
    Calls Tryd.prog 22 #[.string ⟨#[47]⟩] w fun e w' => e = .returned (.tuple #[.slice none 0 0, .bool true]) ∧ Fr NoB w w' := by
  go_enter Tryd.func22, Tryd.ntmps22
  go_wp2
  all_goals go_ret2
  all_goals exact ⟨rfl, Fr.refl _ _⟩
set_option maxRecDepth 8000 in
set_option maxHeartbeats 3200000 in
theorem parts_no (l : List UInt8) (w : World) (hl : l.length ≤ 140737488400000) (h : l = [] ∨ 200 < l.length ∨ ∃ c t, l = c :: t ∧ c ≠ 47) :
    Calls Tryd.prog 22 #[.string ⟨l.toArray⟩] w fun e w' => e = .returned (.tuple #[.slice none 0 0, .bool false]) ∧ Fr NoB w w' := by
  rcases h with rfl | h | ⟨c, t, rfl, hc⟩
  · go_enter Tryd.func22, Tryd.ntmps22
    go_wp2
    all_goals go_ret2
    all_goals exact ⟨rfl, Fr.refl _ _⟩
  · have hsz : (ByteArray.mk l.toArray).size = l.length := mk_size l
    generalize ByteArray.mk l.toArray = S at *
    generalize l.length = n at *
    have k1 : 200 < (n : Int) := by omega
    go_enter Tryd.func22, Tryd.ntmps22
    go_wp2
    all_goals go_ret2
    all_goals exact ⟨rfl, Fr.refl _ _⟩
  · have hsz : (ByteArray.mk (c :: t).toArray).size = t.length + 1 := by rw [mk_size]; rfl
    have k3 : ∀ h : 0 < (ByteArray.mk (c :: t).toArray).size, ((((ByteArray.mk (c :: t).toArray)[0]'h).toNat : Int) != 47) = true := fun h => by
      rw [mk_get]
      rw [bne_iff_ne]
      exact by47 hc
    have k0 : ((t.length : Int) + 1 == 0) = false := by rw [beq_eq_false_iff_ne]; omega
    simp only [List.length_cons] at hl
    generalize ByteArray.mk (c :: t).toArray = S at *
    generalize t.length = n at *
    go_enter Tryd.func22, Tryd.ntmps22
    go_wp2
    all_goals go_ret2
    all_goals exact ⟨rfl, Fr.refl _ _⟩

/-- Where the greatest length for a short search is written. -/
def Max (w : World) : Prop := (∃ m, w.cell? ⟨0, 0, none⟩ = some (.int .i64 m)) ∧ 0 < w.heap.size
theorem Max.fr {w w' : World} (h : Max w) (f : Fr NoB w w') : Max w' := by
  obtain ⟨⟨m, hm⟩, h0⟩ := h
  exact ⟨⟨m, (f.cell (p := ⟨0, 0, none⟩) h0 id).trans hm⟩, Nat.lt_of_lt_of_le h0 f.size⟩
/-- What Parts answers. -/
def PartsQ (l : List UInt8) (w : World) (e : Ending) (w' : World) : Prop :=
  (chk l = false ∧ e = .returned (.tuple #[.slice none 0 0, .bool false])) ∨
  (l = [47] ∧ e = .returned (.tuple #[.slice none 0 0, .bool true])) ∨
  (chk l = true ∧ l ≠ [47] ∧ ∃ b, e = .returned (.tuple #[.slice (some ⟨b, 0, none⟩) (spl (l.drop 1)).length (spl (l.drop 1)).length, .bool true]) ∧ w.heap.size ≤ b ∧ b < w'.heap.size ∧ StrRow w' b (spl (l.drop 1)))
theorem refparts_calls (l : List UInt8) (w : World) (hm : Max w) (hl : l.length ≤ 140737488400000) :
    Calls Tryd.prog 22 #[.string ⟨l.toArray⟩] w fun e w' => PartsQ l w e w' ∧ Fr NoB w w' := by
  by_cases hr : l = [47]
  · subst hr
    exact (parts_root w).mono fun e w' h => ⟨.inr (.inl ⟨rfl, h.1⟩), h.2⟩
  by_cases hn : l = [] ∨ 200 < l.length ∨ ∃ c t, l = c :: t ∧ c ≠ 47
  · refine (parts_no l w hl hn).mono fun e w' h => ⟨.inl ⟨?_, h.1⟩, h.2⟩
    rw [Bool.eq_false_iff]
    intro hx
    obtain ⟨t, rfl, h1, _⟩ := chk_iff.1 hx
    rcases hn with h | h | ⟨c, t', h, hc⟩
    · cases h
    · omega
    · cases h; exact hc rfl
  · simp only [not_or] at hn
    obtain ⟨h1, h2, h3⟩ := hn
    obtain ⟨c, t, rfl⟩ : ∃ c t, l = c :: t := by cases l with | nil => exact absurd rfl h1 | cons c t => exact ⟨c, t, rfl⟩
    obtain rfl : c = 47 := Decidable.byContradiction fun hc => h3 ⟨c, t, rfl, hc⟩
    obtain ⟨⟨m, hmm⟩, h0⟩ := hm
    have ht : t ≠ [] := by rintro rfl; exact hr rfl
    refine (parts_all t w m hmm h0 ht (by omega)).mono fun e w' h => ⟨?_, h.2⟩
    rcases h.1 with ⟨k1, k2⟩ | k
    · exact .inr (.inr ⟨k1, hr, k2⟩)
    · exact .inl k

set_option maxRecDepth 8000 in
set_option maxHeartbeats 1600000 in
theorem refcheck_calls (l : List UInt8) (w : World) (hm : Max w) (hl : l.length ≤ 140737488400000) :
    Calls Tryd.prog 10 #[.string ⟨l.toArray⟩] w fun e w' => e = .returned (.bool (chk l)) ∧ Fr NoB w w' := by
  have hc := refparts_calls l w hm hl
  generalize ByteArray.mk l.toArray = S at *
  go_enter Tryd.func10, Tryd.ntmps10
  go_wp2_with ((with_reducible refine hc.mono ?_); rintro e w1 ⟨⟨hk, rfl⟩ | ⟨hk, rfl⟩ | ⟨hk, hk2, b, rfl, hb⟩, f⟩)
  · go_ret; exact ⟨by rw [hk]; rfl, f⟩
  · go_ret; exact ⟨by rw [hk]; rfl, f⟩
  · go_ret; exact ⟨by rw [hk]; rfl, f⟩
end Go.Proofs.YtbfcggcfabkbjaaDoor

/-
  Pte: path.cut, Parent, Base.
-/
import Derived.Test.YtbfcggcfabkbjaaDoorPtd
namespace Go.Proofs.YtbfcggcfabkbjaaDoor
open Go.RowKit Go.Shelf

theorem mk_bang (l : List UInt8) (j : Nat) (h : j < l.length) : (ByteArray.mk l.toArray).data[j]! = l[j] := by
  simp [getElem!_pos, h]
theorem last_some (p b : List UInt8) (hno : (47 : UInt8) ∉ b) : Lib.lastIndexByte (ByteArray.mk (p ++ 47 :: b).toArray) 47 = (p.length : Int) := by
  have hlen : (p ++ 47 :: b).length = p.length + 1 + b.length := by simp; omega
  rcases Lib.lastIndexByte_spec (ByteArray.mk (p ++ 47 :: b).toArray) 47 with ⟨h1, h2⟩ | ⟨i, hi, h1, h2, h3⟩
  · refine absurd ?_ (h2 p.length (by rw [mk_size, hlen]; omega))
    rw [mk_bang _ _ (by omega)]
    simp
  · rw [mk_size, hlen] at hi
    rw [h1]
    rcases Nat.lt_trichotomy i p.length with h | h | h
    · refine absurd ?_ (h3 p.length h (by rw [mk_size, hlen]; omega))
      rw [mk_bang _ _ (by omega)]
      simp
    · rw [h]
    · exfalso
      rw [mk_bang _ _ (by omega)] at h2
      have hg : (p ++ 47 :: b)[i]'(by omega) = b[i - p.length - 1]'(by omega) := by
        rw [List.getElem_append_right (by omega), List.getElem_cons]
        simp [show ¬ i - p.length = 0 by omega]
      rw [hg] at h2
      have h47 : b[i - p.length - 1]'(by omega) = 47 := Decidable.byContradiction fun hc => by47 hc h2
      exact hno (List.mem_of_getElem h47)

set_option maxRecDepth 8000 in
set_option maxHeartbeats 1600000 in
theorem cutp_no (l : List UInt8) (w : World) (hl : l.length ≤ 140737488400000) (h : chk l = false ∨ l = [47]) :
    Calls Tryd.prog 23 #[.string ⟨l.toArray⟩] w fun e w' => e = .returned (.tuple #[.string ⟨#[]⟩, .string ⟨#[]⟩]) ∧ Fr NoB w w' := by
  have hc := fun W => check_calls l W hl
  have he : (ByteArray.mk l.toArray).toList = l := by simp
  go_enter Tryd.func23, Tryd.ntmps23
  by_cases hk : chk l = false
  · rw [hk] at hc
    go_wp2_with (refine (hc _).mono ?_; rintro e w1 ⟨rfl, f1⟩)
    go_ret2
    exact ⟨rfl, f1⟩
  · obtain rfl : l = [47] := h.resolve_left hk
    rw [Bool.not_eq_false] at hk
    rw [hk] at hc
    go_wp2_with (refine (hc _).mono ?_; rintro e w1 ⟨rfl, f1⟩)
    go_ret2
    exact ⟨rfl, f1⟩

set_option maxRecDepth 8000 in
set_option maxHeartbeats 1600000 in
theorem cutp_yes (p b : List UInt8) (w : World) (h : chk (p ++ 47 :: b) = true) (hne : p ++ 47 :: b ≠ [47]) (hno : (47 : UInt8) ∉ b) (hl : (p ++ 47 :: b).length ≤ 200) :
    Calls Tryd.prog 23 #[.string ⟨(p ++ 47 :: b).toArray⟩] w fun e w' => e = .returned (.tuple #[.string ⟨(if p = [] then [47] else p).toArray⟩, .string ⟨b.toArray⟩]) ∧ Fr NoB w w' := by
  have hc := fun W => check_calls (p ++ 47 :: b) W (by omega)
  rw [h] at hc
  have hlen : (p ++ 47 :: b).length = p.length + 1 + b.length := by simp; omega
  have hsz : (ByteArray.mk (p ++ 47 :: b).toArray).size = p.length + 1 + b.length := by rw [mk_size, hlen]
  have hli := last_some p b hno
  have h47 : ((ByteArray.mk (p ++ 47 :: b).toArray).toList == [47]) = false := by simpa using hne
  have hx1 : (ByteArray.mk (p ++ 47 :: b).toArray).extract 0 (if p = [] then 1 else p.length) = ⟨(if p = [] then [47] else p).toArray⟩ := by
    rw [mk_ext]
    by_cases hp : p = []
    · subst hp; simp
    · simp [hp]
  have hx2 : (ByteArray.mk (p ++ 47 :: b).toArray).extract (p.length + 1) (ByteArray.mk (p ++ 47 :: b).toArray).size = ⟨b.toArray⟩ := by
    rw [mk_ext, mk_size, List.take_length, show p ++ 47 :: b = (p ++ [47]) ++ b by simp, show p.length + 1 = (p ++ [47]).length by simp, List.drop_left]
  have hx3 : ((p.length : Int)) + 1 ≤ ((ByteArray.mk (p ++ 47 :: b).toArray).size : Int) := by omega
  have hx4 : (p.length : Int) ≤ ((ByteArray.mk (p ++ 47 :: b).toArray).size : Int) := by omega
  have hx5 : (0 : Int) ≤ (p.length : Int) + 1 := by omega
  have hx6 : (0 : Int) ≤ (p.length : Int) := by omega
  have hsl : (ByteArray.mk (p ++ 47 :: b).toArray).size < 4611686018427387904 := by omega
  have hL := fun W => Tryd.strings_LastIndexByte (ByteArray.mk (p ++ 47 :: b).toArray) 47 hsl W
  rw [hli] at hL
  have mixed : Tryd.prog.follows .mixedOrders = true := by kernel_rfl
  generalize (ByteArray.mk (p ++ 47 :: b).toArray) = S at hc hL hx1 hx2 hx3 hx4 h47
  clear hli hsz hsl hlen
  go_enter Tryd.func23, Tryd.ntmps23
  go_wp2_with (first | (refine (hc _).mono ?_; rintro e w1 ⟨rfl, f1⟩) | (refine (hL _).mono ?_; rintro e w2 ⟨rfl, rfl⟩))
  by_cases hp : p = []
  · subst hp
    go_region_o
    go_wp2
    go_ret2
    refine ⟨?_, f1.drew⟩
    rw [show S.extract 0 (max (0 : Int) 1).toNat = ⟨([47] : List UInt8).toArray⟩ from hx1, show S.extract 1 S.size = ⟨b.toArray⟩ from hx2]
    rfl
  · have hp1 : 1 ≤ p.length := by cases p <;> simp_all
    rw [if_neg hp, if_neg hp] at hx1
    have hn : p.length ≤ 200 := by simp at hl; omega
    have hmx : max (p.length : Int) 1 = (p.length : Int) := by omega
    have hwr : IntKind.i64.wrap ((p.length : Int) + 1) = (p.length : Int) + 1 := by rw [IntKind.wrap_i64]; omega
    have hw64 : wrap64 ((p.length : Int) + 1) = (p.length : Int) + 1 := by unfold wrap64; omega
    have hnat : ((p.length : Int) + 1).toNat = p.length + 1 := by omega
    go_region_o
    go_wp2
    go_ret2
    exact ⟨rfl, f1.drew⟩

/-- A text up to its last slash, and behind it. -/
def upTo (l : List UInt8) : List UInt8 := ((l.reverse.dropWhile fun c => c != 47).drop 1).reverse
def lastOf (l : List UInt8) : List UInt8 := (l.reverse.takeWhile fun c => c != 47).reverse
theorem dropW_no {c : UInt8} : ∀ {b : List UInt8} (r : List UInt8), c ∉ b → (b ++ c :: r).dropWhile (fun x => x != c) = c :: r
  | [], r, _ => by simp [List.dropWhile]
  | x :: t, r, h => by
    simp only [List.mem_cons, not_or] at h
    rw [List.cons_append, List.dropWhile_cons, if_pos (by simpa using Ne.symm h.1), dropW_no r h.2]
theorem takeW_no {c : UInt8} : ∀ {b : List UInt8} (r : List UInt8), c ∉ b → (b ++ c :: r).takeWhile (fun x => x != c) = b
  | [], r, _ => by simp [List.takeWhile]
  | x :: t, r, h => by
    simp only [List.mem_cons, not_or] at h
    rw [List.cons_append, List.takeWhile_cons, if_pos (by simpa using Ne.symm h.1), takeW_no r h.2]
theorem upTo_eq (p b : List UInt8) (h : (47 : UInt8) ∉ b) : upTo (p ++ 47 :: b) = p := by
  unfold upTo
  rw [List.reverse_append, List.reverse_cons, List.append_assoc, List.singleton_append, dropW_no _ (by simpa using h)]
  simp
theorem lastOf_eq (p b : List UInt8) (h : (47 : UInt8) ∉ b) : lastOf (p ++ 47 :: b) = b := by
  unfold lastOf
  rw [List.reverse_append, List.reverse_cons, List.append_assoc, List.singleton_append, takeW_no _ (by simpa using h)]
  simp
/-- A text with a slash, cut at its last. -/
theorem cutLast : ∀ l : List UInt8, (47 : UInt8) ∈ l → ∃ p b, l = p ++ 47 :: b ∧ (47 : UInt8) ∉ b
  | [], h => by cases h
  | c :: t, h => by
    by_cases ht : (47 : UInt8) ∈ t
    · obtain ⟨p, b, rfl, hb⟩ := cutLast t ht
      exact ⟨c :: p, b, rfl, hb⟩
    · rcases List.mem_cons.1 h with rfl | h
      · exact ⟨[], t, rfl, ht⟩
      · exact absurd h ht
theorem chk_slash {l : List UInt8} (h : chk l = true) : (47 : UInt8) ∈ l ∧ l.length ≤ 200 := by
  cases l with
  | nil => cases h
  | cons c t =>
    unfold chk at h
    simp only [Bool.and_eq_true, beq_iff_eq, decide_eq_true_eq] at h
    exact ⟨by simp [h.1], h.2.1⟩

/-- What stands over a path. -/
def par (l : List UInt8) : List UInt8 := if chk l = true ∧ l ≠ [47] then (if upTo l = [] then [47] else upTo l) else []
/-- A path's last part. -/
def bas (l : List UInt8) : List UInt8 := if chk l = true ∧ l ≠ [47] then lastOf l else []

theorem cutp_calls (l : List UInt8) (w : World) (hl : l.length ≤ 140737488400000) :
    Calls Tryd.prog 23 #[.string ⟨l.toArray⟩] w fun e w' => e = .returned (.tuple #[.string ⟨(par l).toArray⟩, .string ⟨(bas l).toArray⟩]) ∧ Fr NoB w w' := by
  unfold par bas
  by_cases h : chk l = true ∧ l ≠ [47]
  · rw [if_pos h, if_pos h]
    obtain ⟨h1, h2⟩ := h
    obtain ⟨hm, hl2⟩ := chk_slash h1
    obtain ⟨p, b, rfl, hb⟩ := cutLast l hm
    rw [upTo_eq p b hb, lastOf_eq p b hb]
    exact cutp_yes p b w h1 h2 hb hl2
  · rw [if_neg h, if_neg h]
    refine cutp_no l w hl ?_
    by_cases h1 : chk l = true
    · exact .inr (Decidable.byContradiction fun h2 => h ⟨h1, h2⟩)
    · exact .inl (by simpa using h1)

theorem parent_calls (l : List UInt8) (w : World) (hl : l.length ≤ 140737488400000) :
    Calls Tryd.prog 11 #[.string ⟨l.toArray⟩] w fun e w' => e = .returned (.string ⟨(par l).toArray⟩) ∧ Fr NoB w w' := by
  have hc := fun W => cutp_calls l W hl
  generalize (par l) = x at hc
  generalize (bas l) = y at hc
  go_enter Tryd.func11, Tryd.ntmps11
  go_wp2_with (refine (hc _).mono ?_; rintro e w1 ⟨rfl, f1⟩)
  go_ret
  exact ⟨rfl, f1⟩
theorem base_calls (l : List UInt8) (w : World) (hl : l.length ≤ 140737488400000) :
    Calls Tryd.prog 13 #[.string ⟨l.toArray⟩] w fun e w' => e = .returned (.string ⟨(bas l).toArray⟩) ∧ Fr NoB w w' := by
  have hc := fun W => cutp_calls l W hl
  generalize (par l) = x at hc
  generalize (bas l) = y at hc
  go_enter Tryd.func13, Tryd.ntmps13
  go_wp2_with (refine (hc _).mono ?_; rintro e w1 ⟨rfl, f1⟩)
  go_ret
  exact ⟨rfl, f1⟩
end Go.Proofs.YtbfcggcfabkbjaaDoor

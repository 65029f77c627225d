/-
  Ptp: the document's answer: Number; PathNumbers.
-/
import Derived.Test.YtbfcggcfabkbjaaDoorPto
namespace Go.Proofs.YtbfcggcfabkbjaaDoor
open Go.RowKit Go.Shelf

/-- The row of digits when k of them stand, zero bytes before. -/
def rowz (k n : Nat) : List UInt8 := List.replicate (10 - k) 0 ++ low k n
theorem rowz_length (k n : Nat) (h : k ≤ 10) : (rowz k n).length = 10 := by simp [rowz]; omega
theorem rowz_set (k n : Nat) (h : k < 10) : (rowz k n).set (9 - k) (UInt8.ofNat (48 + n / 10 ^ k % 10)) = rowz (k + 1) n := by
  unfold rowz
  rw [show 10 - k = (9 - k) + 1 by omega, List.replicate_succ', List.append_assoc, List.set_append_right _ _ (by simp)]
  rw [show 10 - (k + 1) = 9 - k by omega]
  simp [low]

set_option maxRecDepth 8000 in
set_option maxHeartbeats 3200000 in
theorem refnumber_yes (p : List UInt8) (m : Nat) (w : World) (hM : Max w) (hl : p.length ≤ 200) (hm : m ≤ 2147483647) (b : Bool) (hb : chk (p ++ low 10 m) = b) (R : ByteArray) (hR : R = if b then ⟨(p ++ low 10 m).toArray⟩ else ⟨#[]⟩) :
    Calls Tryd.prog 8 #[.string ⟨p.toArray⟩, .int .i64 (m : Int)] w fun e w' => e = .returned (.tuple #[.string R, .bool b]) ∧ Fr NoB w w' := by
  have hsz : (ByteArray.mk p.toArray).size = p.length := mk_size p
  go_enter Tryd.func8, Tryd.ntmps8
  go_wp2
  go_loopw [1, 7] (fun n' i W => ∃ k : Nat, k ≤ 10 ∧ n' = .int .i64 ((m / 10 ^ k : Nat) : Int) ∧ i = .int .i64 (9 - (k : Int)) ∧ w.heap.size < W.heap.size ∧ Fr NoB w W ∧ W.heap[w.heap.size]? = some (.cells (bv (rowz k m)).toArray 33 (0, 0))) (fun _ i _ => (intOf i + 1).toNat)
  case atStart =>
    refine ⟨0, by omega, by simp, by simp, by simp, (Fr.refl _ _).alloc _, ?_⟩
    show (w.heap.push _)[w.heap.size]? = _
    rw [Array.getElem?_push_size]
    rfl
  case round =>
    obtain ⟨k, hk, rfl, rfl, hsz', hf, hbk⟩ := hrel
    by_cases hk9 : k < 10
    · have hcell : ∀ v : Value, True := fun _ => trivial
      have hfz : ∀ i : Nat, i = 9 - k → wr.frozen? ⟨w.heap.size, i, none⟩ = false := by
        intro i hi
        simp [World.frozen?, hbk]
      have hget : ∀ i : Nat, i = 9 - k → ∃ c, wr.cell? ⟨w.heap.size, i, none⟩ = some c := by
        intro i hi
        rw [Joins.cell_of_block hbk i]
        exact ⟨_, by simpa using bv_get (rowz k m) i (by rw [rowz_length _ _ hk]; omega)⟩
      have hset := fun (i : Nat) (hi : i = 9 - k) (v : Value) => Joins.block_setCell (i := i) hbk v
      generalize hq : m / 10 ^ k = q at *
      have hqm : q ≤ 2147483647 := by rw [← hq]; exact Nat.le_trans (Nat.div_le_self _ _) hm
      have t1 : ((q : Int)).tmod 10 = ((q % 10 : Nat) : Int) := by rw [Int.tmod_eq_emod_of_nonneg (by omega)]; omega
      have t2 : ((q : Int)).tdiv 10 = ((q / 10 : Nat) : Int) := by rw [Int.tdiv_eq_ediv_of_nonneg (by omega)]; omega
      obtain ⟨c0, g1⟩ := hget _ rfl
      have g2 := hfz _ rfl
      have c1 : (0 : Int) ≤ 9 - (k : Int) := by omega
      have c2 : 9 - (k : Int) < 10 := by omega
      have c3 : (9 - (k : Int)).toNat = 9 - k := by omega
      clear hget hfz hcell
      go_wp2
      have hv : (48 + (q : Int) % 10) = ((UInt8.ofNat (48 + q % 10)).toNat : Int) := by
        rw [UInt8.toNat_ofNat']; omega
      have hd : q / 10 = m / 10 ^ (k + 1) := by rw [← hq, Nat.pow_succ, Nat.div_div_eq_div_mul]
      refine ⟨⟨k + 1, by omega, ?_, ?_, ?_, ?_, ?_⟩, ?_⟩
      · rw [← hd]; rfl
      · rw [show (9 - (k : Int) - 1) = 9 - ((k + 1 : Nat) : Int) by omega]
      · simpa [World.setCell] using hsz'
      · exact hf.setCell (fun h => by simp at h) _
      · rw [hset _ rfl, hv, bv_set, ← hq, rowz_set _ _ hk9]
      · simp [intOf]; omega
    · obtain rfl : k = 10 := by omega
      have hch := fun W h => refcheck_calls (p ++ low 10 m) W h (by simp; omega)
      rw [hb] at hch
      rw [show rowz 10 m = low 10 m from rfl] at hbk
      have hrd : Rd wr w.heap.size (w.heap.size + 1) (some ⟨w.heap.size, 0, none⟩) (low 10 m) := fun _ => ⟨w.heap.size, 0, rfl, Nat.le_refl _, by omega, fun i hi => by
        rw [Nat.zero_add, Joins.cell_of_block hbk i]
        have := bv_get (low 10 m) i hi
        simpa using this⟩
      have hcv := conv_string (P := Tryd.prog) (src := 31) (dst := 9) (e := 5) (c := 10) Tryd.underlying31 Tryd.underlying5 Tryd.underlying9 hrd
      rw [low_length] at hcv
      have happ : ByteArray.mk p.toArray ++ ByteArray.mk (low 10 m).toArray = ByteArray.mk (p ++ low 10 m).toArray := mk_app p (low 10 m)
      have hz1 : ¬ 9223372036854775807 < (ByteArray.mk p.toArray).size + (ByteArray.mk (low 10 m).toArray).size := by rw [mk_size, mk_size, low_length]; omega
      have hM' := hM.fr hf
      clear hrd hbk hsz
      generalize ByteArray.mk (low 10 m).toArray = D at hcv happ hz1
      generalize ByteArray.mk (p ++ low 10 m).toArray = XA at hch happ hR
      generalize ByteArray.mk p.toArray = PA at happ hz1
      cases b
      · simp only [Bool.false_eq_true, if_false] at hR
        subst hR
        go_wp2_with ((with_reducible refine (hch _ hM').mono ?_); rintro e w1 ⟨rfl, f1⟩)
        go_ret2
        exact ⟨rfl, hf.then f1⟩
      · simp only [if_true] at hR
        subst hR
        go_wp2_with ((with_reducible refine (hch _ hM').mono ?_); rintro e w1 ⟨rfl, f1⟩)
        go_ret2
        exact ⟨rfl, hf.then f1⟩

theorem refnumber_no (p : List UInt8) (n : Int) (w : World) (hl : p.length ≤ 140737488355328) (h : 200 < p.length ∨ n < 0 ∨ 2147483647 < n) :
    Calls Tryd.prog 8 #[.string ⟨p.toArray⟩, .int .i64 n] w fun e w' => e = .returned (.tuple #[.string ⟨#[]⟩, .bool false]) ∧ Fr NoB w w' := by
  have hsz : (ByteArray.mk p.toArray).size = p.length := mk_size p
  generalize ByteArray.mk p.toArray = S at *
  generalize p.length = k at *
  have hki : (k : Int) ≤ 140737488355328 := by omega
  by_cases h1 : 200 < (k : Int)
  · go_enter Tryd.func8, Tryd.ntmps8
    go_wp2
    all_goals go_ret2
    all_goals exact ⟨rfl, Fr.refl _ _⟩
  · by_cases h2 : n < 0
    · go_enter Tryd.func8, Tryd.ntmps8
      go_wp2
      all_goals go_ret2
      all_goals exact ⟨rfl, Fr.refl _ _⟩
    · have h3 : 2147483647 < n := by omega
      go_enter Tryd.func8, Tryd.ntmps8
      go_wp2
      all_goals go_ret2
      all_goals exact ⟨rfl, Fr.refl _ _⟩
theorem refnumber_calls (p : List UInt8) (n : Int) (w : World) (hM : Max w) (hl : p.length ≤ 140737488355328) :
    Calls Tryd.prog 8 #[.string ⟨p.toArray⟩, .int .i64 n] w fun e w' => e = .returned (.tuple #[.string ⟨(num p n).1.toArray⟩, .bool (num p n).2]) ∧ Fr NoB w w' := by
  by_cases h : 200 < p.length ∨ n < 0 ∨ 2147483647 < n
  · have hn : num p n = ([], false) := by
      unfold num
      rw [if_neg]
      rintro ⟨h1, h2, h3⟩
      have := (chk_slash h3).2
      rw [List.length_append, low_length] at this
      omega
    rw [hn]
    exact refnumber_no p n w hl h
  · simp only [not_or, Int.not_lt, Nat.not_lt] at h
    obtain ⟨m, rfl⟩ : ∃ m : Nat, n = (m : Int) := ⟨n.toNat, by omega⟩
    refine refnumber_yes p m w hM h.1 (by omega) _ ?_ _ ?_
    · unfold num
      by_cases hc : chk (p ++ low 10 m) = true
      · rw [if_pos ⟨by omega, by omega, hc⟩]; exact hc
      · rw [if_neg (fun x => hc x.2.2)]; simpa using hc
    · unfold num
      by_cases hc : chk (p ++ low 10 m) = true
      · rw [if_pos ⟨by omega, by omega, hc⟩]; rfl
      · rw [if_neg (fun x => hc x.2.2)]; rfl

set_option maxRecDepth 8000 in
set_option maxHeartbeats 3200000 in
theorem numbers_walk (p : List UInt8) (n : Int) (w : World) (hM : Max w) (hl : p.length ≤ 140737488355328) :
    Calls Tryd.prog 3 #[.string ⟨p.toArray⟩, .int .i64 n] w fun e w' => e = .returned (.bool true) ∧ Fr NoB w w' := by
  have hf : Fr NoB w w := Fr.refl _ _
  have c1 := fun W => number_calls p n W hl
  have c2 := fun W h => refnumber_calls p n W h hl
  have hsz : (ByteArray.mk p.toArray).size = p.length := mk_size p
  generalize ByteArray.mk p.toArray = S at *
  generalize ByteArray.mk (num p n).1.toArray = R at *
  generalize (num p n).2 = b at *
  generalize p.length = k at *
  have hki : (k : Int) ≤ 140737488355328 := by omega
  go_enter Tryd.func3, Tryd.ntmps3
  go_wp2_with (first | ((with_reducible refine (awake_calls _).mono ?_); rintro e w1 ⟨rfl, f⟩; replace hf := hf.then f; clear f) | ((with_reducible refine (c1 _).mono ?_); rintro e w1 ⟨rfl, f⟩; replace hf := hf.then f; clear f) | ((with_reducible refine (c2 _ (hM.fr hf)).mono ?_); rintro e w1 ⟨rfl, f⟩; replace hf := hf.then f; clear f))
  all_goals go_ret
  all_goals exact ⟨rfl, hf⟩

theorem max_of {w : World} (h : ∃ m, w.cell? ⟨0, 0, none⟩ = some (.int .i64 m)) : Max w := by
  refine ⟨h, ?_⟩
  rcases Nat.eq_zero_or_pos w.heap.size with h0 | h0
  · exfalso
    obtain ⟨m, hm⟩ := h
    have : w.heap[0]? = none := by rw [Array.getElem?_eq_none_iff]; omega
    simp [World.cell?, this] at hm
  · exact h0
end Go.Proofs.YtbfcggcfabkbjaaDoor

/-
  Ptg: path.Number: what it answers of any text and any number.
-/
import Derived.Test.YtbfcggcfabkbjaaDoorPtf
import Derived.Lib.SlBytesConst
import Derived.Lib.SmallJoins
namespace Go.Proofs.YtbfcggcfabkbjaaDoor
open Go.RowKit Go.Shelf

/-- The last k digits of a number. -/
def low : Nat → Nat → List UInt8
  | 0, _ => []
  | k + 1, n => UInt8.ofNat (48 + n / 10 ^ k % 10) :: low k n
@[simp] theorem low_length (n : Nat) : ∀ k, (low k n).length = k
  | 0 => rfl
  | k + 1 => by simp [low, low_length n k]
/-- The row of digits when k of them stand. -/
def row (k n : Nat) : List UInt8 := List.replicate (10 - k) 48 ++ low k n
theorem row_length (k n : Nat) (h : k ≤ 10) : (row k n).length = 10 := by simp [row]; omega
theorem row_get (k n i : Nat) (h : i + k < 10) : (row k n).getD i 0 = 48 := by
  unfold row
  rw [List.getD_eq_getElem?_getD, List.getElem?_append_left (by simp; omega)]
  simp [show i < 10 - k by omega]
theorem row_set (k n : Nat) (h : k < 10) : (row k n).set (9 - k) (UInt8.ofNat (48 + n / 10 ^ k % 10)) = row (k + 1) n := by
  unfold row
  rw [show 10 - k = (9 - k) + 1 by omega, List.replicate_succ', List.append_assoc, List.set_append_right _ _ (by simp)]
  rw [show 10 - (k + 1) = 9 - k by omega]
  simp [low]
theorem row_all (n k : Nat) (h : n / 10 ^ k = 0) : ∀ d, k + d ≤ 10 → row (k + d) n = row k n
  | 0, _ => rfl
  | d + 1, hd => by
    have := row_all n k h d (by omega)
    rw [← this, show k + (d + 1) = (k + d) + 1 by omega, ← row_set (k + d) n (by omega)]
    have h0 : n / 10 ^ (k + d) = 0 := by rw [Nat.pow_add, ← Nat.div_div_eq_div_mul, h, Nat.zero_div]
    rw [h0]
    apply List.ext_getElem
    · simp
    · intro i h1 h2
      rw [List.getElem_set]
      split
      · rename_i hi
        subst hi
        have := row_get (k + d) n (9 - (k + d)) (by omega)
        rw [List.getD_eq_getElem?_getD, List.getElem?_eq_getElem h2] at this
        exact this.symm
      · rfl

/-- A path with ten digits behind it: what is told. -/
def num (p : List UInt8) (n : Int) : List UInt8 × Bool := if 0 ≤ n ∧ n ≤ 2147483647 ∧ chk (p ++ low 10 n.toNat) = true then (p ++ low 10 n.toNat, true) else ([], false)

theorem bv_set (l : List UInt8) (i : Nat) (x : UInt8) : (bv l).toArray.setIfInBounds i (.int .u8 (x.toNat : Int)) = (bv (l.set i x)).toArray := by
  simp [bv, List.map_set]

set_option maxRecDepth 8000 in
set_option maxHeartbeats 3200000 in
theorem number_calls (p : List UInt8) (n : Int) (w : World) (hl : p.length ≤ 140737488355328) :
    Calls Tryd.prog 7 #[.string ⟨p.toArray⟩, .int .i64 n] w fun e w' => e = .returned (.tuple #[.string ⟨(num p n).1.toArray⟩, .bool (num p n).2]) ∧ Fr NoB w w' := by
  by_cases h0 : n < 0
  · have hn : num p n = ([], false) := by unfold num; rw [if_neg (by omega)]
    rw [hn]
    go_enter Tryd.func7, Tryd.ntmps7
    go_wp2
    go_ret2
    exact ⟨rfl, Fr.refl _ _⟩
  by_cases h1 : 2147483647 < n
  · have hn : num p n = ([], false) := by unfold num; rw [if_neg (by omega)]
    rw [hn]
    go_enter Tryd.func7, Tryd.ntmps7
    go_wp2
    go_ret2
    exact ⟨rfl, Fr.refl _ _⟩
  obtain ⟨m, rfl⟩ : ∃ m : Nat, n = (m : Int) := ⟨n.toNat, by omega⟩
  have hm : m ≤ 2147483647 := by omega
  have hnum : num p (m : Int) = if chk (p ++ low 10 m) = true then (p ++ low 10 m, true) else ([], false) := by
    unfold num
    simp only [Int.toNat_natCast]
    by_cases h : chk (p ++ low 10 m) = true
    · rw [if_pos h, if_pos ⟨by omega, by omega, h⟩]
    · rw [if_neg h, if_neg (fun x => h x.2.2)]
  rw [hnum]
  clear hnum
  have r1 : chk (p ++ low 10 m) = true → Ending.returned (.tuple #[.string ⟨(if chk (p ++ low 10 m) = true then (p ++ low 10 m, true) else ([], false)).1.toArray⟩, .bool (if chk (p ++ low 10 m) = true then (p ++ low 10 m, true) else ([], false)).2]) = Ending.returned (.tuple #[.string ⟨(p ++ low 10 m).toArray⟩, .bool true]) := fun h => by rw [if_pos h]
  have r2 : chk (p ++ low 10 m) = false → Ending.returned (.tuple #[.string ⟨(if chk (p ++ low 10 m) = true then (p ++ low 10 m, true) else ([], false)).1.toArray⟩, .bool (if chk (p ++ low 10 m) = true then (p ++ low 10 m, true) else ([], false)).2]) = Ending.returned (.tuple #[.string ⟨#[]⟩, .bool false]) := fun h => by rw [if_neg (by rw [h]; decide)]
  generalize Ending.returned (.tuple #[.string ⟨(if chk (p ++ low 10 m) = true then (p ++ low 10 m, true) else ([], false)).1.toArray⟩, .bool (if chk (p ++ low 10 m) = true then (p ++ low 10 m, true) else ([], false)).2]) = EE at r1 r2
  have kc := fun (w : World) (C : Array Value) (n c : Nat) => Lib.run_convert_bytes_const (P := Tryd.prog) w 31 5 C n c Tryd.underlying31 Tryd.underlying5
  go_enter Tryd.func7, Tryd.ntmps7
  go_wp2
  go_loopw [1, 7] (fun n' i W => ∃ k : Nat, k ≤ 10 ∧ n' = .int .i64 ((m / 10 ^ k : Nat) : Int) ∧ i = .int .i64 (9 - (k : Int)) ∧ w.heap.size < W.heap.size ∧ Fr NoB w W ∧ W.heap[w.heap.size]? = some (.cells (bv (row k m)).toArray 5 (10, 11))) (fun n' _ _ => (intOf n').toNat)
  case atStart =>
    refine ⟨0, by omega, by simp, by simp, by simp, (Fr.refl _ _).alloc _, ?_⟩
    show (w.heap.push _)[w.heap.size]? = _
    rw [Array.getElem?_push_size]
    rfl
  case round =>
    obtain ⟨k, hk, rfl, rfl, hsz, hf, hb⟩ := hrel
    by_cases hz : m / 10 ^ k = 0
    · have hrow : row k m = low 10 m := by
        rw [← row_all m k hz (10 - k) (by omega), show k + (10 - k) = 10 by omega]
        rfl
      rw [hz]
      rw [hrow] at hb
      have hch := fun W => check_calls (p ++ low 10 m) W (by simp; omega)
      have hrd : Rd wr w.heap.size (w.heap.size + 1) (some ⟨w.heap.size, 0, none⟩) (low 10 m) := fun _ => ⟨w.heap.size, 0, rfl, Nat.le_refl _, by omega, fun i hi => by
        rw [Nat.zero_add, Joins.cell_of_block hb i]
        have := bv_get (low 10 m) i hi
        simpa using this⟩
      have hcv := conv_string (P := Tryd.prog) (src := 31) (dst := 9) (e := 5) (c := 10) Tryd.underlying31 Tryd.underlying5 Tryd.underlying9 hrd
      rw [low_length] at hcv
      have happ : ByteArray.mk p.toArray ++ ByteArray.mk (low 10 m).toArray = ByteArray.mk (p ++ low 10 m).toArray := mk_app p (low 10 m)
      have hz1 : ¬ 9223372036854775807 < (ByteArray.mk p.toArray).size + (ByteArray.mk (low 10 m).toArray).size := by rw [mk_size, mk_size, low_length]; omega
      clear hrd hrow hb
      generalize ByteArray.mk (low 10 m).toArray = D at hcv happ hz1
      generalize hX : p ++ low 10 m = X at hch happ r1 r2
      clear hX
      by_cases hc : chk X = true
      · rw [hc] at hch
        replace r1 := r1 hc
        clear r2
        generalize ByteArray.mk X.toArray = XA at hch happ r1
        generalize ByteArray.mk p.toArray = PA at happ hz1
        go_wp2_with (refine (hch _).mono ?_; rintro e w1 ⟨rfl, f1⟩)
        go_ret2
        exact ⟨r1.symm, hf.then f1⟩
      · rw [Bool.not_eq_true] at hc
        rw [hc] at hch
        replace r2 := r2 hc
        clear r1
        generalize ByteArray.mk X.toArray = XA at hch happ
        generalize ByteArray.mk p.toArray = PA at happ hz1
        go_wp2_with (refine (hch _).mono ?_; rintro e w1 ⟨rfl, f1⟩)
        go_ret2
        exact ⟨r2.symm, hf.then f1⟩
    · have hk9 : k < 10 := by
        rcases Nat.lt_or_ge k 10 with h | h
        · exact h
        · exfalso
          obtain rfl : k = 10 := by omega
          exact hz (Nat.div_eq_of_lt (by omega))
      have hget : ∀ i : Nat, i = 9 - k → wr.cell? ⟨w.heap.size, i, none⟩ = some (.int .u8 48) := by
        intro i hi
        rw [Joins.cell_of_block hb i]
        have := bv_get (row k m) i (by rw [row_length _ _ hk]; omega)
        rw [row_get _ _ _ (by omega)] at this
        simpa using this
      have hfz : ∀ i : Nat, i = 9 - k → wr.frozen? ⟨w.heap.size, i, none⟩ = false := by
        intro i hi
        simp [World.frozen?, hb]; omega
      have hset := fun (i : Nat) (hi : i = 9 - k) (v : Value) => Joins.block_setCell (i := i) hb v
      generalize hq : m / 10 ^ k = q at *
      have hqm : q ≤ 2147483647 := by rw [← hq]; exact Nat.le_trans (Nat.div_le_self _ _) hm
      have t1 : ((q : Int)).tmod 10 = ((q % 10 : Nat) : Int) := by rw [Int.tmod_eq_emod_of_nonneg (by omega)]; omega
      have t2 : ((q : Int)).tdiv 10 = ((q / 10 : Nat) : Int) := by rw [Int.tdiv_eq_ediv_of_nonneg (by omega)]; omega
      have g1 := hget _ rfl
      have g2 := hfz _ rfl
      have c1 : (0 : Int) ≤ 9 - (k : Int) := by omega
      have c2 : 9 - (k : Int) < 10 := by omega
      have c3 : (9 - (k : Int)).toNat = 9 - k := by omega
      clear hget hfz
      go_wp2
      have hv : (48 + (q : Int) % 10) = ((UInt8.ofNat (48 + q % 10)).toNat : Int) := by
        rw [UInt8.toNat_ofNat']; omega
      have hd : q / 10 = m / 10 ^ (k + 1) := by rw [← hq, Nat.pow_succ, Nat.div_div_eq_div_mul]
      refine ⟨⟨k + 1, by omega, ?_, ?_, ?_, ?_, ?_⟩, ?_⟩
      · rw [← hd]; rfl
      · rw [show (9 - (k : Int) - 1) = 9 - ((k + 1 : Nat) : Int) by omega]
      · simpa [World.setCell] using hsz
      · exact hf.setCell (fun h => by simp at h) _
      · rw [hset _ rfl, hv, bv_set, ← hq, row_set _ _ hk9]
      · simp [intOf]; omega
end Go.Proofs.YtbfcggcfabkbjaaDoor

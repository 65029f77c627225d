/-
  Turp: frames that are turned, or cut off, are none: on lists of bytes, no program in sight.
-/
import Derived.Test.YtmklmjggichfhaaDoorBurst
namespace Go.Proofs.YtmklmjggichfhaaDoor
open Go.RowKit

theorem numB_four (p r : List UInt8) (h : p.length = 4) : numB (p ++ r) = numB p := by
  match p, h with
  | [a, b, c, d], _ => rfl
theorem numB_fourB (n : Nat) (h : n < 4294967296) : numB (fourB n) = n := by
  simp only [fourB, numB, UInt8.toNat_ofNat']
  omega
theorem numB_inj {p s : List UInt8} (hp : p.length = 4) (hs : s.length = 4) (h : numB p = numB s) : p = s := by
  match p, hp, s, hs with
  | [a, b, c, d], _, [e, f, g, i], _ =>
    simp only [numB] at h
    have := a.toNat_lt; have := b.toNat_lt; have := c.toNat_lt; have := d.toNat_lt
    have := e.toNat_lt; have := f.toNat_lt; have := g.toNat_lt; have := i.toNat_lt
    rw [UInt8.toNat_inj.1 (by omega : a.toNat = e.toNat), UInt8.toNat_inj.1 (by omega : b.toNat = f.toNat), UInt8.toNat_inj.1 (by omega : c.toNat = g.toNat), UInt8.toNat_inj.1 (by omega : d.toNat = i.toNat)]
theorem unframe_parts (p s x : List UInt8) (hp : p.length = 4) (hs : s.length = 4) :
    unframe (p ++ (s ++ x)) = if 1048576 < numB p ∨ x.length < numB p then none else if (crc (x.take (numB p))).toNat = numB s then some (x.take (numB p)) else none := by
  have h1 : (p ++ (s ++ x)).length = x.length + 8 := by simp; omega
  have h2 : (p ++ (s ++ x)).drop 4 = s ++ x := by rw [List.drop_append_of_le_length (by omega), List.drop_of_length_le (by omega)]; rfl
  have h3 : (p ++ (s ++ x)).drop 8 = x := by rw [show 8 = 4 + 4 by rfl, ← List.drop_drop, h2, List.drop_append_of_le_length (by omega), List.drop_of_length_le (by omega)]; rfl
  unfold unframe
  rw [h1, h2, h3, if_neg (by omega), numB_four p _ hp, numB_four s _ hs, show x.length + 8 - 8 = x.length by omega]
theorem crc_lt (l : List UInt8) : (crc l).toNat < 4294967296 := (crc l).isLt
theorem unframe_more (b more : List UInt8) (hb : b.length ≤ 1048576) : unframe (frameB b ++ more) = some b := by
  unfold frameB
  rw [List.append_assoc, List.append_assoc, unframe_parts _ _ _ rfl rfl, numB_fourB _ (by omega), numB_fourB _ (crc_lt b), if_neg (by simp; omega), List.take_append_of_le_length (Nat.le_refl _), List.take_of_length_le (Nat.le_refl _), if_pos rfl]
theorem getD_right {p r : List UInt8} {q : Nat} (h : p.length ≤ q) : (p ++ r).getD q 0 = r.getD (q - p.length) 0 := by
  simp [List.getD, List.getElem?_append_right h]
theorem set_ne {l : List UInt8} {q : Nat} {y : UInt8} (hq : q < l.length) (hy : y ≠ l.getD q 0) : l.set q y ≠ l := fun e => by
  apply hy
  have h := congrArg (fun m : List UInt8 => m.getD q 0) e
  simp only [List.getD, List.getElem?_set_self hq, Option.getD_some] at h
  rw [h]; rfl
theorem set_parts {l : List UInt8} {q : Nat} (y : UInt8) (hq : q < l.length) : l.set q y = l.take q ++ ([y] ++ l.drop (q + 1)) := by
  rw [List.set_eq_take_append_cons_drop, if_pos hq]; rfl
theorem self_parts {l : List UInt8} {q : Nat} (hq : q < l.length) : l = l.take q ++ ([l.getD q 0] ++ l.drop (q + 1)) := by
  have h := set_parts (l.getD q 0) hq
  rw [← h]
  have : l.getD q 0 = l[q] := by simp [List.getD, hq]
  rw [this, List.set_getElem_self]
theorem crc_set {l : List UInt8} {q : Nat} {y : UInt8} (hq : q < l.length) (hy : y ≠ l.getD q 0) : (crc (l.set q y)).toNat ≠ (crc l).toNat := by
  apply crc_not
  rw [set_parts y hq]
  conv => rhs; rw [self_parts hq]
  exact crc_ne _ _ _ (turn1 hy)
theorem turned_none (b : List UInt8) (q : Nat) (y : UInt8) (hb : b.length ≤ 1048576) (h4 : 4 ≤ q) (hq : q < (frameB b).length) (hy : y ≠ (frameB b).getD q 0) : unframe ((frameB b).set q y) = none := by
  unfold frameB at hq hy ⊢
  rw [getD_right (by exact h4)] at hy
  rw [show ∀ n, (fourB n).length = 4 from fun _ => rfl] at hy
  rw [List.set_append, if_neg (by rw [fourB_length]; omega), fourB_length, List.set_append]
  by_cases h8 : q - 4 < 4
  · rw [if_pos (by rw [fourB_length]; exact h8), unframe_parts _ _ _ rfl (by rw [List.length_set]; rfl), numB_fourB _ (by omega), if_neg (by omega), List.take_of_length_le (Nat.le_refl _), if_neg]
    intro e
    have e2 : numB (fourB (crc b).toNat) = numB ((fourB (crc b).toNat).set (q - 4) y) := by rw [numB_fourB _ (crc_lt b), ← e]
    have e3 := numB_inj rfl (by rw [List.length_set]; rfl) e2
    refine set_ne (l := fourB (crc b).toNat) (q := q - 4) (y := y) (by rw [fourB_length]; exact h8) ?_ e3.symm
    rw [show (fourB (crc b).toNat).getD (q - 4) 0 = (fourB (crc b).toNat ++ b).getD (q - 4) 0 by simp [List.getD, List.getElem?_append_left (show q - 4 < (fourB (crc b).toNat).length by rw [fourB_length]; exact h8)]]
    exact hy
  · have hq2 : q - 4 - 4 < b.length := by simp [fourB_length] at hq; omega
    rw [getD_right (by rw [fourB_length]; omega), fourB_length] at hy
    rw [if_neg (by rw [fourB_length]; exact h8), fourB_length, unframe_parts _ _ _ rfl rfl, numB_fourB _ (by omega), numB_fourB _ (crc_lt b), if_neg (by rw [List.length_set]; omega), List.take_of_length_le (by rw [List.length_set]; exact Nat.le_refl _), if_neg (crc_set hq2 hy)]
theorem cut_none (b : List UInt8) (q : Nat) (hb : b.length ≤ 1048576) (hq : q < (frameB b).length) : unframe ((frameB b).take q) = none := by
  by_cases h8 : q < 8
  · unfold unframe
    rw [if_pos (by rw [List.length_take]; omega)]
  · unfold frameB at hq ⊢
    simp [fourB_length] at hq
    rw [List.take_append, List.take_append, List.take_of_length_le (by rw [fourB_length]; omega), List.take_of_length_le (by rw [fourB_length, fourB_length]; omega), fourB_length, fourB_length, unframe_parts _ _ _ rfl rfl, numB_fourB _ (by omega), if_pos (by rw [List.length_take]; omega)]
theorem unframe_len {c x : List UInt8} (h : unframe c = some x) : 8 + x.length ≤ c.length := by
  unfold unframe at h
  split at h
  · cases h
  · split at h
    · cases h
    · split at h
      · cases h
        rw [List.length_take, List.length_drop]
        omega
      · cases h

/-- Bytes, j of four at k turned by a mask. -/
def dN (b : List UInt8) (k m : Nat) : Nat → List UInt8
  | 0 => b
  | j + 1 => (dN b k m j).set (k + j) (b.getD (k + j) 0 ^^^ UInt8.ofNat (m / 256 ^ j))
theorem dN_len (b : List UInt8) (k m j : Nat) : (dN b k m j).length = b.length := by
  induction j with
  | zero => rfl
  | succ j ih => rw [dN, List.length_set, ih]
theorem dN_at (b : List UInt8) (k m j i : Nat) (h : k + j ≤ i) : (dN b k m j).getD i 0 = b.getD i 0 := by
  induction j with
  | zero => rfl
  | succ j ih =>
    rw [← ih (by omega), dN, List.getD, List.getElem?_set_ne (by omega)]
    rfl
theorem dN_sum (b : List UInt8) (k m : Nat) (hk : k + 4 ≤ b.length) (hm : m < 4294967296) (h0 : m ≠ 0) : (crc (dN b k m 4)).toNat ≠ (crc b).toNat := by
  have hb : b = b.take k ++ ([b.getD k 0, b.getD (k + 1) 0, b.getD (k + 2) 0, b.getD (k + 3) 0] ++ b.drop (k + 4)) := by
    have e : ∀ i, i < b.length → b.drop i = b.getD i 0 :: b.drop (i + 1) := fun i hi => by
      rw [List.drop_eq_getElem_cons hi]
      simp [List.getD, hi]
    conv => lhs; rw [← List.take_append_drop k b, e k (by omega), e (k + 1) (by omega), e (k + 2) (by omega), e (k + 3) (by omega)]
    rfl
  generalize hp : b.take k = p at hb
  have hpl : p.length = k := by rw [← hp, List.length_take]; omega
  generalize b.drop (k + 4) = r at hb
  have hd : dN b k m 4 = p ++ (zipX [b.getD k 0, b.getD (k + 1) 0, b.getD (k + 2) 0, b.getD (k + 3) 0] (fourB m) ++ r) := by
    simp only [dN]
    generalize b.getD k 0 = x0 at hb ⊢
    generalize b.getD (k + 1) 0 = x1 at hb ⊢
    generalize b.getD (k + 2) 0 = x2 at hb ⊢
    generalize b.getD (k + 3) 0 = x3 at hb ⊢
    generalize b.getD (k + 0) 0 = y0 at hb ⊢
    rw [hb]
    subst hpl
    simp [zipX, fourB]
  rw [hd]
  conv => rhs; rw [hb]
  apply crc_not
  exact crc_ne _ _ _ (burst _ _ rfl (by rw [fourB_length]; omega) (by
    show lowN (fourB m) ≠ 0
    simp only [fourB, lowN, UInt8.toNat_ofNat']
    omega))

end Go.Proofs.YtmklmjggichfhaaDoor

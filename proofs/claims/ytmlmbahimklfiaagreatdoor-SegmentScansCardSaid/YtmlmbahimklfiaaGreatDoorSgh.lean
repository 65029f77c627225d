/-
  Sgh: Sga, Sgh.
-/
import Derived.Test.YtmlmbahimklfiaaGreatDoorTurp
import Derived.Test.YtmlmbahimklfiaaGreatDoorDpa
/- Sga -/
namespace Go.Proofs.YtmlmbahimklfiaaGreatDoor
open Go.RowKit

/-- A deed and its parts. -/
abbrev De := Fd × List (Fd × Nat)
/-- A deed's bytes. -/
def deB (d : De) : List UInt8 := deedB d.1 d.2
/-- Deeds put one behind the other. -/
def segB (l : List De) : List UInt8 := l.flatMap fun d => frameB (deB d)
/-- How many bytes a deed takes. -/
def segN (d : De) : Nat := (frameB (deB d)).length
theorem segB_cons (d : De) (l : List De) : segB (d :: l) = frameB (deB d) ++ segB l := rfl
theorem segB_append (a b : List De) : segB (a ++ b) = segB a ++ segB b := by simp [segB]
theorem frameB_len (x : List UInt8) : (frameB x).length = 8 + x.length := by simp [frameB, fourB_length]; omega
/-- The deeds that bytes begin with, whose zxids rise from last on. -/
def scanF : Nat → Int → List UInt8 → List De
  | 0, _, _ => []
  | n + 1, last, b =>
    match unframe b with
    | none => []
    | some x =>
      match getD x with
      | none => []
      | some d => if d.1.z ≤ last then [] else d :: scanF n d.1.z (b.drop (8 + x.length))
def scan (b : List UInt8) : List De := scanF (b.length + 1) 0 b
/-- A right deed that may be. -/
def RightD (d : De) : Prop := Right d.1 d.2 ∧ d.1.Ok ∧ ∀ q ∈ d.2, q.1.Ok ∧ q.2 = 0
theorem getD_rightD {x : List UInt8} {d : De} (h : getD x = some d) : deB d = x ∧ RightD d := by
  obtain ⟨f, l⟩ := d
  obtain ⟨h1, h2, h3, h4⟩ := getD_back h
  exact ⟨h1, h2, h3, h4⟩
theorem RightD.get {d : De} (h : RightD d) : getD (deB d) = some d := getD_front h.1 h.2.1 (fun q hq => (h.2.2 q hq).1)
theorem RightD.len {d : De} (h : RightD d) : (deB d).length ≤ 700000 := deedB_len h.1
theorem deB_pos (d : De) : 1 ≤ (deB d).length := by simp [deB, deedB, headB]
/-- Zxids that rise from last on. -/
def Rise : Int → List De → Prop
  | _, [] => True
  | last, d :: l => last < d.1.z ∧ Rise d.1.z l
def lastZ : Int → List De → Int
  | last, [] => last
  | _, d :: l => lastZ d.1.z l
theorem unframe_back {b x : List UInt8} (h : unframe b = some x) : b = frameB x ++ b.drop (8 + x.length) := by
  have h8 : ¬ b.length < 8 := fun hx => by unfold unframe at h; rw [if_pos hx] at h; cases h
  have hb : b = b.take 4 ++ ((b.drop 4).take 4 ++ b.drop 8) := by
    rw [show b.drop 8 = (b.drop 4).drop 4 by rw [List.drop_drop], List.take_append_drop, List.take_append_drop]
  have hp : (b.take 4).length = 4 := by rw [List.length_take]; omega
  have hs : ((b.drop 4).take 4).length = 4 := by rw [List.length_take, List.length_drop]; omega
  have hd8 : (b.drop 8).length = b.length - 8 := List.length_drop ..
  rw [hb, unframe_parts _ _ _ hp hs] at h
  split at h
  · cases h
  · rename_i hc
    split at h
    · rename_i hq
      simp only [Option.some.injEq] at h
      have hxl : x.length = numB (b.take 4) := by rw [← h, List.length_take]; omega
      have e1 : b.take 4 = fourB x.length := numB_inj hp rfl (by rw [hxl, numB_fourB _ (numB_lt _)])
      have e2 : (b.drop 4).take 4 = fourB (crc x).toNat := numB_inj hs rfl (by rw [← h, numB_fourB _ (crc_lt _), hq])
      have e3 : b.drop 8 = x ++ b.drop (8 + x.length) := by
        rw [← List.drop_drop, hxl]
        conv => lhs; rw [← List.take_append_drop (numB (b.take 4)) (b.drop 8)]
        rw [h]
      conv => lhs; rw [hb, e1, e2, e3]
      simp [frameB]
    · cases h
theorem scanF_none {n : Nat} {last : Int} {b : List UInt8} (h : unframe b = none) : scanF n last b = [] := by
  cases n with
  | zero => rfl
  | succ n => simp only [scanF, h]
theorem scanF_nog {n : Nat} {last : Int} {b x : List UInt8} (hu : unframe b = some x) (hg : getD x = none) : scanF n last b = [] := by
  cases n with
  | zero => rfl
  | succ n => simp only [scanF, hu, hg]
theorem scanF_le {n : Nat} {last : Int} {b x : List UInt8} {d : De} (hu : unframe b = some x) (hg : getD x = some d) (hz : d.1.z ≤ last) : scanF n last b = [] := by
  cases n with
  | zero => rfl
  | succ n => simp only [scanF, hu, hg, if_pos hz]
theorem scanF_one {n : Nat} {last : Int} {b x : List UInt8} {d : De} (hu : unframe b = some x) (hg : getD x = some d) (hz : ¬ d.1.z ≤ last) : scanF (n + 1) last b = d :: scanF n d.1.z (b.drop (8 + x.length)) := by
  simp only [scanF, hu, hg, if_neg hz]
theorem scanF_back : ∀ (n : Nat) (last : Int) (b : List UInt8), b = segB (scanF n last b) ++ b.drop (segB (scanF n last b)).length ∧ (∀ d ∈ scanF n last b, RightD d) ∧ Rise last (scanF n last b)
  | 0, last, b => by simp [scanF, segB, Rise]
  | n + 1, last, b => by
    cases hu : unframe b with
    | none => rw [scanF_none hu]; simp [segB, Rise]
    | some x =>
      cases hg : getD x with
      | none => rw [scanF_nog hu hg]; simp [segB, Rise]
      | some d =>
        by_cases hz : d.1.z ≤ last
        · rw [scanF_le hu hg hz]; simp [segB, Rise]
        · rw [scanF_one hu hg hz]
          obtain ⟨i1, i2, i3⟩ := scanF_back n d.1.z (b.drop (8 + x.length))
          obtain ⟨g1, g2⟩ := getD_rightD hg
          refine ⟨?_, fun e he => ?_, by omega, i3⟩
          · have hb := unframe_back hu
            generalize scanF n d.1.z (b.drop (8 + x.length)) = ds at i1
            rw [segB_cons, g1, List.length_append, frameB_len, show b.drop (8 + x.length + (segB ds).length) = (b.drop (8 + x.length)).drop (segB ds).length by rw [List.drop_drop], List.append_assoc, ← i1]
            exact hb
          · rcases List.mem_cons.1 he with rfl | he
            · exact g2
            · exact i2 e he
theorem unframe_front (d : De) (h : RightD d) (r : List UInt8) : unframe (frameB (deB d) ++ r) = some (deB d) := unframe_more _ _ (by have := h.len; omega)
theorem scanF_front : ∀ (ds : List De) (n : Nat) (last : Int) (r : List UInt8), (∀ d ∈ ds, RightD d) → Rise last ds → scanF (ds.length + n) last (segB ds ++ r) = ds ++ scanF n (lastZ last ds) r
  | [], n, last, r, _, _ => by simp [segB, lastZ]
  | d :: ds, n, last, r, hr, hi => by
    rw [segB_cons, List.append_assoc, show (d :: ds).length + n = (ds.length + n) + 1 by simp; omega]
    have hd := hr d (by simp)
    rw [scanF_one (unframe_front d hd _) hd.get (by have := hi.1; omega), List.drop_append_of_le_length (by rw [frameB_len]; omega), List.drop_of_length_le (by rw [frameB_len]; omega), List.nil_append, scanF_front ds n d.1.z r (fun e he => hr e (by simp [he])) hi.2]
    rfl
theorem segB_count (ds : List De) : 8 * ds.length ≤ (segB ds).length := by
  induction ds with
  | nil => simp
  | cons d ds ih => rw [segB_cons, List.length_append, frameB_len, List.length_cons]; omega
/-- Enough rounds are enough. -/
theorem scanF_fuel : ∀ (n m : Nat) (last : Int) (b : List UInt8), b.length < n → b.length < m → scanF n last b = scanF m last b
  | 0, _, _, _, h, _ => absurd h (by omega)
  | _ + 1, 0, _, _, _, h => absurd h (by omega)
  | n + 1, m + 1, last, b, h1, h2 => by
    cases hu : unframe b with
    | none => rw [scanF_none hu, scanF_none hu]
    | some x =>
      cases hg : getD x with
      | none => rw [scanF_nog hu hg, scanF_nog hu hg]
      | some d =>
        by_cases hz : d.1.z ≤ last
        · rw [scanF_le hu hg hz, scanF_le hu hg hz]
        · have := unframe_len hu
          rw [scanF_one hu hg hz, scanF_one hu hg hz, scanF_fuel n m d.1.z (b.drop (8 + x.length)) (by rw [List.length_drop]; omega) (by rw [List.length_drop]; omega)]
theorem scan_front {ds : List De} (hr : ∀ d ∈ ds, RightD d) (hi : Rise 0 ds) {r : List UInt8} (h : unframe r = none) : scan (segB ds ++ r) = ds := by
  have hc := segB_count ds
  unfold scan
  rw [show (segB ds ++ r).length + 1 = ds.length + ((segB ds ++ r).length + 1 - ds.length) by rw [List.length_append]; omega, scanF_front ds _ 0 r hr hi, scanF_none h, List.append_nil]
/-- A frame that is cut off within, with another byte there, is none. -/
theorem torn_none (x : List UInt8) (m : Nat) (y : UInt8) (h1 : 1 ≤ x.length) (h2 : x.length ≤ 1048576) (hm : m < (frameB x).length) (hy : y ≠ (frameB x).getD m 0) : unframe ((frameB x).take m ++ [y]) = none := by
  have hl := frameB_len x
  by_cases h8 : m + 1 < 8
  · unfold unframe
    rw [if_pos (by rw [List.length_append, List.length_take, List.length_singleton]; omega)]
  by_cases hlast : m + 1 = (frameB x).length
  · have e : (frameB x).take m ++ [y] = (frameB x).set m y := by
      rw [set_parts y hm, show (frameB x).drop (m + 1) = [] from List.drop_of_length_le (by omega), List.append_nil]
    rw [e]
    exact turned_none x m y h2 (by omega) hm hy
  · have e4 : ((frameB x).take m ++ [y]).take 4 = fourB x.length := by
      rw [List.take_append_of_le_length (by rw [List.length_take]; omega), List.take_take, Nat.min_eq_left (by omega)]
      unfold frameB
      rw [List.take_append_of_le_length (by rw [fourB_length]; omega), List.take_of_length_le (by rw [fourB_length]; omega)]
    have hn : numB ((frameB x).take m ++ [y]) = x.length := by
      rw [← List.take_append_drop 4 ((frameB x).take m ++ [y]), e4, numB_four _ _ rfl, numB_fourB _ (by omega)]
    unfold unframe
    rw [if_neg (by rw [List.length_append, List.length_take, List.length_singleton]; omega), hn, if_pos (by rw [List.length_append, List.length_take, List.length_singleton]; omega)]
theorem one_none (y : UInt8) : unframe [y] = none := by
  unfold unframe
  rw [if_pos (by simp)]
end Go.Proofs.YtmlmbahimklfiaaGreatDoor

/- Sgh -/
namespace Go.Proofs.YtmlmbahimklfiaaGreatDoor
open Go.RowKit

/-- Where each deed ends, from a on. -/
def endsOf : Nat → List De → List Nat
  | _, [] => []
  | a, d :: l => (a + segN d) :: endsOf (a + segN d) l
theorem endsOf_len (a : Nat) (l : List De) : (endsOf a l).length = l.length := by
  induction l generalizing a with
  | nil => rfl
  | cons d l ih => simp [endsOf, ih]
theorem endsOf_get (a : Nat) (l : List De) (i : Nat) (h : i < l.length) : (endsOf a l)[i]? = some (a + (segB (l.take (i + 1))).length) := by
  induction l generalizing a i with
  | nil => simp at h
  | cons d l ih =>
    cases i with
    | zero => simp [endsOf, segB, segN]
    | succ i =>
      rw [endsOf, List.getElem?_cons_succ, ih _ i (by simpa using h), List.take_succ_cons, segB_cons, List.length_append]
      congr 1
      unfold segN
      omega
theorem endsOf_snoc (a : Nat) (l : List De) (d : De) : endsOf a (l ++ [d]) = endsOf a l ++ [a + (segB (l ++ [d])).length] := by
  induction l generalizing a with
  | nil => simp [endsOf, segB, segN]
  | cons e l ih =>
    rw [List.cons_append, endsOf, ih, endsOf, List.cons_append, segB_cons, List.length_append]
    congr 3
    unfold segN
    omega
theorem endsOf_take (a : Nat) (l : List De) (k : Nat) : endsOf a (l.take k) = (endsOf a l).take k := by
  induction l generalizing a k with
  | nil => simp [endsOf]
  | cons d l ih =>
    cases k with
    | zero => rfl
    | succ k => rw [List.take_succ_cons, endsOf, endsOf, List.take_succ_cons, ih]
/-- How many deeds stand whole in the first n bytes. -/
def kN : List De → Nat → Nat
  | [], _ => 0
  | d :: l, n => if segN d ≤ n then kN l (n - segN d) + 1 else 0
theorem kN_le (l : List De) (n : Nat) : kN l n ≤ l.length := by
  induction l generalizing n with
  | nil => simp [kN]
  | cons d l ih =>
    unfold kN
    split
    · have := ih (n - segN d); simp only [List.length_cons]; omega
    · simp
/-- The count of the ends that are not behind n. -/
theorem kN_ends (l : List De) : ∀ (a n : Nat), kN l n = ((endsOf a l).takeWhile fun e => decide (e ≤ a + n)).length := by
  induction l with
  | nil => intro a n; rfl
  | cons d l ih =>
    intro a n
    unfold kN endsOf
    by_cases h : segN d ≤ n
    · rw [if_pos h, List.takeWhile_cons, if_pos (by simpa using h), List.length_cons, ih (a + segN d) (n - segN d), show a + segN d + (n - segN d) = a + n by omega]
    · rw [if_neg h, List.takeWhile_cons, if_neg (by simpa using h)]
      rfl
theorem segN_pos (d : De) : 9 ≤ segN d := by
  have := deB_pos d
  unfold segN
  rw [frameB_len]
  omega
theorem kN_n (l : List De) : ∀ n : Nat, 9 * kN l n ≤ n := by
  induction l with
  | nil => intro n; simp [kN]
  | cons d l ih =>
    intro n
    have hp := segN_pos d
    unfold kN
    split
    · have := ih (n - segN d); omega
    · omega
theorem torn_scanF : ∀ (ds : List De) (m : Nat) (last : Int) (n : Nat) (y : UInt8), (∀ d ∈ ds, RightD d) → Rise last ds → n ≤ (segB ds).length → (n < (segB ds).length → y ≠ (segB ds).getD n 0) → kN ds n < m → scanF m last ((segB ds).take n ++ [y]) = ds.take (kN ds n)
  | [], m, last, n, y, _, _, _, _, _ => by
    simp only [segB, List.flatMap_nil, List.take_nil, List.nil_append]
    exact scanF_none (one_none y)
  | d :: ds, 0, last, n, y, _, _, _, _, h => absurd h (by omega)
  | d :: ds, m + 1, last, n, y, hr, hi, hn, hy, hm => by
    have hd := hr d (by simp)
    have hl := hd.len
    have hp := segN_pos d
    rw [segB_cons, List.length_append] at hn hy
    rw [segB_cons]
    by_cases h : segN d ≤ n
    · have e : (frameB (deB d) ++ segB ds).take n ++ [y] = frameB (deB d) ++ ((segB ds).take (n - segN d) ++ [y]) := by
        rw [List.take_append, List.take_of_length_le (by exact h), List.append_assoc]
        rfl
      have hk : kN (d :: ds) n = kN ds (n - segN d) + 1 := by
        show (if segN d ≤ n then kN ds (n - segN d) + 1 else 0) = _
        rw [if_pos h]
      rw [e, hk, scanF_one (unframe_front d hd _) hd.get (by have := hi.1; omega), List.drop_append_of_le_length (by rw [frameB_len]; omega), List.drop_of_length_le (by rw [frameB_len]; omega), List.nil_append, List.take_succ_cons]
      rw [torn_scanF ds m d.1.z (n - segN d) y (fun x hx => hr x (by simp [hx])) hi.2 (by unfold segN at *; omega) (fun hlt => by
        have h2 := hy (by unfold segN at *; omega)
        rwa [getD_right (by exact h)] at h2) (by omega)]
    · have e : (frameB (deB d) ++ segB ds).take n = (frameB (deB d)).take n := List.take_append_of_le_length (by unfold segN at h; omega)
      have hk : kN (d :: ds) n = 0 := by
        show (if segN d ≤ n then kN ds (n - segN d) + 1 else 0) = _
        rw [if_neg h]
      have hlt : n < (frameB (deB d)).length := by unfold segN at h; omega
      rw [e, hk, List.take_zero]
      refine scanF_none (torn_none (deB d) n y (deB_pos d) (by omega) hlt ?_)
      have h2 := hy (by omega)
      have e2 : (frameB (deB d) ++ segB ds).getD n 0 = (frameB (deB d)).getD n 0 := by simp [List.getD, List.getElem?_append_left hlt]
      rwa [e2] at h2
/-- A file that is cut off, with another byte there: just the deeds that are there whole are told. -/
theorem torn_scan {ds : List De} (hr : ∀ d ∈ ds, RightD d) (hi : Rise 0 ds) {n : Nat} {y : UInt8} (hn : n ≤ (segB ds).length) (hy : n < (segB ds).length → y ≠ (segB ds).getD n 0) : scan ((segB ds).take n ++ [y]) = ds.take (kN ds n) := by
  have hc := kN_n ds n
  unfold scan
  exact torn_scanF ds _ 0 n y hr hi hn hy (by rw [List.length_append, List.length_take, List.length_singleton]; omega)
/-- What is told of bytes, put again, is told again of the bytes up to there. -/
theorem scan_again (b : List UInt8) : b.take (segB (scan b)).length = segB (scan b) ∧ scan (segB (scan b)) = scan b ∧ (∀ d ∈ scan b, RightD d) ∧ Rise 0 (scan b) := by
  obtain ⟨h1, h2, h3⟩ := scanF_back (b.length + 1) 0 b
  refine ⟨?_, ?_, h2, h3⟩
  · show b.take (segB (scanF (b.length + 1) 0 b)).length = segB (scanF (b.length + 1) 0 b)
    generalize scanF (b.length + 1) 0 b = ds at h1
    generalize b.drop (segB ds).length = r at h1
    rw [h1, List.take_left]
  · have h := scan_front h2 h3 (r := []) (by unfold unframe; rw [if_pos (by simp)])
    rw [List.append_nil] at h
    exact h
theorem segB_le (b : List UInt8) : (segB (scan b)).length ≤ b.length := by
  have := congrArg List.length (scan_again b).1
  rw [List.length_take] at this
  omega
end Go.Proofs.YtmlmbahimklfiaaGreatDoor

/-
  Ptf: path.Under, Join.
-/
import Derived.Test.YtbfcggcfabkbjaaDoorPte
namespace Go.Proofs.YtbfcggcfabkbjaaDoor
open Go.RowKit Go.Shelf

/-- b is a, or stands under it. -/
def und (a b : List UInt8) : Bool := chk a && (chk b && (a == [47] || (a == b || (a ++ [47]).isPrefixOf b)))
/-- A path and a part. -/
def joi (p n : List UInt8) : List UInt8 := if chk p = true ∧ partOk n = true ∧ (Lib.trimSuffix p [47] ++ 47 :: n).length ≤ 200 then Lib.trimSuffix p [47] ++ 47 :: n else []

set_option maxRecDepth 8000 in
set_option maxHeartbeats 1600000 in
theorem under_calls (a b : List UInt8) (w : World) (hl : a.length ≤ 140737488400000) (hl2 : b.length ≤ 140737488400000) :
    Calls Tryd.prog 17 #[.string ⟨a.toArray⟩, .string ⟨b.toArray⟩] w fun e w' => e = .returned (.bool (und a b)) ∧ Fr NoB w w' := by
  have hca := fun W => check_calls a W hl
  have hcb := fun W => check_calls b W hl2
  unfold und
  by_cases ka : chk a = true
  rotate_left
  · rw [Bool.not_eq_true] at ka
    rw [ka] at hca ⊢
    go_enter Tryd.func17, Tryd.ntmps17
    go_wp2_with (refine (hca _).mono ?_; rintro e w1 ⟨rfl, f1⟩)
    go_ret
    exact ⟨rfl, f1⟩
  by_cases kb : chk b = true
  rotate_left
  · rw [Bool.not_eq_true] at kb
    rw [ka] at hca
    rw [kb] at hcb
    rw [ka, kb]
    go_enter Tryd.func17, Tryd.ntmps17
    go_wp2_with (first | (refine (hca _).mono ?_; rintro e w1 ⟨rfl, f1⟩; clear hca) | (refine (hcb _).mono ?_; rintro e w2 ⟨rfl, f2⟩))
    go_ret
    exact ⟨rfl, f1.then f2⟩
  have hal := (chk_slash ka).2
  rw [ka] at hca
  rw [kb] at hcb
  rw [ka, kb, Bool.true_and, Bool.true_and]
  clear ka kb
  have hadd : ByteArray.mk a.toArray ++ ByteArray.mk #[47] = ByteArray.mk (a ++ [47]).toArray := mk_app a [47]
  have hsz : ¬ 9223372036854775807 < (ByteArray.mk a.toArray).size + 1 := by rw [mk_size]; omega
  have hpre := fun W => Tryd.strings_HasPrefix (ByteArray.mk b.toArray) (ByteArray.mk (a ++ [47]).toArray) W
  have hhp : Lib.hasPrefix (ByteArray.mk b.toArray).data.toList (ByteArray.mk (a ++ [47]).toArray).data.toList = (a ++ [47]).isPrefixOf b := by simp [Lib.hasPrefix]
  rw [hhp] at hpre
  have e1 : ((ByteArray.mk a.toArray).toList == [47]) = (a == [47]) := by simp
  have e2 : ((ByteArray.mk a.toArray).toList == (ByteArray.mk b.toArray).toList) = (a == b) := by simp
  generalize (a ++ [47]).isPrefixOf b = pre at hpre
  generalize hU : ByteArray.mk (a ++ [47]).toArray = U at hadd hpre
  generalize (a == [47]) = ea at e1
  generalize (a == b) = eb at e2
  generalize ByteArray.mk a.toArray = A at hca hadd hsz e1 e2
  generalize ByteArray.mk b.toArray = B at hcb hpre e2
  go_enter Tryd.func17, Tryd.ntmps17
  go_wp2_with (first | (refine (hca _).mono ?_; rintro e w1 ⟨rfl, f1⟩; clear hca) | (refine (hcb _).mono ?_; rintro e w2 ⟨rfl, f2⟩; clear hcb) | (refine (hpre _).mono ?_; rintro e w3 ⟨rfl, rfl⟩; clear hpre))
  all_goals go_ret
  all_goals refine ⟨?_, f1.then f2⟩
  all_goals simp_all

set_option maxRecDepth 8000 in
set_option maxHeartbeats 1600000 in
theorem join_calls (p n : List UInt8) (w : World) (hl : p.length ≤ 140737488400000) (hl2 : n.length ≤ 140737488400000) :
    Calls Tryd.prog 15 #[.string ⟨p.toArray⟩, .string ⟨n.toArray⟩] w fun e w' => e = .returned (.string ⟨(joi p n).toArray⟩) ∧ Fr NoB w w' := by
  have hca := fun W => check_calls p W hl
  have hcb := fun W => part_calls n W
  unfold joi
  by_cases ka : chk p = true
  rotate_left
  · rw [if_neg (fun h => ka h.1)]
    rw [Bool.not_eq_true] at ka
    rw [ka] at hca
    go_enter Tryd.func15, Tryd.ntmps15
    go_wp2_with (refine (hca _).mono ?_; rintro e w1 ⟨rfl, f1⟩)
    go_ret
    exact ⟨rfl, f1⟩
  by_cases kb : partOk n = true
  rotate_left
  · rw [if_neg (fun h => kb h.2.1)]
    rw [Bool.not_eq_true] at kb
    rw [ka] at hca
    rw [kb] at hcb
    go_enter Tryd.func15, Tryd.ntmps15
    go_wp2_with (first | (refine (hca _).mono ?_; rintro e w1 ⟨rfl, f1⟩; clear hca) | (refine (hcb _).mono ?_; rintro e w2 ⟨rfl, pos, hw2⟩; have f2 := f1.alloc (.stringIter ⟨n.toArray⟩ pos); replace f2 : Fr NoB w w2 := hw2 ▸ f2; clear hw2))
    go_ret
    exact ⟨rfl, f2⟩
  have hal := (chk_slash ka).2
  rw [ka] at hca
  rw [kb] at hcb
  have hT : (Lib.trimSuffix p [47]).length ≤ 200 := by
    unfold Lib.trimSuffix
    split
    · simp; omega
    · exact hal
  have htr := fun W => Tryd.strings_TrimSuffix (ByteArray.mk p.toArray) (ByteArray.mk #[47]) W (by rw [mk_size]; omega)
  rw [show Lib.trimSuffix (ByteArray.mk p.toArray).data.toList (ByteArray.mk #[47]).data.toList = Lib.trimSuffix p [47] by simp] at htr
  generalize hq : Lib.trimSuffix p [47] = q at hT htr
  have ha1 : ByteArray.mk q.toArray ++ ByteArray.mk #[47] = ByteArray.mk (q ++ [47]).toArray := mk_app q [47]
  have hz1 : ¬ 9223372036854775807 < (ByteArray.mk q.toArray).size + 1 := by rw [mk_size]; omega
  have ha2 : ByteArray.mk (q ++ [47]).toArray ++ ByteArray.mk n.toArray = ByteArray.mk (q ++ 47 :: n).toArray := by rw [mk_app]; simp
  have hz2 : ¬ 9223372036854775807 < (ByteArray.mk (q ++ [47]).toArray).size + (ByteArray.mk n.toArray).size := by rw [mk_size, mk_size]; simp; omega
  have hz3 : (ByteArray.mk (q ++ 47 :: n).toArray).size = (q ++ 47 :: n).length := mk_size _
  have hbnd : (q ++ 47 :: n).length ≤ 140737488500000 := by simp; omega
  generalize hm : (q ++ 47 :: n).length = m at hz3 hbnd
  simp only [ka, kb, true_and]
  generalize hU : ByteArray.mk (q ++ 47 :: n).toArray = U at ha2 hz3
  generalize ByteArray.mk (q ++ [47]).toArray = V at ha1 ha2 hz2
  have hfin : m ≤ 200 → ByteArray.mk ((if m ≤ 200 then q ++ 47 :: n else [] : List UInt8)).toArray = U := fun h => by rw [if_pos h]; exact hU
  have hfin2 : ¬ m ≤ 200 → ByteArray.mk ((if m ≤ 200 then q ++ 47 :: n else [] : List UInt8)).toArray = ByteArray.mk #[] := fun h => by rw [if_neg h]
  generalize ByteArray.mk ((if m ≤ 200 then q ++ 47 :: n else [] : List UInt8)).toArray = E at hfin hfin2
  clear hq hm hU ka kb hal
  have hmi : (m : Int) ≤ 140737488500000 := by omega
  go_enter Tryd.func15, Tryd.ntmps15
  go_wp2_with (first | (refine (hca _).mono ?_; rintro e w1 ⟨rfl, f1⟩; clear hca) | (refine (hcb _).mono ?_; rintro e w2 ⟨rfl, pos, hw2⟩; have f2 := f1.alloc (.stringIter ⟨n.toArray⟩ pos); replace f2 : Fr NoB w w2 := hw2 ▸ f2; clear hw2 hcb) | (refine (htr _).mono ?_; rintro e w3 ⟨rfl, rfl⟩; clear htr))
  · go_ret
    exact ⟨by rw [hfin2 (by omega)]; rfl, f2⟩
  · go_ret
    exact ⟨by rw [hfin (by omega)]; rfl, f2⟩
end Go.Proofs.YtbfcggcfabkbjaaDoor

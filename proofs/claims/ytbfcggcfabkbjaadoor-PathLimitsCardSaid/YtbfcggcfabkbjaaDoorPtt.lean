/-
  Ptt: PathTells answers true.
-/
import Derived.Test.YtbfcggcfabkbjaaDoorPts
namespace Go.Proofs.YtbfcggcfabkbjaaDoor
open Go.RowKit Go.Shelf

set_option maxRecDepth 8000 in
set_option maxHeartbeats 3200000 in
theorem tells_walk (a b : List UInt8) (w : World) (hM : Max w) (hal : a.length ≤ 140737488355328) (hbl : b.length ≤ 140737488355328) :
    Calls Tryd.prog 4 #[.string ⟨a.toArray⟩, .string ⟨b.toArray⟩] w fun e w' => e = .returned (.bool true) ∧ Fr NoB w w' := by
  have hf : Fr NoB w w := Fr.refl _ _
  have hsa : (ByteArray.mk a.toArray).size = a.length := mk_size a
  have hsb : (ByteArray.mk b.toArray).size = b.length := mk_size b
  by_cases hbig : 500 < a.length ∨ 500 < b.length
  · generalize ByteArray.mk a.toArray = A at *
    generalize ByteArray.mk b.toArray = B at *
    generalize a.length = n at *
    generalize b.length = m at *
    have h1 : (n : Int) ≤ 140737488355328 := by omega
    have h2 : (m : Int) ≤ 140737488355328 := by omega
    by_cases hn : 500 < (n : Int)
    · go_enter Tryd.func4, Tryd.ntmps4
      go_wp2_with ((with_reducible refine (awake_calls _).mono ?_); rintro e w1 ⟨rfl, f⟩; replace hf := hf.then f; clear f)
      all_goals go_ret
      all_goals exact ⟨rfl, hf⟩
    · have hm : 500 < (m : Int) := by omega
      go_enter Tryd.func4, Tryd.ntmps4
      go_wp2_with ((with_reducible refine (awake_calls _).mono ?_); rintro e w1 ⟨rfl, f⟩; replace hf := hf.then f; clear f)
      all_goals go_ret
      all_goals exact ⟨rfl, hf⟩
  · simp only [not_or, Nat.not_lt] at hbig
    obtain ⟨hn, hm⟩ := hbig
    have c1 := fun W => check_calls a W (by omega)
    have c2 := fun W h => refcheck_calls a W h (by omega)
    have c3 := fun W => parent_calls a W (by omega)
    have c4 := fun W h => refparent_calls a W h (by omega)
    have c5 := fun W => base_calls a W (by omega)
    have c6 := fun W h => refbase_calls a W h (by omega)
    have c7 := fun W => join_calls a b W (by omega) (by omega)
    have c8 := fun W h => refjoin_calls a b W h (by omega) (by omega)
    have c9 := fun W => under_calls a b W (by omega) (by omega)
    have d1 := fun W h => refunder_calls a b W h (by omega) (by omega)
    have d2 := fun W => under_calls b a W (by omega) (by omega)
    have d3 := fun W h => refunder_calls b a W h (by omega) (by omega)
    generalize ByteArray.mk a.toArray = A at *
    generalize ByteArray.mk b.toArray = B at *
    generalize a.length = n at *
    generalize b.length = m at *
    have h1 : (n : Int) ≤ 500 := by omega
    have h2 : (m : Int) ≤ 500 := by omega
    generalize chk a = x1 at *
    generalize und a b = x2 at *
    generalize und b a = x3 at *
    generalize ByteArray.mk (par a).toArray = P at *
    generalize ByteArray.mk (bas a).toArray = Q at *
    generalize ByteArray.mk (joi a b).toArray = J at *
    go_enter Tryd.func4, Tryd.ntmps4
    go_wp2_with (first | ((with_reducible refine (awake_calls _).mono ?_); rintro e w1 ⟨rfl, f⟩; replace hf := hf.then f; clear f) | ((with_reducible refine (c1 _).mono ?_); rintro e w1 ⟨rfl, f⟩; replace hf := hf.then f; clear f) | ((with_reducible refine (c2 _ (hM.fr hf)).mono ?_); rintro e w1 ⟨rfl, f⟩; replace hf := hf.then f; clear f) | ((with_reducible refine (c3 _).mono ?_); rintro e w1 ⟨rfl, f⟩; replace hf := hf.then f; clear f) | ((with_reducible refine (c4 _ (hM.fr hf)).mono ?_); rintro e w1 ⟨rfl, f⟩; replace hf := hf.then f; clear f) | ((with_reducible refine (c5 _).mono ?_); rintro e w1 ⟨rfl, f⟩; replace hf := hf.then f; clear f) | ((with_reducible refine (c6 _ (hM.fr hf)).mono ?_); rintro e w1 ⟨rfl, f⟩; replace hf := hf.then f; clear f) | ((with_reducible refine (c7 _).mono ?_); rintro e w1 ⟨rfl, f⟩; replace hf := hf.then f; clear f) | ((with_reducible refine (c8 _ (hM.fr hf)).mono ?_); rintro e w1 ⟨rfl, f⟩; replace hf := hf.then f; clear f) | ((with_reducible refine (c9 _).mono ?_); rintro e w1 ⟨rfl, f⟩; replace hf := hf.then f; clear f) | ((with_reducible refine (d1 _ (hM.fr hf)).mono ?_); rintro e w1 ⟨rfl, f⟩; replace hf := hf.then f; clear f) | ((with_reducible refine (d2 _).mono ?_); rintro e w1 ⟨rfl, f⟩; replace hf := hf.then f; clear f) | ((with_reducible refine (d3 _ (hM.fr hf)).mono ?_); rintro e w1 ⟨rfl, f⟩; replace hf := hf.then f; clear f))
    all_goals go_ret
    all_goals exact ⟨rfl, hf⟩
end Go.Proofs.YtbfcggcfabkbjaaDoor

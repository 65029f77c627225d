/-
  Ptu: PathLimits answers true.
-/
import Derived.Test.YtbfcggcfabkbjaaDoorPtt
import Derived.Deep.RegionHeld3
namespace Go.Proofs.YtbfcggcfabkbjaaDoor
open Go.RowKit Go.Shelf

def as199 : List UInt8 := List.replicate 199 97
def long : List UInt8 := 47 :: as199
def sa100 : List UInt8 := (List.replicate 100 [47, 97]).flatten
def yesL : List (List UInt8) := [[47], [47, 97], [47, 97, 47, 98], [47, 46, 46, 46], [47, 46, 97], [47, 97, 46], [47, 126], long, sa100]
def noL : List (List UInt8) := [[], [97], [47, 97, 47], [47, 47, 97], [47, 97, 47, 47, 98], [47, 97, 47, 46, 47, 98], [47, 46, 46], [47, 46], [47, 97, 32, 98], [47, 97, 0], [47, 127], long ++ [97], sa100 ++ [98], [47, 47]]
theorem yes_all : ∀ y ∈ yesL, chk y = true ∧ y.length ≤ 200 := by decide +kernel
theorem no_all : ∀ y ∈ noL, chk y = false ∧ y.length ≤ 201 := by decide +kernel

/-- One round of the yes's. -/
theorem yes_calls {y : List UInt8} (h : y ∈ yesL) :
    (∀ W, Calls Tryd.prog 9 #[.string ⟨y.toArray⟩] W fun e w' => e = .returned (.bool true) ∧ Fr NoB W w') ∧
    (∀ W, Calls Tryd.prog 17 #[.string ⟨#[47]⟩, .string ⟨y.toArray⟩] W fun e w' => e = .returned (.bool true) ∧ Fr NoB W w') ∧
    (∀ W, Calls Tryd.prog 17 #[.string ⟨y.toArray⟩, .string ⟨y.toArray⟩] W fun e w' => e = .returned (.bool true) ∧ Fr NoB W w') := by
  obtain ⟨h1, h2⟩ := yes_all y h
  refine ⟨fun W => ?_, fun W => ?_, fun W => ?_⟩
  · have := check_calls y W (by omega)
    rwa [h1] at this
  · have := under_calls [47] y W (by decide) (by omega)
    rwa [und_iff.2 ⟨chk_root, h1, .inl rfl⟩] at this
  · have := under_calls y y W (by omega) (by omega)
    rwa [und_iff.2 ⟨h1, h1, .inr (.inl rfl)⟩] at this
theorem no_calls {y : List UInt8} (h : y ∈ noL) :
    (∀ W, Calls Tryd.prog 9 #[.string ⟨y.toArray⟩] W fun e w' => e = .returned (.bool false) ∧ Fr NoB W w') ∧
    (∀ W, Calls Tryd.prog 11 #[.string ⟨y.toArray⟩] W fun e w' => e = .returned (.string ⟨#[]⟩) ∧ Fr NoB W w') ∧
    (∀ W, Calls Tryd.prog 13 #[.string ⟨y.toArray⟩] W fun e w' => e = .returned (.string ⟨#[]⟩) ∧ Fr NoB W w') ∧
    (∀ W, Calls Tryd.prog 15 #[.string ⟨y.toArray⟩, .string ⟨#[97]⟩] W fun e w' => e = .returned (.string ⟨#[]⟩) ∧ Fr NoB W w') ∧
    (∀ W, Calls Tryd.prog 17 #[.string ⟨y.toArray⟩, .string ⟨y.toArray⟩] W fun e w' => e = .returned (.bool false) ∧ Fr NoB W w') := by
  obtain ⟨h1, h2⟩ := no_all y h
  refine ⟨fun W => ?_, fun W => ?_, fun W => ?_, fun W => ?_, fun W => ?_⟩
  · have := check_calls y W (by omega)
    rwa [h1] at this
  · have := parent_calls y W (by omega)
    rwa [show par y = [] by unfold par; rw [h1]; simp] at this
  · have := base_calls y W (by omega)
    rwa [show bas y = [] by unfold bas; rw [h1]; simp] at this
  · have := join_calls y [97] W (by omega) (by decide)
    rwa [show joi y [97] = [] by unfold joi; rw [h1]; simp] at this
  · have := under_calls y y W (by omega) (by omega)
    rwa [show und y y = false by unfold und; rw [h1]; rfl] at this

set_option maxRecDepth 8000 in
set_option maxHeartbeats 3200000 in
theorem limits_walk (w : World) (hM : Max w) :
    Calls Tryd.prog 5 #[] w fun e w' => e = .returned (.bool true) ∧ Fr NoB w w' := by
  have hf : Fr NoB w w := Fr.refl _ _
  have r1 : ∀ W, Calls Tryd.prog 19 #[.string ⟨#[97]⟩, .int .i64 199] W fun e w' => e = .returned (.string ⟨as199.toArray⟩) ∧ Fr NoB W w' := fun W => by
    refine (Tryd.strings_Repeat ⟨#[97]⟩ 199 W (by decide) (by decide)).mono fun e w' h => ⟨?_, Fr.ofBelow h.2⟩
    rw [h.1, show Lib.repeatL (ByteArray.mk #[97]).data.toList 199 = as199 by decide +kernel]
  have r2 : ∀ W, Calls Tryd.prog 19 #[.string ⟨#[47, 97]⟩, .int .i64 100] W fun e w' => e = .returned (.string ⟨sa100.toArray⟩) ∧ Fr NoB W w' := fun W => by
    refine (Tryd.strings_Repeat ⟨#[47, 97]⟩ 100 W (by decide) (by decide)).mono fun e w' h => ⟨?_, Fr.ofBelow h.2⟩
    rw [h.1, show Lib.repeatL (ByteArray.mk #[47, 97]).data.toList 100 = sa100 by decide +kernel]
  have a1 : ByteArray.mk #[47] ++ ByteArray.mk as199.toArray = ByteArray.mk long.toArray := mk_app [47] as199
  have z1 : ¬ 9223372036854775807 < 1 + (ByteArray.mk as199.toArray).size := by rw [mk_size]; decide
  generalize ByteArray.mk as199.toArray = A1 at r1 a1 z1
  generalize hL : ByteArray.mk long.toArray = L at a1
  go_enter Tryd.func5, Tryd.ntmps5
  go_wp2_with ((with_reducible refine (r1 _).mono ?_); rintro e w1 ⟨rfl, f⟩; replace hf := hf.then f; clear f)
  have hf0 := hf
  clear hf
  go_loopw [2] (fun i W => ∃ k : Nat, i = .int .i64 (k : Int) ∧ k ≤ 256 ∧ Fr NoB w W) (fun i _ => 256 - (intOf i).toNat)
  case atStart => exact ⟨0, rfl, by omega, hf0⟩
  case round =>
    obtain ⟨k, rfl, hk, hf⟩ := hrel
    by_cases hlt : k < 256
    · have hlti : (k : Int) < 256 := by omega
      have hkn : ((UInt8.ofNat k).toNat : Int) = (k : Int) := by rw [UInt8.toNat_ofNat']; omega
      have kc : ∀ W : World, (convert 31 9 (.slice (some ⟨W.heap.size, 0, none⟩) 1 1)).run Tryd.prog (W.alloc (.cells #[.int .u8 (k : Int)] 5)) = .ok (.string ⟨#[UInt8.ofNat k]⟩) (W.alloc (.cells #[.int .u8 (k : Int)] 5)) := fun W => by
        have hrd : Rd (W.alloc (.cells #[.int .u8 (k : Int)] 5)) W.heap.size (W.heap.size + 1) (some ⟨W.heap.size, 0, none⟩) [UInt8.ofNat k] := fun _ => ⟨W.heap.size, 0, rfl, Nat.le_refl _, by omega, fun i hi => by
          obtain rfl : i = 0 := by simp at hi; exact hi
          rw [Lib.cell_of_heap (heap_alloc_new W _)]
          simp; omega⟩
        exact conv_string (P := Tryd.prog) (c := 1) Tryd.underlying31 Tryd.underlying5 Tryd.underlying9 hrd
      have kc2 := kc (wr.alloc (.cells #[.int .u8 (k : Int)] 5))
      rw [show (wr.alloc (.cells #[.int .u8 (k : Int)] 5)).heap.size = wr.heap.size + 1 by simp] at kc2
      have b1 : ByteArray.mk #[47, 120] ++ ByteArray.mk #[UInt8.ofNat k] = ByteArray.mk #[47, 120, UInt8.ofNat k] := mk_app [47, 120] [UInt8.ofNat k]
      have b2 : ByteArray.mk #[47] ++ ByteArray.mk #[UInt8.ofNat k] = ByteArray.mk #[47, UInt8.ofNat k] := mk_app [47] [UInt8.ofNat k]
      have bz : (ByteArray.mk #[UInt8.ofNat k]).size = 1 := mk_size [UInt8.ofNat k]
      have t1 := fun W h => tells_walk [47, 120, UInt8.ofNat k] [UInt8.ofNat k] W h (by simp) (by simp)
      have t2 := fun W h => tells_walk [47, UInt8.ofNat k] [47] W h (by simp) (by simp)
      clear a1 z1 r1 r2 hkn
      generalize ByteArray.mk #[UInt8.ofNat k] = K1 at *
      generalize ByteArray.mk #[47, 120, UInt8.ofNat k] = K2 at *
      generalize ByteArray.mk #[47, UInt8.ofNat k] = K3 at *
      have hf1 := (hf.alloc (.cells #[.int .u8 (k : Int)] 5)).alloc (.cells #[.int .u8 (k : Int)] 5)
      go_wp2_with (first | ((with_reducible refine (t1 _ (hM.fr hf1)).mono ?_); rintro e w2 ⟨rfl, f2⟩; have hf2 := (hf1.then f2).alloc (.cells #[.int .u8 (k : Int)] 5)) | ((with_reducible refine (t2 _ (hM.fr hf2)).mono ?_); rintro e w3 ⟨rfl, f3⟩))
      exact ⟨⟨k + 1, rfl, by omega, hf2.then f3⟩, by simp [intOf]; omega⟩
    · obtain rfl : k = 256 := by omega
      have a2 : L ++ ByteArray.mk #[97] = ByteArray.mk (long ++ [97]).toArray := by rw [← hL]; exact mk_app long [97]
      have a3 : ByteArray.mk sa100.toArray ++ ByteArray.mk #[98] = ByteArray.mk (sa100 ++ [98]).toArray := mk_app sa100 [98]
      have z2 : L.size = 200 := by rw [← hL]; rw [mk_size]; decide
      have z3 : (ByteArray.mk sa100.toArray).size = 200 := by rw [mk_size]; decide +kernel
      generalize hLA : ByteArray.mk (long ++ [97]).toArray = LA at *
      generalize hSB : ByteArray.mk (sa100 ++ [98]).toArray = SB at *
      generalize hSA : ByteArray.mk sa100.toArray = SA at *
      clear a1 z1 r1
      have r3 := r2
      go_wp2_with (first | ((with_reducible refine (r2 _).mono ?_); rintro e w2 ⟨rfl, f2⟩; clear r2) | ((with_reducible refine (r3 _).mono ?_); rintro e w3 ⟨rfl, f3⟩; clear r3))
      have fy := (hf.then f2).alloc (.cells (sv yesL).toArray 9)
      have hy : StrRow w3 w2.heap.size yesL := by
        refine StrRow.fr ?_ f3 (by simp)
        intro j x hx
        refine (Lib.cell_of_heap (heap_alloc_new w2 _) j).trans ?_
        subst hL hSA
        show ((sv yesL).toArray)[j]? = _
        simp [sv, hx]
      have fw3 : Fr NoB w w3 := by
        refine Fr.then ?_ f3
        exact (hf.then f2).alloc _
      have hb2 : w2.heap.size < w3.heap.size := Nat.lt_of_lt_of_le (by simp) f3.size
      clear f3 fy
      go_loopw [5] (fun i W => ∃ k : Nat, i = .int .i64 (k : Int) ∧ k ≤ 9 ∧ Fr NoB w W ∧ StrRow W w2.heap.size yesL ∧ StrRow W w3.heap.size noL ∧ w3.heap.size < W.heap.size) (fun i _ => 9 - (intOf i).toNat)
      case atStart =>
        refine ⟨0, rfl, by omega, fw3.alloc _, hy.fr ((Fr.refl _ _).alloc _) hb2, ?_, by simp⟩
        intro j x hx
        refine (Lib.cell_of_heap (heap_alloc_new w3 _) j).trans ?_
        subst hLA hSB
        show ((sv noL).toArray)[j]? = _
        simp [sv, hx]
      case round =>
        obtain ⟨k, rfl, hk, hf, hy, hn, hsz⟩ := hrel
        clear fw3
        generalize w2.heap.size = by_ at *
        generalize w3.heap.size = bn at *
        by_cases hlt : k < 9
        · have hlti : (k : Int) < 9 := by omega
          have hkx : yesL[k]? = some (yesL[k]'(by simp [yesL]; omega)) := List.getElem?_eq_getElem _
          have g1 := hy k _ hkx
          obtain ⟨q1, q2, q3⟩ := yes_calls (List.getElem_mem (l := yesL) (n := k) (by simp [yesL]; omega))
          generalize ByteArray.mk (yesL[k]'(by simp [yesL]; omega)).toArray = Y at *
          clear a2 a3 z2 z3 hL hLA hSB hSA
          have hbw : by_ < wr.heap.size := by omega
          have hdr : Fr NoB wr wr.drew := (Fr.refl NoB wr).drew
          have hK : ∀ W, Fr NoB wr W → W.cell? ⟨by_, k, none⟩ = some (.string Y) := fun W f => (f.cell (p := ⟨by_, k, none⟩) hbw id).trans g1
          go_wp2
          go_region_held3 (fun W => W.cell? ⟨by_, k, none⟩ = some (.string Y)) (first | exact hK _ hdr | exact hK _ j4 | exact hK _ j5 | exact hK _ j6) (first
            | (go_at_call 9; (with_reducible refine (q1 _).mono ?_); rintro e w4 ⟨rfl, f4⟩; have j4 := hdr.then f4)
            | (go_at_call 17; (with_reducible refine (q2 _).mono ?_); rintro e w5 ⟨rfl, f5⟩; have j5 := j4.then f5)
            | (go_at_call 17; (with_reducible refine (q3 _).mono ?_); rintro e w6 ⟨rfl, f6⟩; have j6 := j5.then f6))
          go_wp2
          exact ⟨⟨k + 1, rfl, by omega, hf.then j6, hy.fr j6 (by omega), hn.fr j6 hsz, Nat.lt_of_lt_of_le hsz j6.size⟩, by simp [intOf]; omega⟩
        · obtain rfl : k = 9 := by omega
          go_wp2
          obtain ⟨wo, hwo⟩ : ∃ wo : World, wo = wr := ⟨_, rfl⟩
          have hnw := hn
          have hfo := hf
          have hszw := hsz
          rw [← hwo] at hnw hfo hszw
          go_loopw [6] (fun i W => ∃ k : Nat, i = .int .i64 (k : Int) ∧ k ≤ 14 ∧ Fr NoB wo W) (fun i _ => 14 - (intOf i).toNat)
          case atStart => exact ⟨0, rfl, by omega, by rw [← hwo]; exact Fr.refl _ _⟩
          case round =>
            obtain ⟨k, rfl, hk, hfl⟩ := hrel
            by_cases hlt : k < 14
            · have hlti : (k : Int) < 14 := by omega
              have hkl : k < noL.length := by simp [noL]; omega
              have hkx : noL[k]? = some noL[k] := List.getElem?_eq_getElem _
              have g1 := (hnw.fr hfl hszw) k _ hkx
              obtain ⟨q1, q2, q3, q4, q5⟩ := no_calls (List.getElem_mem (l := noL) (n := k) hkl)
              generalize ByteArray.mk noL[k].toArray = Y at *
              clear a2 a3 z2 z3 hL hLA hSB hSA
              have hbw : bn < wr.heap.size := Nat.lt_of_lt_of_le hszw hfl.size
              have hdr : Fr NoB wr wr.drew := (Fr.refl NoB wr).drew
              have hK : ∀ W, Fr NoB wr W → W.cell? ⟨bn, k, none⟩ = some (.string Y) := fun W f => (f.cell (p := ⟨bn, k, none⟩) hbw id).trans g1
              go_wp2
              go_region_held3 (fun W => W.cell? ⟨bn, k, none⟩ = some (.string Y)) (first | exact hK _ hdr | exact hK _ j4 | exact hK _ j5 | exact hK _ j6 | exact hK _ j7 | exact hK _ j8) (first
                | (go_at_call 9; (with_reducible refine (q1 _).mono ?_); rintro e w4 ⟨rfl, f4⟩; have j4 := hdr.then f4)
                | (go_at_call 11; (with_reducible refine (q2 _).mono ?_); rintro e w5 ⟨rfl, f5⟩; have j5 := j4.then f5)
                | (go_at_call 13; (with_reducible refine (q3 _).mono ?_); rintro e w6 ⟨rfl, f6⟩; have j6 := j5.then f6)
                | (go_at_call 15; (with_reducible refine (q4 _).mono ?_); rintro e w7 ⟨rfl, f7⟩; have j7 := j6.then f7)
                | (go_at_call 17; (with_reducible refine (q5 _).mono ?_); rintro e w8 ⟨rfl, f8⟩; have j8 := j7.then f8))
              go_wp2
              refine ⟨?_, by simp [intOf]; omega⟩
              (repeat apply Exists.intro)
              exact ⟨⟨k + 1, rfl, by omega, hfl.then j8⟩, rfl⟩
            · obtain rfl : k = 14 := by omega
              have hf := hfo.then hfl
              clear hfo hfl hnw hn hy hsz hszw
              have e191 : L.extract 0 191 = ⟨(long.take 191).toArray⟩ := by rw [← hL, mk_ext]; rfl
              have e190 : L.extract 0 190 = ⟨(long.take 190).toArray⟩ := by rw [← hL, mk_ext]; rfl
              have e198 : L.extract 0 198 = ⟨(long.take 198).toArray⟩ := by rw [← hL, mk_ext]; rfl
              have e199 : L.extract 0 199 = ⟨(long.take 199).toArray⟩ := by rw [← hL, mk_ext]; rfl
              have c1 := fun W => number_calls [47, 97, 47] 0 W (by decide)
              have c2 := fun W => number_calls [47, 97] (-1) W (by decide)
              have c3 := fun W => number_calls [47, 97] 2147483648 W (by decide)
              have c4 := fun W => number_calls [47, 97] 2147483647 W (by decide)
              have c5 := fun W => number_calls [] 1 W (by decide)
              have c6 := fun W => number_calls (long.take 191) 1 W (by decide)
              have c7 := fun W => number_calls (long.take 190) 1 W (by decide)
              have c8 := fun W => join_calls (long.take 198) [97] W (by decide) (by decide)
              have c9 := fun W => join_calls (long.take 199) [97] W (by decide) (by decide)
              have d1 := fun W => parent_calls [47] W (by decide)
              have d2 := fun W => base_calls [47] W (by decide)
              have d3 := fun W => parent_calls [47, 97] W (by decide)
              rw [show num [47, 97, 47] 0 = ([47, 97, 47, 48, 48, 48, 48, 48, 48, 48, 48, 48, 48], true) by decide +kernel] at c1
              rw [show num [47, 97] (-1) = ([], false) by decide +kernel] at c2
              rw [show num [47, 97] 2147483648 = ([], false) by decide +kernel] at c3
              rw [show num [47, 97] 2147483647 = ([47, 97, 50, 49, 52, 55, 52, 56, 51, 54, 52, 55], true) by decide +kernel] at c4
              rw [show num [] 1 = ([], false) by decide +kernel] at c5
              rw [show num (long.take 191) 1 = ([], false) by decide +kernel] at c6
              rw [show (num (long.take 190) 1).2 = true by decide +kernel] at c7
              rw [show joi (long.take 198) [97] = long.take 198 ++ [47, 97] by decide +kernel] at c8
              rw [show joi (long.take 199) [97] = [] by decide +kernel] at c9
              rw [show par [47] = [] by decide +kernel] at d1
              rw [show bas [47] = [] by decide +kernel] at d2
              rw [show par [47, 97] = [47] by decide +kernel] at d3
              have s7 : (ByteArray.mk (num (long.take 190) 1).1.toArray).size = 200 := by rw [mk_size]; decide +kernel
              have j8 : ByteArray.mk (long.take 198).toArray ++ ByteArray.mk #[47, 97] = ByteArray.mk (long.take 198 ++ [47, 97]).toArray := mk_app (long.take 198) [47, 97]
              have s8 : (ByteArray.mk (long.take 198).toArray).size = 198 := by rw [mk_size]; decide +kernel
              clear a2 a3 z3 hL hLA hSB hSA
              generalize ByteArray.mk (num (long.take 190) 1).1.toArray = N7 at *
              generalize ByteArray.mk (long.take 198 ++ [47, 97]).toArray = J8 at *
              generalize ByteArray.mk (long.take 198).toArray = L198 at *
              generalize ByteArray.mk (long.take 199).toArray = L199 at *
              generalize ByteArray.mk (long.take 190).toArray = L190 at *
              generalize ByteArray.mk (long.take 191).toArray = L191 at *
              go_wp2_with (first | ((with_reducible refine (c1 _).mono ?_); rintro e w4 ⟨rfl, f⟩; replace hf := hf.then f; clear f c1) | ((with_reducible refine (c2 _).mono ?_); rintro e w4 ⟨rfl, f⟩; replace hf := hf.then f; clear f c2) | ((with_reducible refine (c3 _).mono ?_); rintro e w4 ⟨rfl, f⟩; replace hf := hf.then f; clear f c3) | ((with_reducible refine (c4 _).mono ?_); rintro e w4 ⟨rfl, f⟩; replace hf := hf.then f; clear f c4) | ((with_reducible refine (c5 _).mono ?_); rintro e w4 ⟨rfl, f⟩; replace hf := hf.then f; clear f c5) | ((with_reducible refine (c6 _).mono ?_); rintro e w4 ⟨rfl, f⟩; replace hf := hf.then f; clear f c6) | ((with_reducible refine (c7 _).mono ?_); rintro e w4 ⟨rfl, f⟩; replace hf := hf.then f; clear f c7))
              replace hf := hf.drew
              simp only [List.append_eq, List.cons_append, List.nil_append]
              go_region_held3 (fun _ => True) (exact True.intro) (first
                | (go_at_call 15; (with_reducible refine (c8 _).mono ?_); rintro e w5 ⟨rfl, f⟩; replace hf := hf.then f; clear f c8)
                | (go_at_call 15; (with_reducible refine (c9 _).mono ?_); rintro e w5 ⟨rfl, f⟩; replace hf := hf.then f; clear f c9)
                | (go_at_call 11; (with_reducible refine (d1 _).mono ?_); rintro e w5 ⟨rfl, f⟩; replace hf := hf.then f; clear f d1)
                | (go_at_call 13; (with_reducible refine (d2 _).mono ?_); rintro e w5 ⟨rfl, f⟩; replace hf := hf.then f; clear f d2)
                | (go_at_call 11; (with_reducible refine (d3 _).mono ?_); rintro e w5 ⟨rfl, f⟩; replace hf := hf.then f; clear f d3)
                | (go_at_call 6; (with_reducible refine (awake_calls _).mono ?_); rintro e w5 ⟨rfl, f⟩; replace hf := hf.then f; clear f))
              go_wp2
              all_goals go_ret
              all_goals exact ⟨rfl, hf⟩
end Go.Proofs.YtbfcggcfabkbjaaDoor

/-
  Ptn: the document's answer: Parts, Check.
-/
import Derived.Test.YtbfcggcfabkbjaaDoorPtm
namespace Go.Proofs.YtbfcggcfabkbjaaDoor
open Go.RowKit Go.Shelf

theorem spl_first {t : List UInt8} (h : (47 : UInt8) ∉ t) : spl t = [t] := spl_none h
/-- What is not a path, and begins as one. -/
theorem chk_spl {t : List UInt8} (ht : t ≠ []) (hl : (47 :: t : List UInt8).length ≤ 200) : chk (47 :: t) = (spl t).all partOk := by
  unfold chk rp
  simp only [beq_self_eq_true, Bool.true_and]
  rw [decide_eq_true hl, Bool.true_and]
  simp [ht]

theorem spl_len : ∀ (t x : List UInt8), x ∈ spl t → x.length ≤ t.length
  | [], x, h => by simp [spl] at h; simp [h]
  | c :: t, x, h => by
    unfold spl at h
    split at h
    · rcases List.mem_cons.1 h with rfl | h
      · simp
      · have := spl_len t x h; simp; omega
    · cases hs : spl t with
      | nil => exact absurd hs (spl_ne t)
      | cons y r =>
        rw [hs] at h
        rcases List.mem_cons.1 h with rfl | h
        · have := spl_len t y (by rw [hs]; simp); simp; omega
        · have := spl_len t x (by rw [hs]; simp [h]); simp; omega
theorem spl_count : ∀ t : List UInt8, (spl t).length ≤ t.length + 1
  | [] => by simp [spl]
  | c :: t => by
    have := spl_count t
    unfold spl
    split
    · simp; omega
    · cases hs : spl t with
      | nil => simp
      | cons y r => rw [hs] at this; simp at this ⊢; omega

set_option maxRecDepth 8000 in
set_option maxHeartbeats 3200000 in
theorem parts_all (t : List UInt8) (w : World) (m : Int) (hm : w.cell? ⟨0, 0, none⟩ = some (.int .i64 m)) (hw : 0 < w.heap.size) (ht : t ≠ []) (hl : (47 :: t : List UInt8).length ≤ 200) :
    Calls Tryd.prog 22 #[.string ⟨(47 :: t).toArray⟩] w fun e w' => (chk (47 :: t) = true ∧ (∃ b, e = .returned (.tuple #[.slice (some ⟨b, 0, none⟩) (spl t).length (spl t).length, .bool true]) ∧ w.heap.size ≤ b ∧ b < w'.heap.size ∧ StrRow w' b (spl t)) ∨ chk (47 :: t) = false ∧ e = .returned (.tuple #[.slice none 0 0, .bool false])) ∧ Fr NoB w w' := by
  rw [chk_spl ht hl]
  obtain ⟨s1, s2⟩ := splitB_spl t.length t (Nat.le_refl _)
  have hcs := fun W h => Tryd.strings_Split (ByteArray.mk t.toArray) (ByteArray.mk #[47]) m W (by rw [mk_size]; simp at hl; omega) h (by decide)
  rw [s1, s2] at hcs
  have hs1 : (ByteArray.mk (47 :: t).toArray).extract 1 (ByteArray.mk (47 :: t).toArray).size = ⟨t.toArray⟩ := by
    rw [mk_ext, mk_size]; simp
  have hsz : (ByteArray.mk (47 :: t).toArray).size = t.length + 1 := by rw [mk_size]; rfl
  have hl3 : ((ByteArray.mk (47 :: t).toArray).toList == [47]) = false := by simpa using ht
  simp only [List.length_cons] at hl
  rw [hsz] at hs1
  have k2 : ∀ h : 0 < (ByteArray.mk (47 :: t).toArray).size, (((ByteArray.mk (47 :: t).toArray)[0]'h).toNat != 47) = false := fun h => by rw [mk_get]; rfl
  have k3 : ∀ h : 0 < (ByteArray.mk (47 :: t).toArray).size, ((((ByteArray.mk (47 :: t).toArray)[0]'h).toNat : Int) != 47) = false := fun h => by rw [mk_get]; rfl
  have k0 : ((t.length : Int) + 1 == 0) = false := by rw [beq_eq_false_iff_ne]; omega
  have k1 : (t.length : Int) + 1 ≤ 200 := by omega
  have hsp : ∀ x ∈ spl t, x.length ≤ 140737488355328 := fun x hx => Nat.le_trans (spl_len t x hx) (by omega)
  have hXn : (spl t).length ≤ 201 := by have := spl_count t; omega
  generalize hS : (ByteArray.mk (47 :: t).toArray) = S at *
  generalize hT : (ByteArray.mk t.toArray) = T at *
  generalize hn : t.length = n at *
  generalize hX : spl t = X at *
  clear s1 s2 hS hT hX hn ht
  go_enter Tryd.func22, Tryd.ntmps22
  go_wp2_with (with_reducible refine (hcs _ hm).mono ?_; rintro e w1 ⟨rfl, rfl⟩)
  go_loopw [5] (fun i W => ∃ k : Nat, i = .int .i64 (k : Int) ∧ k ≤ X.length ∧ (X.take k).all partOk = true ∧ Fr NoB w W ∧ w.heap.size < W.heap.size ∧ StrRow W w.heap.size X) (fun i _ => X.length - (intOf i).toNat)
  case atStart =>
    refine ⟨0, rfl, Nat.zero_le _, by simp, (Fr.refl _ _).alloc _, by simp, ?_⟩
    intro j x hx
    refine (World.cell?_alloc_mark w _ _ (0, 0) j).trans ?_
    simp [hx]
  case round =>
    obtain ⟨k, rfl, hk, ha, hf, hsz', hrow⟩ := hrel
    by_cases hlt : k < X.length
    · have hkx : X[k]? = some X[k] := List.getElem?_eq_getElem hlt
      have g1 := hrow k _ hkx
      have hcp := fun W => refpart_calls X[k] W (hsp _ (List.getElem_mem _))
      have hXl : (X.length : Int) ≤ 9223372036854775807 := by omega
      have hki : (k : Int) < (X.length : Int) := by omega
      have hsnd : (X.take (k + 1)).all partOk = partOk X[k] := by
        rw [List.take_add_one, List.all_append, ha, hkx]; simp
      by_cases ho : partOk X[k] = true
      · rw [ho] at hcp hsnd
        generalize ByteArray.mk X[k].toArray = Y at *
        go_wp2_with (with_reducible refine (hcp _).mono ?_; rintro e w2 ⟨rfl, f⟩)
        refine ⟨⟨k + 1, rfl, by omega, hsnd, hf.then f, Nat.lt_of_lt_of_le hsz' f.size, hrow.fr f hsz'⟩, by simp [intOf]; omega⟩
      · rw [Bool.not_eq_true] at ho
        have hall : X.all partOk = false := List.all_eq_false.2 ⟨X[k], List.getElem_mem _, by rw [ho]; decide⟩
        rw [ho] at hcp hsnd
        generalize ByteArray.mk X[k].toArray = Y at *
        go_wp2_with (with_reducible refine (hcp _).mono ?_; rintro e w2 ⟨rfl, f⟩)
        go_ret2
        exact ⟨.inr ⟨hall, rfl⟩, hf.then f⟩
    · obtain rfl : k = X.length := by omega
      rw [List.take_length] at ha
      go_wp2
      go_ret2
      exact ⟨.inl ⟨ha, ⟨w.heap.size, rfl, Nat.le_refl _, hsz', hrow⟩⟩, hf⟩
end Go.Proofs.YtbfcggcfabkbjaaDoor

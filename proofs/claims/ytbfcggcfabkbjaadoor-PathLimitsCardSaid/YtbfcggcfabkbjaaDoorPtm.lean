/-
  Ptm: the document's answer: Part, Parts, Check.
-/
import Derived.Test.YtbfcggcfabkbjaaDoorPti
import Derived.Lib.SplitLaws
import Derived.Lib.IndexBytes
import Derived.Handy
namespace Go.Proofs.YtbfcggcfabkbjaaDoor
open Go.RowKit Go.Shelf

set_option maxRecDepth 8000 in
set_option maxHeartbeats 3200000 in
theorem refpart_calls (l : List UInt8) (w : World) (hl : l.length ≤ 140737488355328) :
    Calls Tryd.prog 26 #[.string ⟨l.toArray⟩] w fun e w' => e = .returned (.bool (partOk l)) ∧ Fr NoB w w' := by
  go_enter Tryd.func26, Tryd.ntmps26
  go_wp2
  go_loopw [3] (fun i W => ∃ k : Nat, i = .int .i64 (k : Int) ∧ k ≤ l.length ∧ (l.take k).all okc = true ∧ Fr NoB w W) (fun i _ => l.length - (intOf i).toNat)
  case atStart => exact ⟨0, rfl, Nat.zero_le _, by simp, Fr.refl _ _⟩
  case round =>
    obtain ⟨k, rfl, hk, ha, hf⟩ := hrel
    have hsz : (ByteArray.mk l.toArray).size = l.length := mk_size l
    by_cases hlt : k < l.length
    · have hb : (ByteArray.mk l.toArray).data[k]! = l[k] := mk_bang l k hlt
      have hi : (k : Int) < ((ByteArray.mk l.toArray).size : Int) := by rw [hsz]; omega
      clear hb
      have hpf : okc l[k] = false → partOk l = false := fun ho => by
        unfold partOk
        rw [show l.all okc = false from List.all_eq_false.2 ⟨l[k], List.getElem_mem _, by rw [ho]; decide⟩, Bool.false_and]
      have hrel : okc l[k] = true → (∃ k' : Nat, Value.int .i64 ((k : Int) + 1) = .int .i64 (k' : Int) ∧ k' ≤ l.length ∧ (l.take k').all okc = true ∧ Fr NoB w wr) ∧ l.length - (intOf (.int .i64 ((k : Int) + 1))).toNat < l.length - (intOf (.int .i64 (k : Int))).toNat := fun ho => ⟨⟨k + 1, rfl, by omega, by rw [List.take_add_one, List.all_append, ha, List.getElem?_eq_getElem hlt]; simp [ho], hf⟩, by simp [intOf]; omega⟩
      have hok : okc l[k] = decide (33 ≤ l[k].toNat ∧ l[k].toNat ≤ 126 ∧ l[k].toNat ≠ 47) := rfl
      go_wp2
      all_goals (simp only [mk_get, beq_iff_eq, beq_eq_false_iff_ne, ne_eq] at *)
      all_goals first
        | (go_ret; exact ⟨by rw [hpf (by rw [hok]; exact decide_eq_false (by omega))]; rfl, hf⟩)
        | exact hrel (by rw [hok]; exact decide_eq_true (by omega))
        | (exfalso; omega)
        | trace_state
    · obtain rfl : k = l.length := by omega
      rw [List.take_length] at ha
      have e0 : (ByteArray.mk l.toArray == ByteArray.mk #[]) = (l == []) := mk_eq l []
      have e1 : (ByteArray.mk l.toArray == ByteArray.mk #[46]) = (l == [46]) := mk_eq l [46]
      have e2 : (ByteArray.mk l.toArray == ByteArray.mk #[46, 46]) = (l == [46, 46]) := mk_eq l [46, 46]
      have hpf : partOk l = (l != [] && (l != [46] && l != [46, 46])) := by
        unfold partOk
        rw [ha, Bool.true_and]
      have hi : ((l.length : Nat) : Int) = ((ByteArray.mk l.toArray).size : Int) := by rw [hsz]
      clear e0 e1 e2
      rw [hi]
      go_wp2
      all_goals subst_vars
      all_goals go_ret
      all_goals refine ⟨?_, hf⟩
      all_goals first | rfl | (rw [hpf]; simp [bne, Bool.and_assoc]) | trace_state

theorem bytes_list (l : List UInt8) : (ByteArray.mk l.toArray).data.toList = l := by simp
theorem splitB_spl : ∀ (n : Nat) (t : List UInt8), t.length ≤ n → Lib.splitB ⟨#[47]⟩ 0 (Lib.countB ⟨t.toArray⟩ ⟨#[47]⟩) ⟨t.toArray⟩ = ((spl t).map fun x => ⟨x.toArray⟩) ∧ Lib.countB ⟨t.toArray⟩ ⟨#[47]⟩ + 1 = (spl t).length
  | n, t, hn => by
    have hx : Lib.indexB ⟨t.toArray⟩ ⟨#[47]⟩ = Lib.indexByte t 47 := by
      show Lib.index _ _ = _
      rw [show (ByteArray.mk t.toArray).data.toList = t by simp]
      exact Lib.index_one t 47
    rcases cutAt t with h | ⟨a, b, rfl, h⟩
    · rw [ib_none h] at hx
      rw [Lib.countB_miss _ _ hx, spl_none h]
      exact ⟨rfl, rfl⟩
    · rw [ib_some b h] at hx
      cases n with
      | zero => simp at hn
      | succ n =>
        have he : (ByteArray.mk (a ++ 47 :: b).toArray).extract (a.length + (ByteArray.mk #[47]).size) (ByteArray.mk (a ++ 47 :: b).toArray).size = ⟨b.toArray⟩ := by
          rw [mk_ext, mk_size (a ++ 47 :: b), List.take_length, show a ++ 47 :: b = (a ++ [47]) ++ b by simp, show a.length + (ByteArray.mk #[47]).size = (a ++ [47]).length by simp; rfl, List.drop_left]
        have he0 : (ByteArray.mk (a ++ 47 :: b).toArray).extract 0 (a.length + 0) = ⟨a.toArray⟩ := by
          rw [mk_ext]; simp
        obtain ⟨i1, i2⟩ := splitB_spl n b (by simp at hn; omega)
        rw [Lib.countB_hit _ _ _ (by decide) hx, he, Nat.add_comm 1, Lib.splitB_hit _ _ _ _ _ hx, he, he0, i1, spl_some b h]
        exact ⟨rfl, by simp [i2]⟩

/-- A row of texts in memory. -/
def StrRow (W : World) (b : Nat) (xs : List (List UInt8)) : Prop := ∀ (j : Nat) x, xs[j]? = some x → W.cell? ⟨b, j, none⟩ = some (.string ⟨x.toArray⟩)
theorem StrRow.fr {w w' : World} {b : Nat} {xs : List (List UInt8)} (h : StrRow w b xs) (f : Fr NoB w w') (hb : b < w.heap.size) : StrRow w' b xs :=
  fun j x hx => (f.cell (p := ⟨b, j, none⟩) hb id).trans (h j x hx)
end Go.Proofs.YtbfcggcfabkbjaaDoor

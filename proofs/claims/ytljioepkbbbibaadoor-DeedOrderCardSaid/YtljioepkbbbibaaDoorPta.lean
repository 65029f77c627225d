/-
  Pta: path.part: what it answers of any text.
-/
import Derived.Test.YtljioepkbbbibaaDoorBase
import Derived.Test.YtljioepkbbbibaaDoorShelf
import Derived.Lib.OthersKept
import Derived.LoopTactic
namespace Go.Proofs.YtljioepkbbbibaaDoor
open Go.RowKit

/-- A byte that a part may have. -/
def okc (c : UInt8) : Bool := decide (33 ≤ c.toNat ∧ c.toNat ≤ 126 ∧ c.toNat ≠ 47)
/-- A text is a part. -/
def partOk (l : List UInt8) : Bool := l.all okc && (l != [] && (l != [46] && l != [46, 46]))

theorem mk_size (l : List UInt8) : (ByteArray.mk l.toArray).size = l.length := by simp [ByteArray.size]
theorem mk_get (l : List UInt8) (i : Nat) (h : i < (ByteArray.mk l.toArray).size) : (ByteArray.mk l.toArray)[i] = l[i]'(by simpa [ByteArray.size] using h) := by
  show (ByteArray.mk l.toArray).data[i] = _
  simp
theorem mk_eq (a b : List UInt8) : ((ByteArray.mk a.toArray) == (ByteArray.mk b.toArray)) = (a == b) := by
  show (a.toArray == b.toArray) = (a == b)
  simp
/-- What a rune that is decoded says of its byte. -/
theorem dec_ok (l : List UInt8) (pos : Nat) (h : pos < l.length) : ∃ r wd, Utf8.decode (ByteArray.mk l.toArray) pos = (r, wd) ∧ 1 ≤ wd ∧ ((okc l[pos] = true ∧ wd = 1 ∧ 33 ≤ r ∧ r ≤ 126 ∧ r ≠ 47) ∨ (okc l[pos] = false ∧ (r < 33 ∨ 126 < r ∨ r = 47))) := by
  have h' : pos < (ByteArray.mk l.toArray).size := by rw [mk_size]; exact h
  by_cases ha : l[pos].toNat < 128
  · have ha' : ((ByteArray.mk l.toArray)[pos]'h').toNat < 128 := by rw [mk_get]; exact ha
    refine ⟨_, _, decode_ascii _ pos h' ha', Nat.le_refl _, ?_⟩
    rw [mk_get]
    by_cases ho : okc l[pos] = true
    · have h := of_decide_eq_true ho
      exact .inl ⟨ho, rfl, h⟩
    · have h : ¬ (33 ≤ l[pos].toNat ∧ l[pos].toNat ≤ 126 ∧ l[pos].toNat ≠ 47) := fun h => ho (decide_eq_true h)
      exact .inr ⟨by simpa using ho, by omega⟩
  · have ha' : 128 ≤ ((ByteArray.mk l.toArray)[pos]'h').toNat := by rw [mk_get]; omega
    have hh := decode_high _ pos h' ha'
    exact ⟨_, _, rfl, hh.2, .inr ⟨decide_eq_false (by omega), .inr (.inl (Nat.lt_of_lt_of_le (by decide) hh.1))⟩⟩

set_option maxRecDepth 8000 in
set_option maxHeartbeats 3200000 in
theorem part_calls (l : List UInt8) (w : World) :
    Calls Tryd.prog 90 #[.string ⟨l.toArray⟩] w fun e w' => e = .returned (.bool (partOk l)) ∧ ∃ pos, w' = w.iter ⟨l.toArray⟩ pos := by
  go_enter Tryd.func90, Tryd.ntmps90
  go_wp2
  go_loopw [] (fun w' => ∃ pos : Nat, w' = w.iter ⟨l.toArray⟩ pos ∧ pos ≤ l.length ∧ (l.take pos).all okc = true) (fun w' => l.length - w'.iterPos w.heap.size)
  case atStart => exact ⟨0, rfl, Nat.zero_le _, by simp⟩
  case round =>
    obtain ⟨pos, rfl, hp, ha⟩ := hrel
    by_cases hlt : pos < l.length
    · have hlt' : pos < (ByteArray.mk l.toArray).size := by rw [mk_size]; exact hlt
      have hnx : ∀ ty, (Instr.next (.pointer (some ⟨w.heap.size, 0, none⟩)) true ty).run Tryd.prog (w.iter ⟨l.toArray⟩ pos) = _ := fun ty => run_next_any w _ pos ty hlt'
      obtain ⟨r, wd, hd, hwd, hr⟩ := dec_ok l pos hlt
      rw [hd] at hnx
      rcases hr with ⟨ho, rfl, h33, h126, h47⟩ | ⟨ho, hr⟩
      · have i33 : (33 : Int) ≤ (r : Int) := by omega
        have i126 : (r : Int) ≤ 126 := by omega
        have i47 : ((r : Int) == 47) = false := by rw [beq_eq_false_iff_ne]; omega
        go_wp2
        all_goals first
          | exact ⟨⟨pos + 1, rfl, by omega, by rw [List.take_add_one, List.all_append, ha, List.getElem?_eq_getElem hlt]; simp [ho]⟩, by simp; omega⟩
          | (exfalso; rename_i hx; rw [i47] at hx; omega)
          | (exfalso; rename_i hx; simp only [i47, Bool.false_eq_true, or_false] at hx; omega)
          | trace_state
      · have hpf : partOk l = false := by
          unfold partOk
          rw [show l.all okc = false from List.all_eq_false.2 ⟨l[pos], List.getElem_mem _, by rw [ho]; decide⟩, Bool.false_and]
        go_wp2
        all_goals first
          | (go_ret; exact ⟨rfl, _, rfl⟩)
          | (exfalso; rename_i hx; simp at hx; omega)
          | trace_state
    · have hlt' : ¬ pos < (ByteArray.mk l.toArray).size := by rw [mk_size]; exact hlt
      have hnx : ∀ ty, (Instr.next (.pointer (some ⟨w.heap.size, 0, none⟩)) true ty).run Tryd.prog (w.iter ⟨l.toArray⟩ pos) = _ := fun ty => run_next_end w _ pos ty hlt'
      obtain rfl : pos = l.length := by omega
      rw [List.take_length] at ha
      have e0 : (ByteArray.mk l.toArray == ByteArray.mk #[]) = (l == []) := mk_eq l []
      have e1 : (ByteArray.mk l.toArray == ByteArray.mk #[46]) = (l == [46]) := mk_eq l [46]
      have e2 : (ByteArray.mk l.toArray == ByteArray.mk #[46, 46]) = (l == [46, 46]) := mk_eq l [46, 46]
      have hpf : partOk l = (l != [] && (l != [46] && l != [46, 46])) := by
        unfold partOk
        rw [ha, Bool.true_and]
      clear e0 e1 e2 hlt hlt' hp
      go_wp2
      all_goals subst_vars
      all_goals go_ret
      all_goals refine ⟨?_, _, rfl⟩
      all_goals first | rfl | (rw [hpf]; simp [bne, Bool.and_assoc]) | trace_state
end Go.Proofs.YtljioepkbbbibaaDoor

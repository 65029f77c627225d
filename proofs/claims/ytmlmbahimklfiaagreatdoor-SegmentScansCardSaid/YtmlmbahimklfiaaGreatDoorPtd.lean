/-
  Ptd: Pta, Ptb, Ptc, Ptd.
-/
import Derived.Test.YtmlmbahimklfiaaGreatDoorBase
import Derived.Test.YtmlmbahimklfiaaGreatDoorShelf
import Derived.Lib.OthersKept
import Derived.LoopTactic
import Derived.Shelf.RegionOpen
import Derived.RangeFuncNested
import Derived.RangeFuncBound
import Derived.RangeFuncCalls
import Derived.RangeFuncLeaves
import Derived.Shelf.Abstract
import Derived.WalkKit
import Derived.OwnWalkIn
import Derived.TacticsInMore
import Derived.LoopNIn
import Derived.LoopIn
/- Pta -/
namespace Go.Proofs.YtmlmbahimklfiaaGreatDoor
open Go.RowKit

/-- A byte that a part may have. -/
def okc (c : UInt8) : Bool := decide (33 ≤ c.toNat ∧ c.toNat ≤ 126 ∧ c.toNat ≠ 47)
/-- A text is a part. -/
def partOk (l : List UInt8) : Bool := l.all okc && (l != [] && (l != [46] && l != [46, 46]))

theorem mk_size (l : List UInt8) : (ByteArray.mk l.toArray).size = l.length := by simp [ByteArray.size]
theorem mk_get (l : List UInt8) (i : Nat) (h : i < (ByteArray.mk l.toArray).size) : (ByteArray.mk l.toArray)[i] = l[i]'(by simpa [ByteArray.size] using h) := by
  show (ByteArray.mk l.toArray).data[i] = _
  simp
theorem mk_eq (a b : List UInt8) : ((ByteArray.mk a.toArray) == (ByteArray.mk b.toArray)) = (a == b) := by
  show (a.toArray == b.toArray) = (a == b)
  simp
/-- What a rune that is decoded says of its byte. -/
theorem dec_ok (l : List UInt8) (pos : Nat) (h : pos < l.length) : ∃ r wd, Utf8.decode (ByteArray.mk l.toArray) pos = (r, wd) ∧ 1 ≤ wd ∧ ((okc l[pos] = true ∧ wd = 1 ∧ 33 ≤ r ∧ r ≤ 126 ∧ r ≠ 47) ∨ (okc l[pos] = false ∧ (r < 33 ∨ 126 < r ∨ r = 47))) := by
  have h' : pos < (ByteArray.mk l.toArray).size := by rw [mk_size]; exact h
  by_cases ha : l[pos].toNat < 128
  · have ha' : ((ByteArray.mk l.toArray)[pos]'h').toNat < 128 := by rw [mk_get]; exact ha
    refine ⟨_, _, decode_ascii _ pos h' ha', Nat.le_refl _, ?_⟩
    rw [mk_get]
    by_cases ho : okc l[pos] = true
    · have h := of_decide_eq_true ho
      exact .inl ⟨ho, rfl, h⟩
    · have h : ¬ (33 ≤ l[pos].toNat ∧ l[pos].toNat ≤ 126 ∧ l[pos].toNat ≠ 47) := fun h => ho (decide_eq_true h)
      exact .inr ⟨by simpa using ho, by omega⟩
  · have ha' : 128 ≤ ((ByteArray.mk l.toArray)[pos]'h').toNat := by rw [mk_get]; omega
    have hh := decode_high _ pos h' ha'
    exact ⟨_, _, rfl, hh.2, .inr ⟨decide_eq_false (by omega), .inr (.inl (Nat.lt_of_lt_of_le (by decide) hh.1))⟩⟩

set_option maxRecDepth 8000 in
set_option maxHeartbeats 3200000 in
theorem part_calls (l : List UInt8) (w : World) :
    Calls Tryz.prog 177 #[.string ⟨l.toArray⟩] w fun e w' => e = .returned (.bool (partOk l)) ∧ ∃ pos, w' = w.iter ⟨l.toArray⟩ pos := by
  go_enter Tryz.func177, Tryz.ntmps177
  go_wp2
  go_loopw [] (fun w' => ∃ pos : Nat, w' = w.iter ⟨l.toArray⟩ pos ∧ pos ≤ l.length ∧ (l.take pos).all okc = true) (fun w' => l.length - w'.iterPos w.heap.size)
  case atStart => exact ⟨0, rfl, Nat.zero_le _, by simp⟩
  case round =>
    obtain ⟨pos, rfl, hp, ha⟩ := hrel
    by_cases hlt : pos < l.length
    · have hlt' : pos < (ByteArray.mk l.toArray).size := by rw [mk_size]; exact hlt
      have hnx : ∀ ty, (Instr.next (.pointer (some ⟨w.heap.size, 0, none⟩)) true ty).run Tryz.prog (w.iter ⟨l.toArray⟩ pos) = _ := fun ty => run_next_any w _ pos ty hlt'
      obtain ⟨r, wd, hd, hwd, hr⟩ := dec_ok l pos hlt
      rw [hd] at hnx
      rcases hr with ⟨ho, rfl, h33, h126, h47⟩ | ⟨ho, hr⟩
      · have i33 : (33 : Int) ≤ (r : Int) := by omega
        have i126 : (r : Int) ≤ 126 := by omega
        have i47 : ((r : Int) == 47) = false := by rw [beq_eq_false_iff_ne]; omega
        go_wp2
        all_goals first
          | exact ⟨⟨pos + 1, rfl, by omega, by rw [List.take_add_one, List.all_append, ha, List.getElem?_eq_getElem hlt]; simp [ho]⟩, by simp; omega⟩
          | (exfalso; rename_i hx; rw [i47] at hx; omega)
          | (exfalso; rename_i hx; simp only [i47, Bool.false_eq_true, or_false] at hx; omega)
          | trace_state
      · have hpf : partOk l = false := by
          unfold partOk
          rw [show l.all okc = false from List.all_eq_false.2 ⟨l[pos], List.getElem_mem _, by rw [ho]; decide⟩, Bool.false_and]
        go_wp2
        all_goals first
          | (go_ret; exact ⟨rfl, _, rfl⟩)
          | (exfalso; rename_i hx; simp at hx; omega)
          | trace_state
    · have hlt' : ¬ pos < (ByteArray.mk l.toArray).size := by rw [mk_size]; exact hlt
      have hnx : ∀ ty, (Instr.next (.pointer (some ⟨w.heap.size, 0, none⟩)) true ty).run Tryz.prog (w.iter ⟨l.toArray⟩ pos) = _ := fun ty => run_next_end w _ pos ty hlt'
      obtain rfl : pos = l.length := by omega
      rw [List.take_length] at ha
      have e0 : (ByteArray.mk l.toArray == ByteArray.mk #[]) = (l == []) := mk_eq l []
      have e1 : (ByteArray.mk l.toArray == ByteArray.mk #[46]) = (l == [46]) := mk_eq l [46]
      have e2 : (ByteArray.mk l.toArray == ByteArray.mk #[46, 46]) = (l == [46, 46]) := mk_eq l [46, 46]
      have hpf : partOk l = (l != [] && (l != [46] && l != [46, 46])) := by
        unfold partOk
        rw [ha, Bool.true_and]
      clear e0 e1 e2 hlt hlt' hp
      go_wp2
      all_goals subst_vars
      all_goals go_ret
      all_goals refine ⟨?_, _, rfl⟩
      all_goals first | rfl | (rw [hpf]; simp [bne, Bool.and_assoc]) | trace_state
end Go.Proofs.YtmlmbahimklfiaaGreatDoor

/- Ptb -/
namespace Go.Proofs.YtmlmbahimklfiaaGreatDoor
open Go.RowKit

theorem ib_none {c : UInt8} : ∀ {a : List UInt8}, c ∉ a → Lib.indexByte a c = -1
  | [], _ => rfl
  | x :: t, h => by
    simp only [List.mem_cons, not_or] at h
    unfold Lib.indexByte
    rw [ib_none h.2]
    simp [Ne.symm h.1]
theorem ib_some {c : UInt8} (b : List UInt8) : ∀ {a : List UInt8}, c ∉ a → Lib.indexByte (a ++ c :: b) c = a.length
  | [], _ => by simp [Lib.indexByte]
  | x :: t, h => by
    simp only [List.mem_cons, not_or] at h
    simp only [List.cons_append]
    unfold Lib.indexByte
    rw [ib_some b h.2]
    simp [Ne.symm h.1]

/-- A part of a text. -/
theorem mk_ext (l : List UInt8) (i j : Nat) : (ByteArray.mk l.toArray).extract i j = ⟨((l.take j).drop i).toArray⟩ := by
  apply ByteArray.ext
  rw [ByteArray.data_extract]
  simp [List.drop_take]
theorem mk_app (a b : List UInt8) : (ByteArray.mk a.toArray) ++ (ByteArray.mk b.toArray) = ⟨(a ++ b).toArray⟩ := by
  apply ByteArray.ext
  rw [ByteArray.data_append]
  simp

theorem cutl_none (a : List UInt8) (w : World) (h : (47 : UInt8) ∉ a) :
    Calls Tryz.prog 188 #[.string ⟨a.toArray⟩, .string ⟨#[47]⟩] w fun e w' => e = .returned (.tuple #[.string ⟨a.toArray⟩, .string ⟨#[]⟩, .bool false]) ∧ ∃ n, w' = w.drewN n := by
  have hi : Lib.indexByte (ByteArray.mk a.toArray).data.toList 47 = -1 := by simpa using ib_none h
  go_enter Tryz.func188, Tryz.ntmps188
  go_wp2_with (refine (Tryz.stringslite_Index_one _ 47 _).mono ?_; rintro e w' ⟨rfl, rfl⟩; rw [hi])
  go_ret3
  exact ⟨rfl, 0, rfl⟩
theorem cutl_some (a b : List UInt8) (w : World) (h : (47 : UInt8) ∉ a) (hl : a.length + b.length ≤ 140737488355328) :
    Calls Tryz.prog 188 #[.string ⟨(a ++ 47 :: b).toArray⟩, .string ⟨#[47]⟩] w fun e w' => e = .returned (.tuple #[.string ⟨a.toArray⟩, .string ⟨b.toArray⟩, .bool true]) ∧ ∃ n, w' = w.drewN n := by
  have hi : Lib.indexByte (ByteArray.mk (a ++ 47 :: b).toArray).data.toList 47 = (a.length : Int) := by simpa using ib_some b h
  have hz : (ByteArray.mk (a ++ 47 :: b).toArray).size = a.length + 1 + b.length := by rw [mk_size]; simp; omega
  have e1 : (ByteArray.mk (a ++ 47 :: b).toArray).extract 0 a.length = ⟨a.toArray⟩ := by
    rw [mk_ext]; simp
  have e2 : (ByteArray.mk (a ++ 47 :: b).toArray).extract (a.length + 1) (a.length + 1 + b.length) = ⟨b.toArray⟩ := by
    rw [mk_ext, List.take_of_length_le (by simp; omega), show a.length + 1 = (a ++ [47]).length by simp, show a ++ 47 :: b = (a ++ [47]) ++ b by simp, List.drop_left]
  have c1 : (0 : Int) ≤ (a.length : Int) := by omega
  have c2 : (a.length : Int) ≤ ((ByteArray.mk (a ++ 47 :: b).toArray).size : Int) := by omega
  have c3 : (0 : Int) ≤ (a.length : Int) + 1 := by omega
  have c4 : (a.length : Int) + 1 ≤ ((ByteArray.mk (a ++ 47 :: b).toArray).size : Int) := by omega
  rw [← hz] at e2
  generalize hS : (ByteArray.mk (a ++ 47 :: b).toArray) = S at hi hz e1 e2 c2 c4
  clear hz hS
  have mixed : Tryz.prog.follows .mixedOrders = true := by kernel_rfl
  go_enter Tryz.func188, Tryz.ntmps188
  go_wp2_with (refine (Tryz.stringslite_Index_one _ 47 _).mono ?_; rintro e w' ⟨rfl, rfl⟩; rw [hi])
  go_region_o
  go_wp2
  go_ret3
  exact ⟨rfl, 1, rfl⟩

theorem cut_none (a : List UInt8) (w : World) (h : (47 : UInt8) ∉ a) :
    Calls Tryz.prog 184 #[.string ⟨a.toArray⟩, .string ⟨#[47]⟩] w fun e w' => e = .returned (.tuple #[.string ⟨a.toArray⟩, .string ⟨#[]⟩, .bool false]) ∧ ∃ n, w' = w.drewN n := by
  go_enter Tryz.func184, Tryz.ntmps184
  go_wp2_with (refine (cutl_none a _ h).mono ?_; rintro e w' ⟨rfl, n, rfl⟩)
  go_ret3
  exact ⟨rfl, n, rfl⟩
theorem cut_some (a b : List UInt8) (w : World) (h : (47 : UInt8) ∉ a) (hl : a.length + b.length ≤ 140737488355328) :
    Calls Tryz.prog 184 #[.string ⟨(a ++ 47 :: b).toArray⟩, .string ⟨#[47]⟩] w fun e w' => e = .returned (.tuple #[.string ⟨a.toArray⟩, .string ⟨b.toArray⟩, .bool true]) ∧ ∃ n, w' = w.drewN n := by
  have hc := fun W => cutl_some a b W h hl
  generalize (a ++ 47 :: b) = S at hc
  go_enter Tryz.func184, Tryz.ntmps184
  go_wp2_with (refine (hc _).mono ?_; rintro e w' ⟨rfl, n, rfl⟩)
  go_ret3
  exact ⟨rfl, n, rfl⟩

/-- The parts between slashes. -/
def spl : List UInt8 → List (List UInt8)
  | [] => [[]]
  | c :: t => if c = 47 then [] :: spl t else match spl t with | [] => [[c]] | h :: r => (c :: h) :: r
theorem spl_none : ∀ {a : List UInt8}, (47 : UInt8) ∉ a → spl a = [a]
  | [], _ => rfl
  | c :: t, h => by
    simp only [List.mem_cons, not_or] at h
    unfold spl
    rw [if_neg (Ne.symm h.1), spl_none h.2]
theorem spl_some (b : List UInt8) : ∀ {a : List UInt8}, (47 : UInt8) ∉ a → spl (a ++ 47 :: b) = a :: spl b
  | [], _ => by simp [spl]
  | c :: t, h => by
    simp only [List.mem_cons, not_or] at h
    rw [show spl (c :: t ++ 47 :: b) = (if c = 47 then [] :: spl (t ++ 47 :: b) else match spl (t ++ 47 :: b) with | [] => [[c]] | h :: r => (c :: h) :: r) from rfl, if_neg (Ne.symm h.1), spl_some b h.2]
theorem cutAt : ∀ l : List UInt8, (47 : UInt8) ∉ l ∨ ∃ a b, l = a ++ 47 :: b ∧ (47 : UInt8) ∉ a
  | [] => .inl (by simp)
  | c :: t => by
    by_cases hc : c = 47
    · exact .inr ⟨[], t, by simp [hc], by simp⟩
    · rcases cutAt t with h | ⟨a, b, rfl, h⟩
      · exact .inl (by simp [h, Ne.symm hc])
      · exact .inr ⟨c :: a, b, rfl, by simp [h, Ne.symm hc]⟩
/-- What stands behind a path's first slash is right. -/
def rp (t : List UInt8) : Bool := t == [] || (spl t).all partOk
theorem rp_none {t : List UInt8} (ht : t ≠ []) (h : (47 : UInt8) ∉ t) : rp t = partOk t := by
  unfold rp
  rw [spl_none h]
  simp [ht]
theorem rp_some (a b : List UInt8) (h : (47 : UInt8) ∉ a) : rp (a ++ 47 :: b) = (partOk a && (b != [] && rp b)) := by
  have hn : ((a ++ 47 :: b) == []) = false := by cases a <;> rfl
  unfold rp
  rw [spl_some b h, hn]
  cases b with
  | nil => simp [spl, partOk]
  | cons x y => simp [bne]
end Go.Proofs.YtmlmbahimklfiaaGreatDoor

/- Ptc -/
namespace Go.Proofs.YtmlmbahimklfiaaGreatDoor
open Go.RowKit Go.Shelf
attribute [local go_sem] Oper.semAt_some

/-- Where a check of a path stands: its result's cell, the text's box, the calls put off, the loop's record. -/
structure PB (w : World) (q : List UInt8) (L : Loop) (W : World) : Prop where
  fr : Fr NoB w W
  res : W.heap[w.heap.size]? = some (.cells #[.bool false] 4 (0, 0))
  box : W.heap[w.heap.size + 1]? = some (.cells #[.string ⟨q.toArray⟩] 9 (0, 0))
  dfr : W.heap[w.heap.size + 2]? = some (.deferred (some []))
  lp : W.heap[w.heap.size + 3]? = some (.loop L)

theorem PB.drewN {w W : World} {q : List UInt8} {L : Loop} (h : PB w q L W) (n : Nat) : PB w q L (W.drewN n) := ⟨h.fr.drewN n, h.res, h.box, h.dfr, h.lp⟩
theorem PB.drew {w W : World} {q : List UInt8} {L : Loop} (h : PB w q L W) : PB w q L W.drew := ⟨h.fr.drew, h.res, h.box, h.dfr, h.lp⟩
theorem PB.cell {w W : World} {q : List UInt8} {L : Loop} (h : PB w q L W) : W.cell? ⟨w.heap.size + 1, 0, none⟩ = some (.string ⟨q.toArray⟩) ∧ W.frozen? ⟨w.heap.size + 1, 0, none⟩ = false := by
  have := h.box
  exact ⟨by simp [World.cell?, this], by simp [World.frozen?, this]⟩
theorem PB.set {w W : World} {q : List UInt8} {L : Loop} (h : PB w q L W) (q' : List UInt8) : PB w q' L (W.setCell ⟨w.heap.size + 1, 0, none⟩ (.string ⟨q'.toArray⟩)) := by
  refine ⟨h.fr.setCell (fun hx => by simp at hx; omega) _, ?_, (Boxed.set _ h.box : Boxed _ _ _ _), ?_, ?_⟩
  · exact (Below.heap_setCell W ⟨w.heap.size + 1, 0, none⟩ _ _ (by simp)).trans h.res
  · exact (Below.heap_setCell W ⟨w.heap.size + 1, 0, none⟩ _ _ (by simp)).trans h.dfr
  · exact (Below.heap_setCell W ⟨w.heap.size + 1, 0, none⟩ _ _ (by simp)).trans h.lp

/-- How long the text in a box is. -/
def boxLen (W : World) (B : Nat) : Nat := match W.heap[B]? with | some (.cells #[.string s] _ _) => s.size | _ => 0
theorem PB.len {w W : World} {q : List UInt8} {L : Loop} (h : PB w q L W) : boxLen W (w.heap.size + 1) = q.length := by
  unfold boxLen
  rw [h.box]
  exact mk_size q

set_option maxRecDepth 100000 in
set_option maxHeartbeats 4000000 in
theorem parts1_in (n : Nat) (w W : World) (t0 : List UInt8) (rec : LoopState → Option Code → Loop) (hl : t0.length ≤ 200)
    (hY : ∀ W q s, PB w q (rec .ready none) W → YieldAt Fence.wide (n - 1) Tryz.prog (w.heap.size + 3) #[.string ⟨s.toArray⟩] W fun e W' => (partOk s = true ∧ e = .returned (.bool true) ∧ PB w q (rec .ready none) W') ∨ (partOk s = false ∧ e = .returned (.bool false) ∧ PB w q (rec .done (some .ret)) W'))
    (h0 : PB w (47 :: t0) (rec .ready none) W) :
    CallsIn Fence.wide n Tryz.prog 183 #[.func (.yield (w.heap.size + 3)) #[] #[], .pointer (some ⟨w.heap.size + 1, 0, none⟩)] W fun e W' => (∃ v, e = .returned v) ∧ ((rp t0 = true ∧ ∃ q, PB w q (rec .ready none) W') ∨ (rp t0 = false ∧ ∃ q, PB w q (rec .done (some .ret)) W')) := by
  refine callsIn_of_wp Tryz.func183 rfl trivial ?_ rfl
  simp only [Tryz.ntmps183, List.size_toArray, List.length_cons, List.length_nil, Nat.reduceAdd, Nat.reduceSub, Array.replicate_succ, Array.replicate_zero, List.push_toArray, List.append_toArray, List.nil_append, List.cons_append]
  gi_wp2
  gi_loopw [] (fun W' => (∃ t, rp t0 = rp t ∧ t.length ≤ 200 ∧ PB w (47 :: t) (rec .ready none) W') ∨ (rp t0 = false ∧ PB w [47] (rec .done (some .ret)) W')) (fun W' => boxLen W' (w.heap.size + 1))
  case atStart => exact .inl ⟨t0, rfl, hl, h0⟩
  case round =>
    rcases hrel with ⟨t, ht0, htl, hp⟩ | ⟨ht0, hp⟩
    · have hc := hp.cell.1
      have hz := hp.cell.2
      by_cases ht : t = []
      · subst ht
        gi_wp2
        go_end0
        exact ⟨⟨_, rfl⟩, .inl ⟨by rw [ht0]; rfl, _, hp⟩⟩
      · have hs1 : (ByteArray.mk (47 :: t).toArray).extract 1 (ByteArray.mk (47 :: t).toArray).size = ⟨t.toArray⟩ := by
          rw [mk_ext, mk_size]; simp
        have hs2 : (1 : Int) ≤ ((ByteArray.mk (47 :: t).toArray).size : Int) := by rw [mk_size]; simp; omega
        have hsz : (ByteArray.mk (47 :: t).toArray).size = t.length + 1 := by rw [mk_size]; rfl
        have hl1 : (ByteArray.mk (47 :: t).toArray).toList.isEmpty = false := by simp
        have hl2 : ((ByteArray.mk (47 :: t).toArray).toList == [47]) = false := by simpa using ht
        have hl3 : ¬ (ByteArray.mk (47 :: t).toArray).toList = [] := by simp
        have mixed : Tryz.prog.follows .mixedOrders = true := by kernel_rfl
        rcases cutAt t with hno | ⟨a, b, rfl, hno⟩
        · have hcut := fun W => cut_none t W hno
          have hcm : (((ByteArray.mk t.toArray).size : Int) + 1 == ((ByteArray.mk (47 :: t).toArray).size : Int)) = true := by rw [mk_size, hsz]; simp
          have hnz : ((ByteArray.mk t.toArray).size : Int) ≤ 300 := by rw [mk_size]; omega
          have hnz0 : (0 : Int) ≤ ((ByteArray.mk t.toArray).size : Int) := by omega
          have hyy := fun k => (hY (wr.drewN k) (47 :: t) t (hp.drewN k)).mono (R' := fun e W' => ((partOk t = true ∧ e = .returned (.bool true) ∧ PB w (47 :: t) (rec .ready none) W') ∨ (partOk t = false ∧ e = .returned (.bool false) ∧ PB w (47 :: t) (rec .done (some .ret)) W')) ∧ W'.cell? ⟨w.heap.size + 1, 0, none⟩ = some (.string (ByteArray.mk (47 :: t).toArray)) ∧ W'.frozen? ⟨w.heap.size + 1, 0, none⟩ = false) (fun e W' h => ⟨h, by rcases h with ⟨_, _, h⟩ | ⟨_, _, h⟩ <;> exact h.cell⟩)
          generalize hS : (ByteArray.mk (47 :: t).toArray) = S at hc hs1 hs2 hl1 hl2 hl3 hcm hyy
          generalize hN : (ByteArray.mk t.toArray) = N at hcut hs1 hcm hnz hnz0 hyy
          rw [rp_none ht hno] at ht0
          clear hsz hS hN
          gi_wp2_with (first | (refine ⟨trivial, (fun h => by cases h), ?_⟩; gi_at_call 184; refine (callsIn_wide.2 (hcut _)).mono ?_; rintro e w' ⟨rfl, k, rfl⟩; obtain ⟨fn, tmps, assign, body, hy, hR⟩ := hyy k) | (refine ⟨(fun h => by cases h), ?_⟩; refine hR.mono ?_; rintro e W' ⟨⟨hpo, rfl, hp'⟩ | ⟨hpo, rfl, hp'⟩, hc', hz'⟩))
          · refine bodyPost_ret (results_none rfl _ _ _) rfl ?_
            exact ⟨⟨_, rfl⟩, .inl ⟨by rw [ht0, hpo], _, hp'⟩⟩
          · refine bodyPost_ret (results_none rfl _ _ _) rfl ?_
            exact ⟨⟨_, rfl⟩, .inr ⟨by rw [ht0, hpo], _, hp'⟩⟩
        · have hlen : (a ++ 47 :: b).length = a.length + b.length + 1 := by simp; omega
          have hcut := fun W => cut_some a b W hno (by omega)
          have hcm : (((ByteArray.mk a.toArray).size : Int) + 1 == ((ByteArray.mk (47 :: (a ++ 47 :: b)).toArray).size : Int)) = false := by
            rw [mk_size, hsz, hlen, beq_eq_false_iff_ne]; omega
          have hnz : ((ByteArray.mk a.toArray).size : Int) ≤ 300 := by rw [mk_size]; omega
          have hnz0 : (0 : Int) ≤ ((ByteArray.mk a.toArray).size : Int) := by omega
          have hadd : ByteArray.mk #[47] ++ ByteArray.mk b.toArray = ByteArray.mk (47 :: b).toArray := mk_app [47] b
          have hbl := hp.len
          have hrs : ¬ 9223372036854775807 < 1 + (ByteArray.mk b.toArray).size := by rw [mk_size]; omega
          rw [rp_some a b hno] at ht0
          by_cases hb : b = []
          · subst hb
            replace hcut : ∀ W, Calls Tryz.prog 184 #[.string ⟨(a ++ [47]).toArray⟩, .string ⟨#[47]⟩] W fun e w' => e = .returned (.tuple #[.string ⟨a.toArray⟩, .string ⟨#[]⟩, .bool true]) ∧ ∃ n, w' = W.drewN n := hcut
            replace hadd : ByteArray.mk #[47] ++ ByteArray.mk #[] = ByteArray.mk #[47] := hadd
            have hrs2 : ¬ 9223372036854775807 < 1 + (ByteArray.mk #[]).size := by decide
            have hyy := fun k => (hY (wr.drewN k) (47 :: (a ++ [47])) a (hp.drewN k)).mono (R' := fun e W' => ((partOk a = true ∧ e = .returned (.bool true) ∧ PB w (47 :: (a ++ [47])) (rec .ready none) W' ∧ YieldAt Fence.wide (n - 1) Tryz.prog (w.heap.size + 3) #[.string (ByteArray.mk #[])] (W'.setCell ⟨w.heap.size + 1, 0, none⟩ (.string (ByteArray.mk ([47] : List UInt8).toArray))) fun e W'' => e = .returned (.bool false) ∧ PB w [47] (rec .done (some .ret)) W'') ∨ (partOk a = false ∧ e = .returned (.bool false) ∧ PB w (47 :: (a ++ [47])) (rec .done (some .ret)) W')) ∧ W'.cell? ⟨w.heap.size + 1, 0, none⟩ = some (.string (ByteArray.mk (47 :: (a ++ [47])).toArray)) ∧ W'.frozen? ⟨w.heap.size + 1, 0, none⟩ = false) (fun e W' h => by
              rcases h with ⟨h1, h2, h⟩ | ⟨h1, h2, h⟩
              · refine ⟨.inl ⟨h1, h2, h, (hY _ [47] [] (h.set [47])).mono fun e W'' h' => ?_⟩, h.cell⟩
                rcases h' with ⟨h1, _⟩ | ⟨_, h2, h3⟩
                · exact absurd h1 (by decide)
                · exact ⟨h2, h3⟩
              · exact ⟨.inr ⟨h1, h2, h⟩, h.cell⟩)
            generalize hS : (ByteArray.mk (47 :: (a ++ [47])).toArray) = S at hc hs1 hs2 hl1 hl2 hl3 hcm hyy
            generalize hT : (ByteArray.mk (a ++ [47]).toArray) = T at hs1 hcut
            generalize hN : (ByteArray.mk a.toArray) = N at hcut hcm hnz hnz0 hyy
            clear hsz hS hN hT
            gi_wp2_with (first | (refine ⟨trivial, (fun h => by cases h), ?_⟩; gi_at_call 184; refine (callsIn_wide.2 (hcut _)).mono ?_; rintro e w' ⟨rfl, k, rfl⟩; obtain ⟨fn, tmps, assign, body, hy, hR⟩ := hyy k) | (refine ⟨(fun h => by cases h), ?_⟩; refine hR.mono ?_; rintro e W' ⟨⟨hpo, rfl, hp', fn2, tmps2, assign2, body2, hy2, hR2⟩ | ⟨hpo, rfl, hp'⟩, hc', hz'⟩; clear hR) | (refine ⟨(fun h => by cases h), ?_⟩; refine hR2.mono ?_; rintro e W'' ⟨rfl, hp''⟩; clear hR2))
            · refine ⟨.inr ⟨by rw [ht0]; simp [bne], hp''⟩, ?_⟩
              rw [hp''.len, hbl]; simp
            · refine bodyPost_ret (results_none rfl _ _ _) rfl ?_
              exact ⟨⟨_, rfl⟩, .inr ⟨by rw [ht0]; simp [bne], _, hp'⟩⟩
          · have hb1 : (ByteArray.mk b.toArray).toList.isEmpty = false := by simpa using hb
            have hb2 : ¬ (ByteArray.mk b.toArray).toList = [] := by simpa using hb
            have hyy := fun k => (hY (wr.drewN k) (47 :: (a ++ 47 :: b)) a (hp.drewN k)).mono (R' := fun e W' => ((partOk a = true ∧ e = .returned (.bool true) ∧ PB w (47 :: (a ++ 47 :: b)) (rec .ready none) W') ∨ (partOk a = false ∧ e = .returned (.bool false) ∧ PB w (47 :: (a ++ 47 :: b)) (rec .done (some .ret)) W')) ∧ W'.cell? ⟨w.heap.size + 1, 0, none⟩ = some (.string (ByteArray.mk (47 :: (a ++ 47 :: b)).toArray)) ∧ W'.frozen? ⟨w.heap.size + 1, 0, none⟩ = false) (fun e W' h => ⟨h, by rcases h with ⟨_, _, h⟩ | ⟨_, _, h⟩ <;> exact h.cell⟩)
            generalize hS : (ByteArray.mk (47 :: (a ++ 47 :: b)).toArray) = S at hc hs1 hs2 hl1 hl2 hl3 hcm hyy
            generalize hT : (ByteArray.mk (a ++ 47 :: b).toArray) = T at hs1 hcut
            generalize hN : (ByteArray.mk a.toArray) = N at hcut hcm hnz hnz0 hyy
            generalize hR0 : (ByteArray.mk b.toArray) = R0 at hcut hadd hb1 hb2 hrs
            generalize hU : (ByteArray.mk (47 :: b).toArray) = U at hadd
            clear hsz hS hN hT hR0
            gi_wp2_with (first | (refine ⟨trivial, (fun h => by cases h), ?_⟩; gi_at_call 184; refine (callsIn_wide.2 (hcut _)).mono ?_; rintro e w' ⟨rfl, k, rfl⟩; obtain ⟨fn, tmps, assign, body, hy, hR⟩ := hyy k) | (refine ⟨(fun h => by cases h), ?_⟩; refine hR.mono ?_; rintro e W' ⟨⟨hpo, rfl, hp'⟩ | ⟨hpo, rfl, hp'⟩, hc', hz'⟩))
            · refine ⟨.inl ⟨b, by rw [ht0, hpo]; simp [bne, hb], by omega, ?_⟩, ?_⟩
              · rw [← hU]; exact hp'.set (47 :: b)
              · rw [← hU, (hp'.set (47 :: b)).len, hbl]; simp; omega
            · refine bodyPost_ret (results_none rfl _ _ _) rfl ?_
              exact ⟨⟨_, rfl⟩, .inr ⟨by rw [ht0, hpo]; rfl, _, hp'⟩⟩
    · have hc := hp.cell.1
      have hz := hp.cell.2
      gi_wp2
      go_end0
      exact ⟨⟨_, rfl⟩, .inr ⟨ht0, _, hp⟩⟩
end Go.Proofs.YtmlmbahimklfiaaGreatDoor

/- Ptd -/
namespace Go.Proofs.YtmlmbahimklfiaaGreatDoor
open Go.RowKit Go.Shelf
attribute [local go_sem] Oper.semAt_some

/-- A text is a right path. -/
def pchk (l : List UInt8) : Bool := match l with | [] => false | c :: t => c == 47 && (decide (l.length ≤ 200) && rp t)

theorem Fr.putObj {M : Nat → Prop} {a w : World} (h : Fr M a w) {r : Nat} (hr : a.heap.size ≤ r) (o : Obj) : Fr M a (w.putObj r o) :=
  ⟨h.os, h.tape, h.output, by simpa using h.size, fun k hk hm => (World.putObj_heap_other (by omega)).trans (h.block k hk hm)⟩
theorem PB.alloc {w W : World} {q : List UInt8} {L : Loop} (h : PB w q L W) (o : Obj) : PB w q L (W.alloc o) :=
  ⟨h.fr.alloc o, (Boxed.alloc h.res o : Boxed _ _ _ _), (Boxed.alloc h.box o : Boxed _ _ _ _), (Below.heap_alloc W o _ (Lib.lt_of_heap h.dfr)).trans h.dfr, (Below.heap_alloc W o _ (Lib.lt_of_heap h.lp)).trans h.lp⟩
theorem PB.put {w W : World} {q : List UInt8} {L : Loop} (h : PB w q L W) (L' : Loop) : PB w q L' (W.putObj (w.heap.size + 3) (.loop L')) :=
  ⟨h.fr.putObj (by omega) _, (World.putObj_heap_other (by omega)).trans h.res, (World.putObj_heap_other (by omega)).trans h.box, (World.putObj_heap_other (by omega)).trans h.dfr, World.putObj_heap_same (Lib.lt_of_heap h.lp)⟩
theorem PB.setRes {w W : World} {q : List UInt8} {L : Loop} (h : PB w q L W) : PB w q L (W.setCell ⟨w.heap.size, 0, none⟩ (.bool false)) :=
  ⟨h.fr.setCell (fun hx => by simp at hx) _, (Boxed.set _ h.res : Boxed _ _ _ _), (Below.heap_setCell W ⟨w.heap.size, 0, none⟩ _ _ (by simp)).trans h.box, (Below.heap_setCell W ⟨w.heap.size, 0, none⟩ _ _ (by simp)).trans h.dfr, (Below.heap_setCell W ⟨w.heap.size, 0, none⟩ _ _ (by simp)).trans h.lp⟩
theorem PB.resCell {w W : World} {q : List UInt8} {L : Loop} (h : PB w q L W) : W.cell? ⟨w.heap.size, 0, none⟩ = some (.bool false) ∧ W.frozen? ⟨w.heap.size, 0, none⟩ = false := by
  have := h.res
  exact ⟨by simp [World.cell?, this], by simp [World.frozen?, this]⟩

set_option maxHeartbeats 1000000 in
theorem pparts_calls (s : ByteArray) (w : World) :
    Calls Tryz.prog 176 #[.string s] w fun e w' => e = .returned (.func (.func 183) #[] #[.pointer (some ⟨w.heap.size, 0, none⟩)]) ∧ w' = w.alloc (.cells #[.string s] 9) := by
  go_enter Tryz.func176, Tryz.ntmps176
  go_wp2
  go_ret
  exact ⟨rfl, rfl⟩

theorem by47 {c : UInt8} (hc : ¬ c = 47) : ¬ (c.toNat : Int) = 47 := fun h => hc (UInt8.toNat_inj.1 (by
  have h' : c.toNat = 47 := by omega
  rw [h']; rfl))
theorem pcheck_end (tmps : Array Value) (B : Nat) (W : World) (b : Bool) (ht : tmps[2]?.getD undef = .pointer (some ⟨B, 0, none⟩)) (hc : W.cell? ⟨B, 0, none⟩ = some (.bool b)) :
    (results Tryz.f159 tmps).run Tryz.prog W = .ok (.bool b) W := by
  simp [results, Tryz.f159, go_sem, ht, hc]

/-- How a round's body leaves. -/
def bodyQ (w : World) (q : List UInt8) (L : Loop) (s : List UInt8) : Exit → Act → World → Prop
  | .normal, _, W' => partOk s = true ∧ PB w q L W'
  | .ret, _, W' => partOk s = false ∧ PB w q L W'
  | _, _, _ => False

set_option maxRecDepth 100000 in
set_option maxHeartbeats 1000000 in
/-- A range over a path's parts, whose rounds go on just at a part. -/
theorem range_parts {Q : Exit → Act → World → Prop} {a : Act} {assign body : Code} {w w2 : World} {t : List UInt8} (htl : t.length ≤ 200) (a₁ : List UInt8 → Act)
    (ha : a.eval (.tmp 17) = .func (.func 183) #[] #[.pointer (some ⟨w.heap.size + 1, 0, none⟩)])
    (h1 : Boxed w2 w.heap.size 4 (.bool false)) (h2 : Boxed w2 (w.heap.size + 1) 9 (.string ⟨(47 :: t).toArray⟩)) (fr : Fr NoB w w2) (hsz : w2.heap.size = w.heap.size + 2)
    (hassign : ∀ (l : Nat) (s : List UInt8) (W : World) (K : Act → World → Prop), K (a₁ s) W → assign.wpIn (Fence.wide.inRound l) 1 Tryz.prog (Exit.then K (fun _ _ _ => False)) { tmps := ((#[18] : Array Tmp).zip #[.string ⟨s.toArray⟩]).foldl (fun t (p, v) => t.setIfInBounds p v) a.tmps, defers := [] } W)
    (hbody : ∀ (l : Nat) (s q : List UInt8) (L : Loop) (W : World), PB w q L W → body.wpIn (Fence.wide.inRound l) 1 Tryz.prog (bodyQ w q L s) (a₁ s) W)
    (hdone : ∀ q L W, rp t = true → PB w q L W → Q .normal { a with defers := { target := .collected (w.heap.size + 2), args := #[] } :: a.defers } W)
    (hstop : ∀ q L W, rp t = false → PB w q L W → Code.ret.wpIn Fence.wide 3 Tryz.prog Q { a with defers := { target := .collected (w.heap.size + 2), args := #[] } :: a.defers } W) :
    (Code.rangeFunc (.tmp 17) #[18] assign body).wpIn Fence.wide 3 Tryz.prog Q a w2 := by
  refine wpIn_rangeFunc ?_
  intro fn hfn
  obtain ⟨rec, hrec⟩ : ∃ rec : LoopState → Option Code → Loop, rec = fun st pe => { state := st, pending := pe, fn, tmps := a.tmps, params := #[18], assign, body, defers := w.heap.size + 2 } := ⟨_, rfl⟩
  have he : (Instr.enterLoop fn a.tmps #[18] assign body Fence.wide.round).run Tryz.prog w2 = .ok (w.heap.size + 3, [{ target := .collected (w.heap.size + 2), args := #[] }]) ((w2.alloc (.deferred (some []))).alloc (.loop (rec .ready none))) := by
    have h := run_enterLoop_outer (P := Tryz.prog) (w := w2) fn a.tmps #[18] assign body
    rw [hsz] at h
    rw [hrec]
    exact h
  have hp : PB w (47 :: t) (rec .ready none) ((w2.alloc (.deferred (some []))).alloc (.loop (rec .ready none))) := by
    refine ⟨(fr.alloc _).alloc _, ((h1.alloc _).alloc _ : Boxed _ _ _ _), ((h2.alloc _).alloc _ : Boxed _ _ _ _), ?_, ?_⟩
    · have := heap_alloc_new w2 (.deferred (some []))
      rw [hsz] at this
      exact (Below.heap_alloc _ _ _ (by simp [hsz])).trans this
    · have := heap_alloc_new (w2.alloc (.deferred (some []))) (.loop (rec .ready none))
      rw [World.size_alloc, hsz] at this
      exact this
  generalize (w2.alloc (.deferred (some []))).alloc (.loop (rec .ready none)) = W1 at he hp
  have eg : ∀ args w, (callFunc 183 args).run Tryz.prog w = .ok (.enter 183 args) w := enters_of Tryz.func183 (by kernel_rfl) rfl
  refine ⟨w.heap.size + 3, [{ target := .collected (w.heap.size + 2), args := #[] }], W1, { target := .fn (.func 183) #[.pointer (some ⟨w.heap.size + 1, 0, none⟩)], args := #[.func (.yield (w.heap.size + 3)) #[] #[]] }, W1, 183,
    #[.func (.yield (w.heap.size + 3)) #[] #[]] ++ #[.pointer (some ⟨w.heap.size + 1, 0, none⟩)], W1, he, ?_, (fun _ _ => trivial), ?_, (fun h => by cases h), ?_⟩
  · simp only [resolve, ha]
    simp [go_sem]
  · simp [invoke, go_sem, eg]
  · refine (parts1_in 2 w W1 t rec htl ?_ hp).mono ?_
    · intro W q s hq
      have hy := run_yield (P := Tryz.prog) (args := #[.string ⟨s.toArray⟩]) hq.lp (by rw [hrec]; rfl)
      rw [hrec] at hy
      refine ⟨fn, _, assign, body, hy, roundIn_of_wpIn hfn ?_⟩
      refine hassign _ s W _ ?_
      refine ⟨_, run_beginRound hq.lp (by rw [hrec]), ?_⟩
      refine wpIn_mono (hbody _ s q _ _ (hq.put _)) ?_
      intro e a3 W3 hp3
      cases e with
      | normal =>
        have hr := run_endRound (P := Tryz.prog) none hp3.2.lp
        exact ⟨_, _, hr, .inl ⟨hp3.1, rfl, by have := hp3.2.put (rec .ready none); rw [hrec] at this ⊢; exact this⟩⟩
      | ret =>
        have hr := run_endRound (P := Tryz.prog) (some .ret) hp3.2.lp
        exact ⟨_, _, hr, .inr ⟨hp3.1, rfl, by have := hp3.2.put (rec .done (some .ret)); rw [hrec] at this ⊢; exact this⟩⟩
      | exit id => exact hp3.elim
      | goto t => exact hp3.elim
      | panic ch => exact hp3.elim
      | outgrown => exact hp3.elim
    · rintro e W2 ⟨⟨v, rfl⟩, ⟨ht, q, hq⟩ | ⟨ht, q, hq⟩⟩
      · have hr := run_endLoop (P := Tryz.prog) hq.lp (by rw [hrec]; simp)
        rw [hrec] at hr
        exact ⟨none, _, hr, hdone q _ _ ht (hq.put _)⟩
      · have hr := run_endLoop (P := Tryz.prog) hq.lp (by rw [hrec]; simp)
        rw [hrec] at hr
        exact ⟨some .ret, _, hr, hstop q _ _ ht (hq.put _)⟩

set_option maxRecDepth 100000 in
set_option maxHeartbeats 4000000 in
theorem pcheck_calls (l : List UInt8) (w : World) (hl : l.length ≤ 140737488400000) :
    Calls Tryz.prog 159 #[.string ⟨l.toArray⟩] w fun e w' => e = .returned (.bool (pchk l)) ∧ Fr NoB w w' := by
  refine (callsIn_wide (n := 3)).1 ?_
  refine callsIn_of_wp_marks Tryz.func159 rfl trivial ?_ rfl
  simp only [Tryz.ntmps159, List.size_toArray, List.length_cons, List.length_nil, Nat.reduceAdd, Nat.reduceSub, Array.replicate_succ, Array.replicate_zero, List.push_toArray, List.append_toArray, List.nil_append, List.cons_append]
  have h1 := Boxed.new w 4 (.bool false)
  have hc1 := h1.cell
  have hf1 := h1.frozen
  have fr1 := (Fr.refl NoB w).alloc (.cells #[.bool false] 4)
  generalize hw1 : w.alloc (.cells #[.bool false] 4) = w1 at h1 hc1 hf1 fr1
  have hsz1 : w1.heap.size = w.heap.size + 1 := by rw [← hw1]; simp
  have hc2 := (Boxed.set (.bool false) h1).cell
  have fr2 := fr1.setCell (p := ⟨w.heap.size, 0, none⟩) (fun hx => by simp at hx) (.bool false)
  have hend := fun tmps ht => pcheck_end tmps w.heap.size _ false ht hc2
  rcases l with _ | ⟨c, t⟩
  · gi_wp2
    exact ⟨.bool false, hend _ rfl, rfl, fr2⟩
  have hg : ∀ h, (ByteArray.mk (c :: t).toArray)[0]'h = c := fun _ => rfl
  by_cases hc47 : c = 47
  rotate_left
  · have hcc : ¬ (c.toNat : Int) = 47 := by47 hc47
    have hck : pchk (c :: t) = false := by unfold pchk; simp [hc47]
    rw [hck]
    gi_wp2
    exact ⟨.bool false, hend _ rfl, rfl, fr2⟩
  subst hc47
  by_cases hlt : 200 < (47 :: t).length
  · have hll : 200 < (t.length : Int) + 1 := by simp at hlt; omega
    have hck : pchk (47 :: t) = false := by
      unfold pchk
      simp only [Bool.and_eq_false_iff, decide_eq_false_iff_not]
      exact .inr (.inl (by omega))
    rw [hck]
    gi_wp2
    exact ⟨.bool false, hend _ rfl, rfl, fr2⟩
  have hll : (t.length : Int) + 1 ≤ 200 := by simp at hlt; omega
  have htl : t.length ≤ 200 := by omega
  have hck : pchk (47 :: t) = rp t := by
    unfold pchk
    simp [show t.length + 1 ≤ 200 by omega]
  rw [hck]
  clear hck hlt hl hend fr2 hc2
  gi_wp2_with (refine ⟨trivial, ?_⟩; gi_at_call 176; refine (callsIn_wide.2 (pparts_calls _ _)).mono ?_; rintro e w' ⟨rfl, rfl⟩)
  have h2 := Boxed.new w1 9 (.string (ByteArray.mk (47 :: t).toArray))
  have h1b := h1.alloc (.cells #[.string (ByteArray.mk (47 :: t).toArray)] 9)
  have fr2 := fr1.alloc (.cells #[.string (ByteArray.mk (47 :: t).toArray)] 9)
  rw [hsz1] at h2
  generalize hw2 : w1.alloc (.cells #[.string (ByteArray.mk (47 :: t).toArray)] 9) = w2 at h2 h1b fr2
  have hsz2 : w2.heap.size = w.heap.size + 2 := by rw [← hw2]; simp [hsz1]
  clear hw2 hw1 h1 hc1 hf1 fr1 hsz1 w1
  refine range_parts htl (fun s => { tmps := #[.string ⟨(47 :: t).toArray⟩, undef, .pointer (some ⟨w.heap.size, 0, none⟩), .string ⟨s.toArray⟩, .string ⟨(47 :: t).toArray⟩, .bool false, .bool false, .string ⟨(47 :: t).toArray⟩, .int .u8 47, .bool false, .bool false, .bool false, .string ⟨(47 :: t).toArray⟩, .int .i64 ((t.length : Int) + 1), .bool (decide (200 < (t.length : Int) + 1)), .bool (decide (200 < (t.length : Int) + 1)), .string ⟨(47 :: t).toArray⟩, .func (.func 183) #[] #[.pointer (some ⟨w.heap.size + 1, 0, none⟩)], .string ⟨s.toArray⟩, undef, undef, undef], defers := [] }) rfl h1b h2 fr2 hsz2 ?assign ?body ?done ?stop
  case assign =>
    intro l s W K hK
    gi_wp2
    exact hK
  case body =>
    intro l s q L W hp
    have hc := hp.resCell.1
    have hf := hp.resCell.2
    gi_wp2_with (refine ⟨trivial, ?_⟩; gi_at_call 177; refine (CallsIn.inRound l (callsIn_wide.2 (part_calls s _))).mono ?_; rintro e w' ⟨rfl, pos, hw'⟩; have hp2 : PB w q L w' := (by rw [hw']; exact hp.alloc _); clear hw'; have hc2 := hp2.resCell.1; have hf2 := hp2.resCell.2)
    · rename_i hno
      exact ⟨by simpa using hno, hp2.setRes⟩
    · rename_i hno
      exact ⟨by simpa using hno, hp2⟩
  case done =>
    intro q L W ht hp
    have hc := hp.resCell.1
    have hf := hp.resCell.2
    gi_wp2
    have hK := (Below.heap_setCell W ⟨w.heap.size, 0, none⟩ (.bool true) (w.heap.size + 2) (by simp)).trans hp.dfr
    refine ⟨by simp, .inl ⟨_, _, rfl, run_takeDeferred hK, ?_⟩⟩
    have hb : Boxed ((W.setCell ⟨w.heap.size, 0, none⟩ (.bool true)).putObj (w.heap.size + 2) (.deferred none)) w.heap.size 4 (.bool true) := (World.putObj_heap_other (by omega)).trans (Boxed.set (.bool true) hp.res : Boxed _ _ _ _)
    exact ⟨.bool true, pcheck_end _ w.heap.size _ true rfl hb.cell, by rw [ht], (hp.fr.setCell (fun hx => by simp at hx) _).putObj (by omega) _⟩
  case stop =>
    intro q L W ht hp
    gi_wp2
    refine ⟨by simp, .inl ⟨_, _, rfl, run_takeDeferred hp.dfr, ?_⟩⟩
    have hb : Boxed (W.putObj (w.heap.size + 2) (.deferred none)) w.heap.size 4 (.bool false) := (World.putObj_heap_other (by omega)).trans hp.res
    exact ⟨.bool false, pcheck_end _ w.heap.size _ false rfl hb.cell, by rw [ht], hp.fr.putObj (by omega) _⟩
end Go.Proofs.YtmlmbahimklfiaaGreatDoor

/-
  Ptb: strings.Cut at a slash.
-/
import Derived.Test.YtljioepkbbbibaaDoorPta
import Derived.Shelf.RegionOpen
namespace Go.Proofs.YtljioepkbbbibaaDoor
open Go.RowKit

theorem ib_none {c : UInt8} : ∀ {a : List UInt8}, c ∉ a → Lib.indexByte a c = -1
  | [], _ => rfl
  | x :: t, h => by
    simp only [List.mem_cons, not_or] at h
    unfold Lib.indexByte
    rw [ib_none h.2]
    simp [Ne.symm h.1]
theorem ib_some {c : UInt8} (b : List UInt8) : ∀ {a : List UInt8}, c ∉ a → Lib.indexByte (a ++ c :: b) c = a.length
  | [], _ => by simp [Lib.indexByte]
  | x :: t, h => by
    simp only [List.mem_cons, not_or] at h
    simp only [List.cons_append]
    unfold Lib.indexByte
    rw [ib_some b h.2]
    simp [Ne.symm h.1]

/-- A part of a text. -/
theorem mk_ext (l : List UInt8) (i j : Nat) : (ByteArray.mk l.toArray).extract i j = ⟨((l.take j).drop i).toArray⟩ := by
  apply ByteArray.ext
  rw [ByteArray.data_extract]
  simp [List.drop_take]
theorem mk_app (a b : List UInt8) : (ByteArray.mk a.toArray) ++ (ByteArray.mk b.toArray) = ⟨(a ++ b).toArray⟩ := by
  apply ByteArray.ext
  rw [ByteArray.data_append]
  simp

theorem cutl_none (a : List UInt8) (w : World) (h : (47 : UInt8) ∉ a) :
    Calls Tryd.prog 105 #[.string ⟨a.toArray⟩, .string ⟨#[47]⟩] w fun e w' => e = .returned (.tuple #[.string ⟨a.toArray⟩, .string ⟨#[]⟩, .bool false]) ∧ ∃ n, w' = w.drewN n := by
  have hi : Lib.indexByte (ByteArray.mk a.toArray).data.toList 47 = -1 := by simpa using ib_none h
  go_enter Tryd.func105, Tryd.ntmps105
  go_wp2_with (refine (Tryd.stringslite_Index_one _ 47 _).mono ?_; rintro e w' ⟨rfl, rfl⟩; rw [hi])
  go_ret3
  exact ⟨rfl, 0, rfl⟩
theorem cutl_some (a b : List UInt8) (w : World) (h : (47 : UInt8) ∉ a) (hl : a.length + b.length ≤ 140737488355328) :
    Calls Tryd.prog 105 #[.string ⟨(a ++ 47 :: b).toArray⟩, .string ⟨#[47]⟩] w fun e w' => e = .returned (.tuple #[.string ⟨a.toArray⟩, .string ⟨b.toArray⟩, .bool true]) ∧ ∃ n, w' = w.drewN n := by
  have hi : Lib.indexByte (ByteArray.mk (a ++ 47 :: b).toArray).data.toList 47 = (a.length : Int) := by simpa using ib_some b h
  have hz : (ByteArray.mk (a ++ 47 :: b).toArray).size = a.length + 1 + b.length := by rw [mk_size]; simp; omega
  have e1 : (ByteArray.mk (a ++ 47 :: b).toArray).extract 0 a.length = ⟨a.toArray⟩ := by
    rw [mk_ext]; simp
  have e2 : (ByteArray.mk (a ++ 47 :: b).toArray).extract (a.length + 1) (a.length + 1 + b.length) = ⟨b.toArray⟩ := by
    rw [mk_ext, List.take_of_length_le (by simp; omega), show a.length + 1 = (a ++ [47]).length by simp, show a ++ 47 :: b = (a ++ [47]) ++ b by simp, List.drop_left]
  have c1 : (0 : Int) ≤ (a.length : Int) := by omega
  have c2 : (a.length : Int) ≤ ((ByteArray.mk (a ++ 47 :: b).toArray).size : Int) := by omega
  have c3 : (0 : Int) ≤ (a.length : Int) + 1 := by omega
  have c4 : (a.length : Int) + 1 ≤ ((ByteArray.mk (a ++ 47 :: b).toArray).size : Int) := by omega
  rw [← hz] at e2
  generalize hS : (ByteArray.mk (a ++ 47 :: b).toArray) = S at hi hz e1 e2 c2 c4
  clear hz hS
  have mixed : Tryd.prog.follows .mixedOrders = true := by kernel_rfl
  go_enter Tryd.func105, Tryd.ntmps105
  go_wp2_with (refine (Tryd.stringslite_Index_one _ 47 _).mono ?_; rintro e w' ⟨rfl, rfl⟩; rw [hi])
  go_region_o
  go_wp2
  go_ret3
  exact ⟨rfl, 1, rfl⟩

theorem cut_none (a : List UInt8) (w : World) (h : (47 : UInt8) ∉ a) :
    Calls Tryd.prog 100 #[.string ⟨a.toArray⟩, .string ⟨#[47]⟩] w fun e w' => e = .returned (.tuple #[.string ⟨a.toArray⟩, .string ⟨#[]⟩, .bool false]) ∧ ∃ n, w' = w.drewN n := by
  go_enter Tryd.func100, Tryd.ntmps100
  go_wp2_with (refine (cutl_none a _ h).mono ?_; rintro e w' ⟨rfl, n, rfl⟩)
  go_ret3
  exact ⟨rfl, n, rfl⟩
theorem cut_some (a b : List UInt8) (w : World) (h : (47 : UInt8) ∉ a) (hl : a.length + b.length ≤ 140737488355328) :
    Calls Tryd.prog 100 #[.string ⟨(a ++ 47 :: b).toArray⟩, .string ⟨#[47]⟩] w fun e w' => e = .returned (.tuple #[.string ⟨a.toArray⟩, .string ⟨b.toArray⟩, .bool true]) ∧ ∃ n, w' = w.drewN n := by
  have hc := fun W => cutl_some a b W h hl
  generalize (a ++ 47 :: b) = S at hc
  go_enter Tryd.func100, Tryd.ntmps100
  go_wp2_with (refine (hc _).mono ?_; rintro e w' ⟨rfl, n, rfl⟩)
  go_ret3
  exact ⟨rfl, n, rfl⟩

/-- The parts between slashes. -/
def spl : List UInt8 → List (List UInt8)
  | [] => [[]]
  | c :: t => if c = 47 then [] :: spl t else match spl t with | [] => [[c]] | h :: r => (c :: h) :: r
theorem spl_none : ∀ {a : List UInt8}, (47 : UInt8) ∉ a → spl a = [a]
  | [], _ => rfl
  | c :: t, h => by
    simp only [List.mem_cons, not_or] at h
    unfold spl
    rw [if_neg (Ne.symm h.1), spl_none h.2]
theorem spl_some (b : List UInt8) : ∀ {a : List UInt8}, (47 : UInt8) ∉ a → spl (a ++ 47 :: b) = a :: spl b
  | [], _ => by simp [spl]
  | c :: t, h => by
    simp only [List.mem_cons, not_or] at h
    rw [show spl (c :: t ++ 47 :: b) = (if c = 47 then [] :: spl (t ++ 47 :: b) else match spl (t ++ 47 :: b) with | [] => [[c]] | h :: r => (c :: h) :: r) from rfl, if_neg (Ne.symm h.1), spl_some b h.2]
theorem cutAt : ∀ l : List UInt8, (47 : UInt8) ∉ l ∨ ∃ a b, l = a ++ 47 :: b ∧ (47 : UInt8) ∉ a
  | [] => .inl (by simp)
  | c :: t => by
    by_cases hc : c = 47
    · exact .inr ⟨[], t, by simp [hc], by simp⟩
    · rcases cutAt t with h | ⟨a, b, rfl, h⟩
      · exact .inl (by simp [h, Ne.symm hc])
      · exact .inr ⟨c :: a, b, rfl, by simp [h, Ne.symm hc]⟩
/-- What stands behind a path's first slash is right. -/
def rp (t : List UInt8) : Bool := t == [] || (spl t).all partOk
theorem rp_none {t : List UInt8} (ht : t ≠ []) (h : (47 : UInt8) ∉ t) : rp t = partOk t := by
  unfold rp
  rw [spl_none h]
  simp [ht]
theorem rp_some (a b : List UInt8) (h : (47 : UInt8) ∉ a) : rp (a ++ 47 :: b) = (partOk a && (b != [] && rp b)) := by
  have hn : ((a ++ 47 :: b) == []) = false := by cases a <;> rfl
  unfold rp
  rw [spl_some b h, hn]
  cases b with
  | nil => simp [spl, partOk]
  | cons x y => simp [bne]
end Go.Proofs.YtljioepkbbbibaaDoor

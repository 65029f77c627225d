/-
  Deb: deeds as values of the machine; fits.
-/
import Derived.Test.YtljioepkbbbibaaDoorDea
namespace Go.Proofs.YtljioepkbbbibaaDoor
open Go.RowKit

/-- The table of what kinds have, as the program's text lays it. -/
def Has (w : World) : Prop := 0 < w.heap.size ∧ ∀ i : Nat, i < 10 → w.cell? ⟨0, i, none⟩ = some (.int .i64 (hasN i))
theorem Has.fr {w w' : World} (h : Has w) (f : Fr NoB w w') : Has w' := ⟨Nat.lt_of_lt_of_le h.1 f.size, fun i hi => (f.cell (p := ⟨0, i, none⟩) h.1 (fun x => x)).trans (h.2 i hi)⟩
/-- Where a deed's lists lie. -/
structure Pl where
  A : Option Addr
  c : Nat
  B : Option Addr
  d : Nat
  P : Option Addr
  e : Nat
/-- A deed of np parts as cells, as a value. -/
def dcells (f : Fd) (p : Pl) (np : Nat) : Array Value := #[.int .i64 f.z, .int .u8 f.k, .int .i64 f.s, .int .i64 f.t, .int .i64 f.x, .int .i64 f.m, .string ⟨f.path.toArray⟩, .slice p.A f.data.length p.c, .int .i64 f.ow, .int .i64 f.ve, .int .i64 f.cv, .int .i64 f.ti, .int .i64 f.er, .int .i64 f.c.1, .slice p.B f.c.2.length p.d, .slice p.P np p.e]
def dval (f : Fd) (p : Pl) (np : Nat) : Value := .agg (dcells f p np)

theorem Has.box {w : World} (h : Has w) (f : Fd) (p : Pl) (np : Nat) (k : Nat) (hk : k < 10) : (w.alloc (.cells (dcells f p np) 31)).cell? ⟨0, k, none⟩ = some (.int .i64 (hasN k)) :=
  (h.fr ((Fr.refl NoB w).alloc _)).2 k hk

/- fits -/
theorem dbox_cells {w : World} {b : Nat} {t : TypeId} (f : Fd) (p : Pl) (np : Nat) (h : w.heap[b]? = some (.cells (dcells f p np) t (0, 0))) :
    w.cell? ⟨b, 0, none⟩ = some (.int .i64 f.z) ∧ w.cell? ⟨b, 1, none⟩ = some (.int .u8 f.k) ∧ w.cell? ⟨b, 2, none⟩ = some (.int .i64 f.s) ∧ w.cell? ⟨b, 3, none⟩ = some (.int .i64 f.t) ∧ w.cell? ⟨b, 4, none⟩ = some (.int .i64 f.x) ∧ w.cell? ⟨b, 5, none⟩ = some (.int .i64 f.m) ∧ w.cell? ⟨b, 6, none⟩ = some (.string ⟨f.path.toArray⟩) ∧ w.cell? ⟨b, 7, none⟩ = some (.slice p.A f.data.length p.c) ∧
    w.cell? ⟨b, 8, none⟩ = some (.int .i64 f.ow) ∧ w.cell? ⟨b, 9, none⟩ = some (.int .i64 f.ve) ∧ w.cell? ⟨b, 10, none⟩ = some (.int .i64 f.cv) ∧ w.cell? ⟨b, 11, none⟩ = some (.int .i64 f.ti) ∧ w.cell? ⟨b, 12, none⟩ = some (.int .i64 f.er) ∧ w.cell? ⟨b, 13, none⟩ = some (.int .i64 f.c.1) ∧ w.cell? ⟨b, 14, none⟩ = some (.slice p.B f.c.2.length p.d) ∧ w.cell? ⟨b, 15, none⟩ = some (.slice p.P np p.e) :=
  ⟨(cells_of h 0).1, (cells_of h 1).1, (cells_of h 2).1, (cells_of h 3).1, (cells_of h 4).1, (cells_of h 5).1, (cells_of h 6).1, (cells_of h 7).1, (cells_of h 8).1, (cells_of h 9).1, (cells_of h 10).1, (cells_of h 11).1, (cells_of h 12).1, (cells_of h 13).1, (cells_of h 14).1, (cells_of h 15).1⟩
theorem FitsD.of1 {f : Fd} {np : Nat} (h : FitsD f np) (hk : f.k = 1) : Fits1 f np := by
  rcases h with h | h | h | h | h | h | h | h | h <;> first | exact h | exact absurd (hk.symm.trans h.1) (by decide)
theorem FitsD.of2 {f : Fd} {np : Nat} (h : FitsD f np) (hk : f.k = 2) : Fits2 f np := by
  rcases h with h | h | h | h | h | h | h | h | h <;> first | exact h | exact absurd (hk.symm.trans h.1) (by decide)
theorem FitsD.of3 {f : Fd} {np : Nat} (h : FitsD f np) (hk : f.k = 3) : Fits3 f np := by
  rcases h with h | h | h | h | h | h | h | h | h <;> first | exact h | exact absurd (hk.symm.trans h.1) (by decide)
theorem FitsD.of4 {f : Fd} {np : Nat} (h : FitsD f np) (hk : f.k = 4) : Fits4 f np := by
  rcases h with h | h | h | h | h | h | h | h | h <;> first | exact h | exact absurd (hk.symm.trans h.1) (by decide)
theorem FitsD.of5 {f : Fd} {np : Nat} (h : FitsD f np) (hk : f.k = 5) : Fits5 f np := by
  rcases h with h | h | h | h | h | h | h | h | h <;> first | exact h | exact absurd (hk.symm.trans h.1) (by decide)
theorem FitsD.of6 {f : Fd} {np : Nat} (h : FitsD f np) (hk : f.k = 6) : Fits6 f np := by
  rcases h with h | h | h | h | h | h | h | h | h <;> first | exact h | exact absurd (hk.symm.trans h.1) (by decide)
theorem FitsD.of7 {f : Fd} {np : Nat} (h : FitsD f np) (hk : f.k = 7) : Fits7 f np := by
  rcases h with h | h | h | h | h | h | h | h | h <;> first | exact h | exact absurd (hk.symm.trans h.1) (by decide)
theorem FitsD.of8 {f : Fd} {np : Nat} (h : FitsD f np) (hk : f.k = 8) : Fits8 f np := by
  rcases h with h | h | h | h | h | h | h | h | h <;> first | exact h | exact absurd (hk.symm.trans h.1) (by decide)
theorem FitsD.of9 {f : Fd} {np : Nat} (h : FitsD f np) (hk : f.k = 9) : Fits9 f np := by
  rcases h with h | h | h | h | h | h | h | h | h <;> first | exact h | exact absurd (hk.symm.trans h.1) (by decide)
theorem pne {path : List UInt8} (h : path ≠ []) : ((⟨path.toArray⟩ : ByteArray) == ⟨#[]⟩) = false := by
  rw [show (⟨#[]⟩ : ByteArray) = ⟨([] : List UInt8).toArray⟩ from rfl, mk_eq]; simpa using h
theorem nf1 {z s t x m ow ve cv ti er cver : Int} {path data : List UInt8} {ms : List Mem} {np : Nat} (hf : ¬ FitsD ⟨z, 1, s, t, x, m, path, data, ow, ve, cv, ti, er, (cver, ms)⟩ np) (h0 : (ve != 0) = false) (h1 : (ti != 0) = false) (h2 : (er != 0) = false) (h3 : ¬ 0 < np) (h4 : cver = 0) (h5 : ¬ 0 < ms.length) (h6 : pchk path = true) (h7 : (data.length : Int) ≤ 1000) (h8 : 0 ≤ ow) (h9 : 0 ≤ cv) : (!path == [47]) = false := by
  rw [Bool.eq_false_iff]
  intro hg
  apply hf
  have hms : ms = [] ∨ ms ≠ [] := Decidable.em _
  have hda : data = [] ∨ data ≠ [] := Decidable.em _
  refine (.inl ?_)
  simp only [Fits1, Fd.cz]
  simp only [bne_eq_false_iff_eq, Bool.not_eq_true', beq_eq_false_iff_ne, Nat.not_lt, Nat.le_zero, List.length_eq_zero_iff] at *
  (repeat' apply And.intro) <;> first | rfl | assumption | trivial | omega
theorem nf2 {z s t x m ow ve cv ti er cver : Int} {path data : List UInt8} {ms : List Mem} {np : Nat} (hf : ¬ FitsD ⟨z, 2, s, t, x, m, path, data, ow, ve, cv, ti, er, (cver, ms)⟩ np) (h0 : ¬ 0 < data.length) (h1 : (ow != 0) = false) (h2 : (ve != 0) = false) (h3 : (ti != 0) = false) (h4 : (er != 0) = false) (h5 : ¬ 0 < np) (h6 : cver = 0) (h7 : ¬ 0 < ms.length) (h8 : pchk path = true) (h9 : 0 ≤ cv) : (!path == [47]) = false := by
  rw [Bool.eq_false_iff]
  intro hg
  apply hf
  have hms : ms = [] ∨ ms ≠ [] := Decidable.em _
  have hda : data = [] ∨ data ≠ [] := Decidable.em _
  refine (.inr (.inl ?_))
  simp only [Fits2, Fd.cz]
  simp only [bne_eq_false_iff_eq, Bool.not_eq_true', beq_eq_false_iff_ne, Nat.not_lt, Nat.le_zero, List.length_eq_zero_iff] at *
  (repeat' apply And.intro) <;> first | rfl | assumption | trivial | omega
theorem nf3 {z s t x m ow ve cv ti er cver : Int} {path data : List UInt8} {ms : List Mem} {np : Nat} (hf : ¬ FitsD ⟨z, 3, s, t, x, m, path, data, ow, ve, cv, ti, er, (cver, ms)⟩ np) (h0 : (ow != 0) = false) (h1 : (cv != 0) = false) (h2 : (ti != 0) = false) (h3 : (er != 0) = false) (h4 : ¬ 0 < np) (h5 : cver = 0) (h6 : ¬ 0 < ms.length) (h7 : pchk path = true) (h8 : (data.length : Int) ≤ 1000) (h9 : 0 ≤ ve) : true = false := by
  rw [Bool.eq_false_iff]
  intro hg
  apply hf
  have hms : ms = [] ∨ ms ≠ [] := Decidable.em _
  have hda : data = [] ∨ data ≠ [] := Decidable.em _
  refine (.inr (.inr (.inl ?_)))
  simp only [Fits3, Fd.cz]
  simp only [bne_eq_false_iff_eq, Nat.not_lt, Nat.le_zero, List.length_eq_zero_iff] at *
  (repeat' apply And.intro) <;> first | rfl | assumption | trivial | omega
theorem nf4 {z s t x m ow ve cv ti er cver : Int} {path data : List UInt8} {ms : List Mem} {np : Nat} (hf : ¬ FitsD ⟨z, 4, s, t, x, m, path, data, ow, ve, cv, ti, er, (cver, ms)⟩ np) (h0 : (!path.isEmpty) = false) (h1 : ¬ 0 < data.length) (h2 : (ow != 0) = false) (h3 : (ve != 0) = false) (h4 : (cv != 0) = false) (h5 : (er != 0) = false) (h6 : ¬ 0 < np) (h7 : cver = 0) (h8 : ¬ 0 < ms.length) (h9 : 1 ≤ ti) : decide (ti ≤ 1000) = false := by
  rw [Bool.eq_false_iff]
  intro hg
  apply hf
  have hms : ms = [] ∨ ms ≠ [] := Decidable.em _
  have hda : data = [] ∨ data ≠ [] := Decidable.em _
  refine (.inr (.inr (.inr (.inl ?_))))
  simp only [Fits4, Fd.cz]
  simp only [bne_eq_false_iff_eq, Bool.not_eq_false', List.isEmpty_iff, decide_eq_true_eq, Nat.not_lt, Nat.le_zero, List.length_eq_zero_iff] at *
  (repeat' apply And.intro) <;> first | rfl | assumption | trivial | omega
theorem nf5 {z s t x m ow ve cv ti er cver : Int} {path data : List UInt8} {ms : List Mem} {np : Nat} (hf : ¬ FitsD ⟨z, 5, s, t, x, m, path, data, ow, ve, cv, ti, er, (cver, ms)⟩ np) (h0 : (!path.isEmpty) = false) (h1 : ¬ 0 < data.length) (h2 : (ve != 0) = false) (h3 : (cv != 0) = false) (h4 : (ti != 0) = false) (h5 : (er != 0) = false) (h6 : cver = 0) (h7 : ¬ 0 < ms.length) : decide (1 ≤ ow) = false := by
  rw [Bool.eq_false_iff]
  intro hg
  apply hf
  have hms : ms = [] ∨ ms ≠ [] := Decidable.em _
  have hda : data = [] ∨ data ≠ [] := Decidable.em _
  refine (.inr (.inr (.inr (.inr (.inl ?_)))))
  simp only [Fits5, Fd.cz]
  simp only [bne_eq_false_iff_eq, Bool.not_eq_false', List.isEmpty_iff, decide_eq_true_eq, Nat.not_lt, Nat.le_zero, List.length_eq_zero_iff] at *
  (repeat' apply And.intro) <;> first | rfl | assumption | trivial | omega
theorem nf6 {z s t x m ow ve cv ti er cver : Int} {path data : List UInt8} {ms : List Mem} {np : Nat} (hf : ¬ FitsD ⟨z, 6, s, t, x, m, path, data, ow, ve, cv, ti, er, (cver, ms)⟩ np) (h0 : (!path.isEmpty) = false) (h1 : ¬ 0 < data.length) (h2 : (ow != 0) = false) (h3 : (ve != 0) = false) (h4 : (cv != 0) = false) (h5 : (ti != 0) = false) (h6 : (er != 0) = false) (h7 : ¬ 0 < np) (h8 : cver = 0) (h9 : ¬ 0 < ms.length) : true = false := by
  rw [Bool.eq_false_iff]
  intro hg
  apply hf
  have hms : ms = [] ∨ ms ≠ [] := Decidable.em _
  have hda : data = [] ∨ data ≠ [] := Decidable.em _
  refine (.inr (.inr (.inr (.inr (.inr (.inl ?_))))))
  simp only [Fits6, Fd.cz]
  simp only [bne_eq_false_iff_eq, Bool.not_eq_false', List.isEmpty_iff, Nat.not_lt, Nat.le_zero, List.length_eq_zero_iff] at *
  (repeat' apply And.intro) <;> first | rfl | assumption | trivial | omega
theorem nf7 {z s t x m ow ve cv ti er cver : Int} {path data : List UInt8} {ms : List Mem} {np : Nat} (hf : ¬ FitsD ⟨z, 7, s, t, x, m, path, data, ow, ve, cv, ti, er, (cver, ms)⟩ np) (h0 : (!path.isEmpty) = false) (h1 : ¬ 0 < data.length) (h2 : (ow != 0) = false) (h3 : (ve != 0) = false) (h4 : (cv != 0) = false) (h5 : (ti != 0) = false) (h6 : (er != 0) = false) (h7 : ¬ 0 < np) : true = false := by
  rw [Bool.eq_false_iff]
  intro hg
  apply hf
  have hms : ms = [] ∨ ms ≠ [] := Decidable.em _
  have hda : data = [] ∨ data ≠ [] := Decidable.em _
  refine (.inr (.inr (.inr (.inr (.inr (.inr (.inl ?_)))))))
  simp only [Fits7]
  simp only [bne_eq_false_iff_eq, Bool.not_eq_false', List.isEmpty_iff, Nat.not_lt, Nat.le_zero, List.length_eq_zero_iff] at *
  (repeat' apply And.intro) <;> first | rfl | assumption | trivial | omega
theorem nf8 {z s t x m ow ve cv ti er cver : Int} {path data : List UInt8} {ms : List Mem} {np : Nat} (hf : ¬ FitsD ⟨z, 8, s, t, x, m, path, data, ow, ve, cv, ti, er, (cver, ms)⟩ np) (h0 : (!path.isEmpty) = false) (h1 : ¬ 0 < data.length) (h2 : (ow != 0) = false) (h3 : (ve != 0) = false) (h4 : (cv != 0) = false) (h5 : (ti != 0) = false) (h6 : (er != 0) = false) (h7 : cver = 0) (h8 : ¬ 0 < ms.length) : true = false := by
  rw [Bool.eq_false_iff]
  intro hg
  apply hf
  have hms : ms = [] ∨ ms ≠ [] := Decidable.em _
  have hda : data = [] ∨ data ≠ [] := Decidable.em _
  refine (.inr (.inr (.inr (.inr (.inr (.inr (.inr (.inl ?_))))))))
  simp only [Fits8, Fd.cz]
  simp only [bne_eq_false_iff_eq, Bool.not_eq_false', List.isEmpty_iff, Nat.not_lt, Nat.le_zero, List.length_eq_zero_iff] at *
  (repeat' apply And.intro) <;> first | rfl | assumption | trivial | omega
theorem nf9 {z s t x m ow ve cv ti er cver : Int} {path data : List UInt8} {ms : List Mem} {np : Nat} (hf : ¬ FitsD ⟨z, 9, s, t, x, m, path, data, ow, ve, cv, ti, er, (cver, ms)⟩ np) (h0 : (!path.isEmpty) = false) (h1 : ¬ 0 < data.length) (h2 : (ow != 0) = false) (h3 : (ve != 0) = false) (h4 : (cv != 0) = false) (h5 : (ti != 0) = false) (h6 : ¬ 0 < np) (h7 : cver = 0) (h8 : ¬ 0 < ms.length) : decide (1 ≤ er) = false := by
  rw [Bool.eq_false_iff]
  intro hg
  apply hf
  have hms : ms = [] ∨ ms ≠ [] := Decidable.em _
  have hda : data = [] ∨ data ≠ [] := Decidable.em _
  refine (.inr (.inr (.inr (.inr (.inr (.inr (.inr (.inr ?_))))))))
  simp only [Fits9, Fd.cz]
  simp only [bne_eq_false_iff_eq, Bool.not_eq_false', List.isEmpty_iff, decide_eq_true_eq, Nat.not_lt, Nat.le_zero, List.length_eq_zero_iff] at *
  (repeat' apply And.intro) <;> first | rfl | assumption | trivial | omega
end Go.Proofs.YtljioepkbbbibaaDoor

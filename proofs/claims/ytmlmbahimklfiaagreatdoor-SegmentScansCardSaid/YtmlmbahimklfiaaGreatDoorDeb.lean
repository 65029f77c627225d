/-
  Deb: Dea, Deb.
-/
import Derived.Test.YtmlmbahimklfiaaGreatDoorEnn
import Derived.Test.YtmlmbahimklfiaaGreatDoorPtd
/- Dea -/
namespace Go.Proofs.YtmlmbahimklfiaaGreatDoor
open Go.RowKit

/-- A deed without its parts. -/
structure Fd where
  z : Int
  k : Int
  s : Int
  t : Int
  x : Int
  m : Int
  path : List UInt8
  data : List UInt8
  ow : Int
  ve : Int
  cv : Int
  ti : Int
  er : Int
  c : Int × List Mem
/-- What the machine's kinds hold. -/
structure Fd.Ok (f : Fd) : Prop where
  z : -9223372036854775808 ≤ f.z ∧ f.z ≤ 9223372036854775807
  k : 0 ≤ f.k ∧ f.k ≤ 255
  s : -9223372036854775808 ≤ f.s ∧ f.s ≤ 9223372036854775807
  t : -9223372036854775808 ≤ f.t ∧ f.t ≤ 9223372036854775807
  x : -9223372036854775808 ≤ f.x ∧ f.x ≤ 9223372036854775807
  m : -9223372036854775808 ≤ f.m ∧ f.m ≤ 9223372036854775807
  ow : -9223372036854775808 ≤ f.ow ∧ f.ow ≤ 9223372036854775807
  ve : -9223372036854775808 ≤ f.ve ∧ f.ve ≤ 9223372036854775807
  cv : -9223372036854775808 ≤ f.cv ∧ f.cv ≤ 9223372036854775807
  ti : -9223372036854775808 ≤ f.ti ∧ f.ti ≤ 9223372036854775807
  er : -9223372036854775808 ≤ f.er ∧ f.er ≤ 9223372036854775807
  c : -9223372036854775808 ≤ f.c.1 ∧ f.c.1 ≤ 9223372036854775807
  path : f.path.length ≤ 140737488355328
  data : f.data.length ≤ 140737488355328
  ms : f.c.2.length ≤ 4398046510976

/-- What a kind has, as bits. -/
def hasN (k : Int) : Int := if k = 1 then 23 else if k = 2 then 17 else if k = 3 then 11 else if k = 4 then 32 else if k = 5 then 260 else if k = 6 then 0 else if k = 7 then 128 else if k = 8 then 256 else if k = 9 then 64 else 0
/-- No config. -/
def Fd.cz (f : Fd) : Prop := f.c.1 = 0 ∧ f.c.2 = []
instance (f : Fd) : Decidable f.cz := inferInstanceAs (Decidable (_ ∧ _))
/-- What a deed of each kind, with np parts, may have alone, within limits. -/
def Fits1 (f : Fd) (np : Nat) : Prop := f.k = 1 ∧ f.ve = 0 ∧ f.ti = 0 ∧ f.er = 0 ∧ np = 0 ∧ f.cz ∧ pchk f.path = true ∧ f.data.length ≤ 1000 ∧ 0 ≤ f.ow ∧ 0 ≤ f.cv ∧ f.path ≠ [47]
instance (f : Fd) (np : Nat) : Decidable (Fits1 f np) := by unfold Fits1; infer_instance
def Fits2 (f : Fd) (np : Nat) : Prop := f.k = 2 ∧ f.data = [] ∧ f.ow = 0 ∧ f.ve = 0 ∧ f.ti = 0 ∧ f.er = 0 ∧ np = 0 ∧ f.cz ∧ pchk f.path = true ∧ 0 ≤ f.cv ∧ f.path ≠ [47]
instance (f : Fd) (np : Nat) : Decidable (Fits2 f np) := by unfold Fits2; infer_instance
def Fits3 (f : Fd) (np : Nat) : Prop := f.k = 3 ∧ f.ow = 0 ∧ f.cv = 0 ∧ f.ti = 0 ∧ f.er = 0 ∧ np = 0 ∧ f.cz ∧ pchk f.path = true ∧ f.data.length ≤ 1000 ∧ 0 ≤ f.ve
instance (f : Fd) (np : Nat) : Decidable (Fits3 f np) := by unfold Fits3; infer_instance
def Fits4 (f : Fd) (np : Nat) : Prop := f.k = 4 ∧ f.path = [] ∧ f.data = [] ∧ f.ow = 0 ∧ f.ve = 0 ∧ f.cv = 0 ∧ f.er = 0 ∧ np = 0 ∧ f.cz ∧ 1 ≤ f.ti ∧ f.ti ≤ 1000
instance (f : Fd) (np : Nat) : Decidable (Fits4 f np) := by unfold Fits4; infer_instance
def Fits5 (f : Fd) (_np : Nat) : Prop := f.k = 5 ∧ f.path = [] ∧ f.data = [] ∧ f.ve = 0 ∧ f.cv = 0 ∧ f.ti = 0 ∧ f.er = 0 ∧ f.cz ∧ 1 ≤ f.ow
instance (f : Fd) (np : Nat) : Decidable (Fits5 f np) := by unfold Fits5; infer_instance
def Fits6 (f : Fd) (np : Nat) : Prop := f.k = 6 ∧ f.path = [] ∧ f.data = [] ∧ f.ow = 0 ∧ f.ve = 0 ∧ f.cv = 0 ∧ f.ti = 0 ∧ f.er = 0 ∧ np = 0 ∧ f.cz
instance (f : Fd) (np : Nat) : Decidable (Fits6 f np) := by unfold Fits6; infer_instance
def Fits7 (f : Fd) (np : Nat) : Prop := f.k = 7 ∧ f.path = [] ∧ f.data = [] ∧ f.ow = 0 ∧ f.ve = 0 ∧ f.cv = 0 ∧ f.ti = 0 ∧ f.er = 0 ∧ np = 0
instance (f : Fd) (np : Nat) : Decidable (Fits7 f np) := by unfold Fits7; infer_instance
def Fits8 (f : Fd) (_np : Nat) : Prop := f.k = 8 ∧ f.path = [] ∧ f.data = [] ∧ f.ow = 0 ∧ f.ve = 0 ∧ f.cv = 0 ∧ f.ti = 0 ∧ f.er = 0 ∧ f.cz
instance (f : Fd) (np : Nat) : Decidable (Fits8 f np) := by unfold Fits8; infer_instance
def Fits9 (f : Fd) (np : Nat) : Prop := f.k = 9 ∧ f.path = [] ∧ f.data = [] ∧ f.ow = 0 ∧ f.ve = 0 ∧ f.cv = 0 ∧ f.ti = 0 ∧ np = 0 ∧ f.cz ∧ 1 ≤ f.er
instance (f : Fd) (np : Nat) : Decidable (Fits9 f np) := by unfold Fits9; infer_instance
/-- A deed of np parts has what its kind may have alone, within limits. -/
def FitsD (f : Fd) (np : Nat) : Prop := Fits1 f np ∨ Fits2 f np ∨ Fits3 f np ∨ Fits4 f np ∨ Fits5 f np ∨ Fits6 f np ∨ Fits7 f np ∨ Fits8 f np ∨ Fits9 f np
instance (f : Fd) (np : Nat) : Decidable (FitsD f np) := by unfold FitsD; infer_instance
/-- A part, of which the last kind is that one. -/
def IsPart (last : Int) (p : Fd × Nat) : Prop := p.1.z = 0 ∧ p.1.s = 0 ∧ p.1.t = 0 ∧ p.1.x = 0 ∧ p.1.m = 0 ∧ FitsD p.1 p.2 ∧ p.1.k ≤ last ∧ (last = 2 → p.1.k = 2)
instance (last : Int) (p : Fd × Nat) : Decidable (IsPart last p) := by unfold IsPart; infer_instance
def PartsOk (l : List (Fd × Nat)) (least most : Nat) (last : Int) : Prop := least ≤ l.length ∧ l.length ≤ most ∧ ∀ p ∈ l, IsPart last p
instance (l : List (Fd × Nat)) (least most : Nat) (last : Int) : Decidable (PartsOk l least most last) := by unfold PartsOk; infer_instance
/-- A zxid may be. -/
def May (z : Int) : Prop := 0 ≤ z ∧ z / 4294967296 ≤ 1073741824
instance (z : Int) : Decidable (May z) := by unfold May; infer_instance
/-- A right deed. -/
def Right (f : Fd) (l : List (Fd × Nat)) : Prop :=
  1 ≤ f.z ∧ May f.z ∧ 0 ≤ f.s ∧ 0 ≤ f.t ∧ 0 ≤ f.x ∧ 0 ≤ f.m ∧ FitsD f l.length ∧ (f.k = 5 → PartsOk l 0 500 2) ∧ (f.k = 7 → chk f.c.1 f.c.2 = 0 ∧ f.c.1 = f.z) ∧ (f.k = 8 → PartsOk l 1 16 3)
instance (f : Fd) (l : List (Fd × Nat)) : Decidable (Right f l) := by unfold Right; infer_instance

/-- The bytes of what a kind has, but for parts. -/
def bodyB (f : Fd) : List UInt8 :=
  if f.k = 1 then textB f.path ++ (textB f.data ++ (intB f.ow ++ intB f.cv))
  else if f.k = 2 then textB f.path ++ intB f.cv
  else if f.k = 3 then textB f.path ++ (textB f.data ++ intB f.ve)
  else if f.k = 4 then intB f.ti
  else if f.k = 5 then intB f.ow
  else if f.k = 7 then textB (ensB f.c.1 f.c.2)
  else if f.k = 9 then intB f.er
  else []
def kindB (k : Int) : UInt8 := UInt8.ofNat k.toNat
def partsB : List (Fd × Nat) → List UInt8
  | [] => []
  | p :: l => kindB p.1.k :: (bodyB p.1 ++ partsB l)
def headB (f : Fd) : List UInt8 := kindB f.k :: (intB f.z ++ (intB f.s ++ (intB f.t ++ (intB f.x ++ intB f.m))))
def deedB (f : Fd) (l : List (Fd × Nat)) : List UInt8 := headB f ++ (bodyB f ++ if f.k = 5 ∨ f.k = 8 then intB l.length ++ partsB l else [])

/-- A deed of a kind alone. -/
def bareF (k : Int) : Fd := ⟨0, k, 0, 0, 0, 0, [], [], 0, 0, 0, 0, 0, (0, [])⟩
/-- What is read of a kind, but for parts. -/
def rdFd (f : Fd) (st : RSt) : Fd × RSt :=
  if f.k = 1 then ({ f with path := (rBytes st 200).1, data := (rBytes (rBytes st 200).2 1000).1, ow := (rInt (rBytes (rBytes st 200).2 1000).2).1, cv := (rInt (rInt (rBytes (rBytes st 200).2 1000).2).2).1 }, (rInt (rInt (rBytes (rBytes st 200).2 1000).2).2).2)
  else if f.k = 2 then ({ f with path := (rBytes st 200).1, cv := (rInt (rBytes st 200).2).1 }, (rInt (rBytes st 200).2).2)
  else if f.k = 3 then ({ f with path := (rBytes st 200).1, data := (rBytes (rBytes st 200).2 1000).1, ve := (rInt (rBytes (rBytes st 200).2 1000).2).1 }, (rInt (rBytes (rBytes st 200).2 1000).2).2)
  else if f.k = 4 then ({ f with ti := (rInt st).1 }, (rInt st).2)
  else if f.k = 5 then ({ f with ow := (rInt st).1 }, (rInt st).2)
  else if f.k = 7 then ({ f with c := ((getV (rBytes st 1048576).1).1, (getV (rBytes st 1048576).1).2.1) }, (rBytes st 1048576).2)
  else if f.k = 9 then ({ f with er := (rInt st).1 }, (rInt st).2)
  else (f, st)
def rdPart (st : RSt) : Fd × RSt := rdFd (bareF (rByte st).1.toNat) (rByte st).2
/-- Parts that are read: till one is not whole. -/
def rdPs : Nat → RSt → List (Fd × Nat) × RSt
  | 0, st => ([], st)
  | n + 1, st => if rGood (rdPart st).2 = true then (((rdPart st).1, 0) :: (rdPs n (rdPart st).2).1, (rdPs n (rdPart st).2).2) else ([], (rdPart st).2)
def rdHead (b : List UInt8) : Fd × RSt :=
  let k := rByte (some b); let z := rInt k.2; let s := rInt z.2; let t := rInt s.2; let x := rInt t.2; let m := rInt x.2
  (⟨z.1, k.1.toNat, s.1, t.1, x.1, m.1, [], [], 0, 0, 0, 0, 0, (0, [])⟩, m.2)
def rdDeed (b : List UInt8) : (Fd × List (Fd × Nat)) × RSt :=
  let h := rdHead b; let g := rdFd h.1 h.2
  if h.1.k = 5 ∨ h.1.k = 8 then
    let n := rCount g.2 500; let p := rdPs n.1.toNat n.2
    ((g.1, p.1), p.2)
  else ((g.1, []), g.2)
/-- The deed whose bytes these are. -/
def getD (b : List UInt8) : Option (Fd × List (Fd × Nat)) :=
  if rWhole (rdDeed b).2 = true ∧ Right (rdDeed b).1.1 (rdDeed b).1.2 then some (rdDeed b).1 else none
end Go.Proofs.YtmlmbahimklfiaaGreatDoor

/- Deb -/
namespace Go.Proofs.YtmlmbahimklfiaaGreatDoor
open Go.RowKit

/-- The table of what kinds have, as the program's text lays it. -/
def Has (w : World) : Prop := 0 < w.heap.size ∧ ∀ i : Nat, i < 10 → w.cell? ⟨0, i, none⟩ = some (.int .i64 (hasN i))
theorem Has.fr {w w' : World} (h : Has w) (f : Fr NoB w w') : Has w' := ⟨Nat.lt_of_lt_of_le h.1 f.size, fun i hi => (f.cell (p := ⟨0, i, none⟩) h.1 (fun x => x)).trans (h.2 i hi)⟩
/-- Where a deed's lists lie. -/
structure Pl where
  A : Option Addr
  c : Nat
  B : Option Addr
  d : Nat
  P : Option Addr
  e : Nat
/-- A deed of np parts as cells, as a value. -/
def dcells (f : Fd) (p : Pl) (np : Nat) : Array Value := #[.int .i64 f.z, .int .u8 f.k, .int .i64 f.s, .int .i64 f.t, .int .i64 f.x, .int .i64 f.m, .string ⟨f.path.toArray⟩, .slice p.A f.data.length p.c, .int .i64 f.ow, .int .i64 f.ve, .int .i64 f.cv, .int .i64 f.ti, .int .i64 f.er, .int .i64 f.c.1, .slice p.B f.c.2.length p.d, .slice p.P np p.e]
def dval (f : Fd) (p : Pl) (np : Nat) : Value := .agg (dcells f p np)

theorem Has.box {w : World} (h : Has w) (f : Fd) (p : Pl) (np : Nat) (k : Nat) (hk : k < 10) : (w.alloc (.cells (dcells f p np) 31)).cell? ⟨0, k, none⟩ = some (.int .i64 (hasN k)) :=
  (h.fr ((Fr.refl NoB w).alloc _)).2 k hk

/- fits -/
theorem dbox_cells {w : World} {b : Nat} {t : TypeId} (f : Fd) (p : Pl) (np : Nat) (h : w.heap[b]? = some (.cells (dcells f p np) t (0, 0))) :
    w.cell? ⟨b, 0, none⟩ = some (.int .i64 f.z) ∧ w.cell? ⟨b, 1, none⟩ = some (.int .u8 f.k) ∧ w.cell? ⟨b, 2, none⟩ = some (.int .i64 f.s) ∧ w.cell? ⟨b, 3, none⟩ = some (.int .i64 f.t) ∧ w.cell? ⟨b, 4, none⟩ = some (.int .i64 f.x) ∧ w.cell? ⟨b, 5, none⟩ = some (.int .i64 f.m) ∧ w.cell? ⟨b, 6, none⟩ = some (.string ⟨f.path.toArray⟩) ∧ w.cell? ⟨b, 7, none⟩ = some (.slice p.A f.data.length p.c) ∧
    w.cell? ⟨b, 8, none⟩ = some (.int .i64 f.ow) ∧ w.cell? ⟨b, 9, none⟩ = some (.int .i64 f.ve) ∧ w.cell? ⟨b, 10, none⟩ = some (.int .i64 f.cv) ∧ w.cell? ⟨b, 11, none⟩ = some (.int .i64 f.ti) ∧ w.cell? ⟨b, 12, none⟩ = some (.int .i64 f.er) ∧ w.cell? ⟨b, 13, none⟩ = some (.int .i64 f.c.1) ∧ w.cell? ⟨b, 14, none⟩ = some (.slice p.B f.c.2.length p.d) ∧ w.cell? ⟨b, 15, none⟩ = some (.slice p.P np p.e) :=
  ⟨(cells_of h 0).1, (cells_of h 1).1, (cells_of h 2).1, (cells_of h 3).1, (cells_of h 4).1, (cells_of h 5).1, (cells_of h 6).1, (cells_of h 7).1, (cells_of h 8).1, (cells_of h 9).1, (cells_of h 10).1, (cells_of h 11).1, (cells_of h 12).1, (cells_of h 13).1, (cells_of h 14).1, (cells_of h 15).1⟩
theorem FitsD.of1 {f : Fd} {np : Nat} (h : FitsD f np) (hk : f.k = 1) : Fits1 f np := by
  rcases h with h | h | h | h | h | h | h | h | h <;> first | exact h | exact absurd (hk.symm.trans h.1) (by decide)
theorem FitsD.of2 {f : Fd} {np : Nat} (h : FitsD f np) (hk : f.k = 2) : Fits2 f np := by
  rcases h with h | h | h | h | h | h | h | h | h <;> first | exact h | exact absurd (hk.symm.trans h.1) (by decide)
theorem FitsD.of3 {f : Fd} {np : Nat} (h : FitsD f np) (hk : f.k = 3) : Fits3 f np := by
  rcases h with h | h | h | h | h | h | h | h | h <;> first | exact h | exact absurd (hk.symm.trans h.1) (by decide)
theorem FitsD.of4 {f : Fd} {np : Nat} (h : FitsD f np) (hk : f.k = 4) : Fits4 f np := by
  rcases h with h | h | h | h | h | h | h | h | h <;> first | exact h | exact absurd (hk.symm.trans h.1) (by decide)
theorem FitsD.of5 {f : Fd} {np : Nat} (h : FitsD f np) (hk : f.k = 5) : Fits5 f np := by
  rcases h with h | h | h | h | h | h | h | h | h <;> first | exact h | exact absurd (hk.symm.trans h.1) (by decide)
theorem FitsD.of6 {f : Fd} {np : Nat} (h : FitsD f np) (hk : f.k = 6) : Fits6 f np := by
  rcases h with h | h | h | h | h | h | h | h | h <;> first | exact h | exact absurd (hk.symm.trans h.1) (by decide)
theorem FitsD.of7 {f : Fd} {np : Nat} (h : FitsD f np) (hk : f.k = 7) : Fits7 f np := by
  rcases h with h | h | h | h | h | h | h | h | h <;> first | exact h | exact absurd (hk.symm.trans h.1) (by decide)
theorem FitsD.of8 {f : Fd} {np : Nat} (h : FitsD f np) (hk : f.k = 8) : Fits8 f np := by
  rcases h with h | h | h | h | h | h | h | h | h <;> first | exact h | exact absurd (hk.symm.trans h.1) (by decide)
theorem FitsD.of9 {f : Fd} {np : Nat} (h : FitsD f np) (hk : f.k = 9) : Fits9 f np := by
  rcases h with h | h | h | h | h | h | h | h | h <;> first | exact h | exact absurd (hk.symm.trans h.1) (by decide)
theorem pne {path : List UInt8} (h : path ≠ []) : ((⟨path.toArray⟩ : ByteArray) == ⟨#[]⟩) = false := by
  rw [show (⟨#[]⟩ : ByteArray) = ⟨([] : List UInt8).toArray⟩ from rfl, mk_eq]; simpa using h
theorem nf1 {z s t x m ow ve cv ti er cver : Int} {path data : List UInt8} {ms : List Mem} {np : Nat} (hf : ¬ FitsD ⟨z, 1, s, t, x, m, path, data, ow, ve, cv, ti, er, (cver, ms)⟩ np) (h0 : (ve != 0) = false) (h1 : (ti != 0) = false) (h2 : (er != 0) = false) (h3 : ¬ 0 < np) (h4 : cver = 0) (h5 : ¬ 0 < ms.length) (h6 : pchk path = true) (h7 : (data.length : Int) ≤ 1000) (h8 : 0 ≤ ow) (h9 : 0 ≤ cv) : (!path == [47]) = false := by
  rw [Bool.eq_false_iff]
  intro hg
  apply hf
  have hms : ms = [] ∨ ms ≠ [] := Decidable.em _
  have hda : data = [] ∨ data ≠ [] := Decidable.em _
  refine (.inl ?_)
  simp only [Fits1, Fd.cz]
  simp only [bne_eq_false_iff_eq, Bool.not_eq_true', beq_eq_false_iff_ne, Nat.not_lt, Nat.le_zero, List.length_eq_zero_iff] at *
  (repeat' apply And.intro) <;> first | rfl | assumption | trivial | omega
theorem nf2 {z s t x m ow ve cv ti er cver : Int} {path data : List UInt8} {ms : List Mem} {np : Nat} (hf : ¬ FitsD ⟨z, 2, s, t, x, m, path, data, ow, ve, cv, ti, er, (cver, ms)⟩ np) (h0 : ¬ 0 < data.length) (h1 : (ow != 0) = false) (h2 : (ve != 0) = false) (h3 : (ti != 0) = false) (h4 : (er != 0) = false) (h5 : ¬ 0 < np) (h6 : cver = 0) (h7 : ¬ 0 < ms.length) (h8 : pchk path = true) (h9 : 0 ≤ cv) : (!path == [47]) = false := by
  rw [Bool.eq_false_iff]
  intro hg
  apply hf
  have hms : ms = [] ∨ ms ≠ [] := Decidable.em _
  have hda : data = [] ∨ data ≠ [] := Decidable.em _
  refine (.inr (.inl ?_))
  simp only [Fits2, Fd.cz]
  simp only [bne_eq_false_iff_eq, Bool.not_eq_true', beq_eq_false_iff_ne, Nat.not_lt, Nat.le_zero, List.length_eq_zero_iff] at *
  (repeat' apply And.intro) <;> first | rfl | assumption | trivial | omega
theorem nf3 {z s t x m ow ve cv ti er cver : Int} {path data : List UInt8} {ms : List Mem} {np : Nat} (hf : ¬ FitsD ⟨z, 3, s, t, x, m, path, data, ow, ve, cv, ti, er, (cver, ms)⟩ np) (h0 : (ow != 0) = false) (h1 : (cv != 0) = false) (h2 : (ti != 0) = false) (h3 : (er != 0) = false) (h4 : ¬ 0 < np) (h5 : cver = 0) (h6 : ¬ 0 < ms.length) (h7 : pchk path = true) (h8 : (data.length : Int) ≤ 1000) (h9 : 0 ≤ ve) : true = false := by
  rw [Bool.eq_false_iff]
  intro hg
  apply hf
  have hms : ms = [] ∨ ms ≠ [] := Decidable.em _
  have hda : data = [] ∨ data ≠ [] := Decidable.em _
  refine (.inr (.inr (.inl ?_)))
  simp only [Fits3, Fd.cz]
  simp only [bne_eq_false_iff_eq, Nat.not_lt, Nat.le_zero, List.length_eq_zero_iff] at *
  (repeat' apply And.intro) <;> first | rfl | assumption | trivial | omega
theorem nf4 {z s t x m ow ve cv ti er cver : Int} {path data : List UInt8} {ms : List Mem} {np : Nat} (hf : ¬ FitsD ⟨z, 4, s, t, x, m, path, data, ow, ve, cv, ti, er, (cver, ms)⟩ np) (h0 : (!path.isEmpty) = false) (h1 : ¬ 0 < data.length) (h2 : (ow != 0) = false) (h3 : (ve != 0) = false) (h4 : (cv != 0) = false) (h5 : (er != 0) = false) (h6 : ¬ 0 < np) (h7 : cver = 0) (h8 : ¬ 0 < ms.length) (h9 : 1 ≤ ti) : decide (ti ≤ 1000) = false := by
  rw [Bool.eq_false_iff]
  intro hg
  apply hf
  have hms : ms = [] ∨ ms ≠ [] := Decidable.em _
  have hda : data = [] ∨ data ≠ [] := Decidable.em _
  refine (.inr (.inr (.inr (.inl ?_))))
  simp only [Fits4, Fd.cz]
  simp only [bne_eq_false_iff_eq, Bool.not_eq_false', List.isEmpty_iff, decide_eq_true_eq, Nat.not_lt, Nat.le_zero, List.length_eq_zero_iff] at *
  (repeat' apply And.intro) <;> first | rfl | assumption | trivial | omega
theorem nf5 {z s t x m ow ve cv ti er cver : Int} {path data : List UInt8} {ms : List Mem} {np : Nat} (hf : ¬ FitsD ⟨z, 5, s, t, x, m, path, data, ow, ve, cv, ti, er, (cver, ms)⟩ np) (h0 : (!path.isEmpty) = false) (h1 : ¬ 0 < data.length) (h2 : (ve != 0) = false) (h3 : (cv != 0) = false) (h4 : (ti != 0) = false) (h5 : (er != 0) = false) (h6 : cver = 0) (h7 : ¬ 0 < ms.length) : decide (1 ≤ ow) = false := by
  rw [Bool.eq_false_iff]
  intro hg
  apply hf
  have hms : ms = [] ∨ ms ≠ [] := Decidable.em _
  have hda : data = [] ∨ data ≠ [] := Decidable.em _
  refine (.inr (.inr (.inr (.inr (.inl ?_)))))
  simp only [Fits5, Fd.cz]
  simp only [bne_eq_false_iff_eq, Bool.not_eq_false', List.isEmpty_iff, decide_eq_true_eq, Nat.not_lt, Nat.le_zero, List.length_eq_zero_iff] at *
  (repeat' apply And.intro) <;> first | rfl | assumption | trivial | omega
theorem nf6 {z s t x m ow ve cv ti er cver : Int} {path data : List UInt8} {ms : List Mem} {np : Nat} (hf : ¬ FitsD ⟨z, 6, s, t, x, m, path, data, ow, ve, cv, ti, er, (cver, ms)⟩ np) (h0 : (!path.isEmpty) = false) (h1 : ¬ 0 < data.length) (h2 : (ow != 0) = false) (h3 : (ve != 0) = false) (h4 : (cv != 0) = false) (h5 : (ti != 0) = false) (h6 : (er != 0) = false) (h7 : ¬ 0 < np) (h8 : cver = 0) (h9 : ¬ 0 < ms.length) : true = false := by
  rw [Bool.eq_false_iff]
  intro hg
  apply hf
  have hms : ms = [] ∨ ms ≠ [] := Decidable.em _
  have hda : data = [] ∨ data ≠ [] := Decidable.em _
  refine (.inr (.inr (.inr (.inr (.inr (.inl ?_))))))
  simp only [Fits6, Fd.cz]
  simp only [bne_eq_false_iff_eq, Bool.not_eq_false', List.isEmpty_iff, Nat.not_lt, Nat.le_zero, List.length_eq_zero_iff] at *
  (repeat' apply And.intro) <;> first | rfl | assumption | trivial | omega
theorem nf7 {z s t x m ow ve cv ti er cver : Int} {path data : List UInt8} {ms : List Mem} {np : Nat} (hf : ¬ FitsD ⟨z, 7, s, t, x, m, path, data, ow, ve, cv, ti, er, (cver, ms)⟩ np) (h0 : (!path.isEmpty) = false) (h1 : ¬ 0 < data.length) (h2 : (ow != 0) = false) (h3 : (ve != 0) = false) (h4 : (cv != 0) = false) (h5 : (ti != 0) = false) (h6 : (er != 0) = false) (h7 : ¬ 0 < np) : true = false := by
  rw [Bool.eq_false_iff]
  intro hg
  apply hf
  have hms : ms = [] ∨ ms ≠ [] := Decidable.em _
  have hda : data = [] ∨ data ≠ [] := Decidable.em _
  refine (.inr (.inr (.inr (.inr (.inr (.inr (.inl ?_)))))))
  simp only [Fits7]
  simp only [bne_eq_false_iff_eq, Bool.not_eq_false', List.isEmpty_iff, Nat.not_lt, Nat.le_zero, List.length_eq_zero_iff] at *
  (repeat' apply And.intro) <;> first | rfl | assumption | trivial | omega
theorem nf8 {z s t x m ow ve cv ti er cver : Int} {path data : List UInt8} {ms : List Mem} {np : Nat} (hf : ¬ FitsD ⟨z, 8, s, t, x, m, path, data, ow, ve, cv, ti, er, (cver, ms)⟩ np) (h0 : (!path.isEmpty) = false) (h1 : ¬ 0 < data.length) (h2 : (ow != 0) = false) (h3 : (ve != 0) = false) (h4 : (cv != 0) = false) (h5 : (ti != 0) = false) (h6 : (er != 0) = false) (h7 : cver = 0) (h8 : ¬ 0 < ms.length) : true = false := by
  rw [Bool.eq_false_iff]
  intro hg
  apply hf
  have hms : ms = [] ∨ ms ≠ [] := Decidable.em _
  have hda : data = [] ∨ data ≠ [] := Decidable.em _
  refine (.inr (.inr (.inr (.inr (.inr (.inr (.inr (.inl ?_))))))))
  simp only [Fits8, Fd.cz]
  simp only [bne_eq_false_iff_eq, Bool.not_eq_false', List.isEmpty_iff, Nat.not_lt, Nat.le_zero, List.length_eq_zero_iff] at *
  (repeat' apply And.intro) <;> first | rfl | assumption | trivial | omega
theorem nf9 {z s t x m ow ve cv ti er cver : Int} {path data : List UInt8} {ms : List Mem} {np : Nat} (hf : ¬ FitsD ⟨z, 9, s, t, x, m, path, data, ow, ve, cv, ti, er, (cver, ms)⟩ np) (h0 : (!path.isEmpty) = false) (h1 : ¬ 0 < data.length) (h2 : (ow != 0) = false) (h3 : (ve != 0) = false) (h4 : (cv != 0) = false) (h5 : (ti != 0) = false) (h6 : ¬ 0 < np) (h7 : cver = 0) (h8 : ¬ 0 < ms.length) : decide (1 ≤ er) = false := by
  rw [Bool.eq_false_iff]
  intro hg
  apply hf
  have hms : ms = [] ∨ ms ≠ [] := Decidable.em _
  have hda : data = [] ∨ data ≠ [] := Decidable.em _
  refine (.inr (.inr (.inr (.inr (.inr (.inr (.inr (.inr ?_))))))))
  simp only [Fits9, Fd.cz]
  simp only [bne_eq_false_iff_eq, Bool.not_eq_false', List.isEmpty_iff, decide_eq_true_eq, Nat.not_lt, Nat.le_zero, List.length_eq_zero_iff] at *
  (repeat' apply And.intro) <;> first | rfl | assumption | trivial | omega
end Go.Proofs.YtmlmbahimklfiaaGreatDoor

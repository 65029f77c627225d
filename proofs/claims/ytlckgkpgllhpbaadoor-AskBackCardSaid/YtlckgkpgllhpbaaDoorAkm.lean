/-
  Akm: Aka, Akb, Aky, Akc, Akd, Akm.
-/
import Derived.Test.YtlckgkpgllhpbaaDoorEnn
import Derived.Test.YtlckgkpgllhpbaaDoorRdb
import Derived.Deep.MidRow
import Derived.Deep.WholeRow
/- Aka -/
namespace Go.Proofs.YtlckgkpgllhpbaaDoor
open Go.RowKit

theorem rInt_st {st : RSt} {n : Int} {r : List UInt8} (h : rInt st = (n, some r)) : ∃ l, st = some l ∧ intB n ++ r = l := by
  cases st with
  | none => simp [rInt] at h
  | some l => exact ⟨l, rfl, (rInt_back h).1⟩
theorem rInt_range (st : RSt) : -9223372036854775808 ≤ (rInt st).1 ∧ (rInt st).1 ≤ 9223372036854775807 := by
  cases h : rInt st with
  | mk n t =>
    cases t with
    | none =>
      cases st with
      | none => cases h; simp
      | some l =>
        simp only [rInt] at h
        split at h
        · cases h; simp
        · cases h
    | some r =>
      cases st with
      | none => cases h
      | some l => exact (rInt_back h).2
theorem rBytes_fit (l r : List UInt8) (m : Int) (h : (l.length : Int) ≤ m) (hm : m ≤ 9223372036854775807) : rBytes (some (textB l ++ r)) m = (l, some r) := by
  unfold textB
  rw [List.append_assoc, rBytes_of (rInt_front (by omega) (by omega) _) (by omega) h]
  unfold tk
  simp only
  rw [if_pos (by simp; omega), Int.toNat_natCast, List.take_left, List.drop_left]
theorem rBytes_back {st : RSt} {m : Int} {l r : List UInt8} (h : rBytes st m = (l, some r)) : ∃ b, st = some b ∧ textB l ++ r = b ∧ (l.length : Int) ≤ m := by
  unfold rBytes at h
  cases hc : rCount st m with
  | mk n t =>
    rw [hc] at h
    simp only at h
    cases t with
    | none => simp [tk] at h
    | some t =>
      obtain ⟨b, rfl, e, h0, h1⟩ := rCount_back hc
      unfold tk at h
      simp only at h
      split at h
      · rename_i hn
        simp only [Prod.mk.injEq, Option.some.injEq] at h
        obtain ⟨rfl, rfl⟩ := h
        refine ⟨b, rfl, ?_, ?_⟩
        · rw [textB, List.length_take, Nat.min_eq_left (by omega), Int.toNat_of_nonneg h0, List.append_assoc, List.take_append_drop, e]
        · rw [List.length_take]; omega
      · cases h
theorem rBytes_len (st : RSt) (m : Nat) : (rBytes st m).1.length ≤ m := by
  unfold rBytes
  have hr := rCount_range st m (by omega)
  cases hc : rCount st m with
  | mk n t =>
    rw [hc] at hr
    simp only at hr
    cases t with
    | none => simp [tk]
    | some t =>
      simp only [tk]
      split
      · rw [List.length_take]; omega
      · simp
theorem rByte_back {st : RSt} {x : UInt8} {r : List UInt8} (h : rByte st = (x, some r)) : st = some (x :: r) := by
  cases st with
  | none => cases h
  | some l =>
    cases l with
    | nil => cases h
    | cons c l => cases h; rfl
theorem rByte_front (x : UInt8) (r : List UInt8) : rByte (some (x :: r)) = (x, some r) := rfl
def kindB (k : Int) : UInt8 := UInt8.ofNat k.toNat
theorem kindB_nat {k : Int} (h0 : 0 ≤ k) (h1 : k ≤ 255) : ((kindB k).toNat : Int) = k := by
  unfold kindB
  rw [UInt8.toNat_ofNat']
  omega
theorem kindB_back (x : UInt8) : kindB (x.toNat : Int) = x := by
  unfold kindB
  simp

/-- A call without its parts. -/
structure Fa where
  k : Int
  x : Int
  s : Int
  t : Int
  path : List UInt8
  data : List UInt8
  fl : Int
  ve : Int
  wa : Bool
  so : Int
  la : Int
  ti : Int
  fr : Int
  ms : List Mem
/-- What the machine's kinds hold. -/
structure Fa.Ok (f : Fa) : Prop where
  k : 0 ≤ f.k ∧ f.k ≤ 255
  x : -9223372036854775808 ≤ f.x ∧ f.x ≤ 9223372036854775807
  s : -9223372036854775808 ≤ f.s ∧ f.s ≤ 9223372036854775807
  t : -9223372036854775808 ≤ f.t ∧ f.t ≤ 9223372036854775807
  fl : -9223372036854775808 ≤ f.fl ∧ f.fl ≤ 9223372036854775807
  ve : -9223372036854775808 ≤ f.ve ∧ f.ve ≤ 9223372036854775807
  so : 0 ≤ f.so ∧ f.so ≤ 255
  la : -9223372036854775808 ≤ f.la ∧ f.la ≤ 9223372036854775807
  ti : -9223372036854775808 ≤ f.ti ∧ f.ti ≤ 9223372036854775807
  fr : -9223372036854775808 ≤ f.fr ∧ f.fr ≤ 9223372036854775807
  path : f.path.length ≤ 140737488355328
  data : f.data.length ≤ 140737488355328
  ms : f.ms.length ≤ 4398046510976
/-- A member's numbers are what the machine's kinds hold. -/
def OkM (m : Mem) : Prop := (-9223372036854775808 ≤ m.1 ∧ m.1 ≤ 9223372036854775807) ∧ (0 ≤ m.2.1 ∧ m.2.1 ≤ 255) ∧ (-9223372036854775808 ≤ m.2.2.1 ∧ m.2.2.1 ≤ 9223372036854775807) ∧ (-9223372036854775808 ≤ m.2.2.2 ∧ m.2.2.2 ≤ 9223372036854775807)

/-- What kinds have. -/
def hP (k : Int) : Prop := (3 ≤ k ∧ k ≤ 9) ∨ k = 14
def hD (k : Int) : Prop := k = 3 ∨ k = 5
def hV (k : Int) : Prop := 4 ≤ k ∧ k ≤ 6
def hW (k : Int) : Prop := 7 ≤ k ∧ k ≤ 9
def hL (k : Int) : Prop := k = 1 ∨ k = 14
instance (k : Int) : Decidable (hP k) := by unfold hP; infer_instance
instance (k : Int) : Decidable (hD k) := by unfold hD; infer_instance
instance (k : Int) : Decidable (hV k) := by unfold hV; infer_instance
instance (k : Int) : Decidable (hW k) := by unfold hW; infer_instance
instance (k : Int) : Decidable (hL k) := by unfold hL; infer_instance
/-- What a kind has not is zero. -/
def ZeroA (f : Fa) (np : Nat) : Prop :=
  (hP f.k ∨ f.path = []) ∧ (hD f.k ∨ f.data = []) ∧ (f.k = 3 ∨ f.fl = 0) ∧ (hV f.k ∨ f.ve = 0) ∧ (hW f.k ∨ f.wa = false) ∧ (f.k = 14 ∨ f.so = 0) ∧ (hL f.k ∨ f.la = 0) ∧ (f.k = 1 ∨ f.ti = 0) ∧ (f.k = 12 ∨ (f.fr = 0 ∧ f.ms = [])) ∧ (f.k = 11 ∨ np = 0)
instance (f : Fa) (np : Nat) : Decidable (ZeroA f np) := by unfold ZeroA; infer_instance
/-- Limits. -/
def LimA (f : Fa) : Prop :=
  f.path.length ≤ 220 ∧ f.data.length ≤ 1000 ∧ 0 ≤ f.fl ∧ f.fl ≤ 3 ∧ -1 ≤ f.ve ∧ 0 ≤ f.la ∧ 0 ≤ f.fr ∧ f.ms.length ≤ 7 ∧ (f.k = 14 → 1 ≤ f.so ∧ f.so ≤ 3) ∧ (f.k = 1 → 1 ≤ f.ti ∧ f.ti ≤ 1000)
instance (f : Fa) : Decidable (LimA f) := by unfold LimA; infer_instance
/-- A call of np parts has what its kind may have alone, within limits. -/
def FitsA (f : Fa) (np : Nat) : Prop := (1 ≤ f.k ∧ f.k ≤ 14) ∧ ZeroA f np ∧ LimA f
instance (f : Fa) (np : Nat) : Decidable (FitsA f np) := by unfold FitsA; infer_instance
def PartA (q : Fa × Nat) : Prop := FitsA q.1 q.2 ∧ (3 ≤ q.1.k ∧ q.1.k ≤ 6) ∧ q.1.x = 0 ∧ q.1.s = 0 ∧ q.1.t = 0
instance (q : Fa × Nat) : Decidable (PartA q) := by unfold PartA; infer_instance
/-- A right call. -/
def RightA (f : Fa) (l : List (Fa × Nat)) : Prop :=
  FitsA f l.length ∧ f.k ≠ 6 ∧ 0 ≤ f.x ∧ 0 ≤ f.s ∧ 0 ≤ f.t ∧ l.length ≤ 16 ∧ (∀ q ∈ l, PartA q) ∧ (f.k = 11 → 1 ≤ l.length)
instance (f : Fa) (l : List (Fa × Nat)) : Decidable (RightA f l) := by unfold RightA; infer_instance

def wB (b : Bool) : UInt8 := if b then 1 else 0
/-- The bytes of what a kind has, but for parts. -/
def bodyA (f : Fa) : List UInt8 :=
  if f.k = 1 then intB f.la ++ intB f.ti
  else if f.k = 3 then textB f.path ++ (textB f.data ++ intB f.fl)
  else if f.k = 4 ∨ f.k = 6 then textB f.path ++ intB f.ve
  else if f.k = 5 then textB f.path ++ (textB f.data ++ intB f.ve)
  else if 7 ≤ f.k ∧ f.k ≤ 9 then textB f.path ++ [wB f.wa]
  else if f.k = 12 then intB f.fr ++ (intB f.ms.length ++ memsB f.ms)
  else if f.k = 14 then textB f.path ++ (kindB f.so :: intB f.la)
  else []
def partsA : List (Fa × Nat) → List UInt8
  | [] => []
  | p :: l => kindB p.1.k :: (bodyA p.1 ++ partsA l)
def headA (f : Fa) : List UInt8 := kindB f.k :: (intB f.x ++ (intB f.s ++ intB f.t))
def askB (f : Fa) (l : List (Fa × Nat)) : List UInt8 := headA f ++ (bodyA f ++ if f.k = 11 then intB l.length ++ partsA l else [])

/-- A call of a kind alone; a call's head alone. -/
def bareA (k : Int) : Fa := ⟨k, 0, 0, 0, [], [], 0, 0, false, 0, 0, 0, 0, []⟩
def bareAO (f : Fa) : Fa := ⟨f.k, f.x, f.s, f.t, [], [], 0, 0, false, 0, 0, 0, 0, []⟩
/-- A member that is read; its role as a byte, and whether it fits. -/
def rdMa (st : RSt) : (Mem × Bool) × RSt :=
  let a := rInt st; let b := rInt a.2; let c := rInt b.2; let d := rInt c.2
  (((a.1, b.1 % 256, c.1, d.1), decide (0 ≤ b.1 ∧ b.1 < 256)), d.2)
def rdMas : Nat → RSt → (List Mem × Bool) × RSt
  | 0, st => (([], true), st)
  | n + 1, st => (((rdMas n st).1.1 ++ [(rdMa (rdMas n st).2).1.1], (rdMas n st).1.2 && (rdMa (rdMas n st).2).1.2), (rdMa (rdMas n st).2).2)
/-- What is read of a kind, but for parts. -/
def rdFa (f : Fa) (st : RSt) : (Fa × Bool) × RSt :=
  if f.k = 1 then let a := rInt st; let b := rInt a.2; (({ f with la := a.1, ti := b.1 }, true), b.2)
  else if f.k = 3 then let a := rBytes st 220; let b := rBytes a.2 1000; let c := rInt b.2; (({ f with path := a.1, data := b.1, fl := c.1 }, true), c.2)
  else if f.k = 4 ∨ f.k = 6 then let a := rBytes st 220; let b := rInt a.2; (({ f with path := a.1, ve := b.1 }, true), b.2)
  else if f.k = 5 then let a := rBytes st 220; let b := rBytes a.2 1000; let c := rInt b.2; (({ f with path := a.1, data := b.1, ve := c.1 }, true), c.2)
  else if 7 ≤ f.k ∧ f.k ≤ 9 then let a := rBytes st 220; let b := rByte a.2; (({ f with path := a.1, wa := b.1 == 1 }, decide (b.1.toNat ≤ 1)), b.2)
  else if f.k = 12 then let a := rInt st; let b := rCount a.2 7; let c := rdMas b.1.toNat b.2; (({ f with fr := a.1, ms := c.1.1 }, c.1.2), c.2)
  else if f.k = 14 then let a := rBytes st 220; let b := rByte a.2; let c := rInt b.2; (({ f with path := a.1, so := b.1.toNat, la := c.1 }, true), c.2)
  else ((f, true), st)
def rdPa (st : RSt) : (Fa × Bool) × RSt := rdFa (bareA (rByte st).1.toNat) (rByte st).2
def rdPas : Nat → RSt → (List (Fa × Nat) × Bool) × RSt
  | 0, st => (([], true), st)
  | n + 1, st => (((rdPas n st).1.1 ++ [((rdPa (rdPas n st).2).1.1, 0)], (rdPa (rdPas n st).2).1.2 && (rdPas n st).1.2), (rdPa (rdPas n st).2).2)
def rdHa (b : List UInt8) : Fa × RSt :=
  let k := rByte (some b); let x := rInt k.2; let s := rInt x.2; let t := rInt s.2
  (⟨k.1.toNat, x.1, s.1, t.1, [], [], 0, 0, false, 0, 0, 0, 0, []⟩, t.2)
/-- What stands behind a head. -/
def rdTa (f : Fa) (st : RSt) : (Fa × List (Fa × Nat) × Bool) × RSt :=
  if f.k = 11 then let n := rCount st 16; let p := rdPas n.1.toNat n.2; ((f, p.1.1, p.1.2), p.2)
  else let g := rdFa f st; ((g.1.1, [], g.1.2), g.2)
def rdAsk (b : List UInt8) : (Fa × List (Fa × Nat) × Bool) × RSt := rdTa (rdHa b).1 (rdHa b).2
/-- The call whose bytes these are. -/
def getA (b : List UInt8) : Option (Fa × List (Fa × Nat)) :=
  if (rdAsk b).1.2.2 = true ∧ rWhole (rdAsk b).2 = true ∧ RightA (rdAsk b).1.1 (rdAsk b).1.2.1 then some ((rdAsk b).1.1, (rdAsk b).1.2.1) else none
end Go.Proofs.YtlckgkpgllhpbaaDoor

/- Akb -/
namespace Go.Proofs.YtlckgkpgllhpbaaDoor
open Go.RowKit

theorem rdMa_front {m : Mem} (h : OkM m) (r : List UInt8) : rdMa (some (memB m ++ r)) = ((m, true), some r) := by
  obtain ⟨⟨h1, h2⟩, ⟨h3, h4⟩, ⟨h5, h6⟩, h7, h8⟩ := h
  obtain ⟨a, b, c, d⟩ := m
  simp only at *
  have i1 := rInt_front h1 h2
  have i2 := rInt_front (n := b) (by omega) (by omega)
  have i3 := rInt_front h5 h6
  have i4 := rInt_front h7 h8
  have e : b % 256 = b := by omega
  have e2 : b < 256 := by omega
  simp [rdMa, memB, i1, i2, i3, i4, e, h3, e2]
theorem rdMa_back {st : RSt} {m : Mem} {r : List UInt8} (h : rdMa st = ((m, true), some r)) : ∃ b, st = some b ∧ memB m ++ r = b := by
  obtain ⟨x1, t1, g1⟩ : ∃ x t, rInt st = (x, t) := ⟨_, _, rfl⟩
  obtain ⟨x2, t2, g2⟩ : ∃ x t, rInt t1 = (x, t) := ⟨_, _, rfl⟩
  obtain ⟨x3, t3, g3⟩ : ∃ x t, rInt t2 = (x, t) := ⟨_, _, rfl⟩
  obtain ⟨x4, t4, g4⟩ : ∃ x t, rInt t3 = (x, t) := ⟨_, _, rfl⟩
  simp only [rdMa, g1, g2, g3, g4, Prod.mk.injEq, decide_eq_true_eq] at h
  obtain ⟨⟨rfl, hr⟩, rfl⟩ := h
  obtain ⟨l3, rfl, e4⟩ := rInt_st g4
  obtain ⟨l2, rfl, e3⟩ := rInt_st g3
  obtain ⟨l1, rfl, e2⟩ := rInt_st g2
  obtain ⟨l0, rfl, e1⟩ := rInt_st g1
  refine ⟨l0, rfl, ?_⟩
  rw [← e1, ← e2, ← e3, ← e4]
  have e : x2 % 256 = x2 := by omega
  simp [memB, e]
theorem rdMa_ok (st : RSt) : OkM (rdMa st).1.1 := by
  refine ⟨rInt_range _, ?_, rInt_range _, rInt_range _⟩
  simp only [rdMa]
  omega
theorem rdMas_front {l : List Mem} (h : ∀ m ∈ l, OkM m) (r : List UInt8) (k : Nat) (hk : k ≤ l.length) : rdMas k (some (memsB l ++ r)) = ((l.take k, true), some (memsB (l.drop k) ++ r)) := by
  induction k with
  | zero => simp [rdMas]
  | succ k ih =>
    have hlt : k < l.length := by omega
    rw [rdMas, ih (by omega)]
    simp only
    rw [memsB_at (List.getElem?_eq_getElem hlt), List.append_assoc, rdMa_front (h _ (List.getElem_mem hlt)), List.take_succ_eq_append_getElem hlt]
    rfl
theorem rdMas_all {l : List Mem} (h : ∀ m ∈ l, OkM m) (r : List UInt8) : rdMas l.length (some (memsB l ++ r)) = ((l, true), some r) := by
  rw [rdMas_front h r l.length (Nat.le_refl _), List.take_length, List.drop_length]
  rfl
theorem rdMas_back {k : Nat} {st : RSt} {l : List Mem} {r : List UInt8} (h : rdMas k st = ((l, true), some r)) : l.length = k ∧ ∃ b, st = some b ∧ memsB l ++ r = b := by
  induction k generalizing l r with
  | zero => cases h; exact ⟨rfl, r, rfl, rfl⟩
  | succ k ih =>
    rw [rdMas] at h
    obtain ⟨⟨m, o⟩, t, hd⟩ : ∃ x t, rdMa (rdMas k st).2 = (x, t) := ⟨_, _, rfl⟩
    obtain ⟨⟨l1, o1⟩, t1, h1⟩ : ∃ x t, rdMas k st = (x, t) := ⟨_, _, rfl⟩
    rw [h1] at h hd
    simp only at h hd
    rw [hd] at h
    simp only [Prod.mk.injEq, Bool.and_eq_true] at h
    obtain ⟨⟨rfl, rfl, rfl⟩, rfl⟩ := h
    obtain ⟨b1, rfl, e2⟩ := rdMa_back hd
    obtain ⟨e0, b, rfl, e3⟩ := ih h1
    refine ⟨by simp [e0], b, rfl, ?_⟩
    have e4 : memsB [m] ++ r = memB m ++ r := by simp [memsB]
    rw [memsB_append, List.append_assoc, e4, e2, e3]
theorem rdMas_ok (n : Nat) (st : RSt) : ∀ m ∈ (rdMas n st).1.1, OkM m := by
  induction n with
  | zero => intro m hm; simp [rdMas] at hm
  | succ n ih =>
    intro m hm
    simp only [rdMas, List.mem_append, List.mem_singleton] at hm
    rcases hm with hm | rfl
    · exact ih m hm
    · exact rdMa_ok _
theorem rdMas_len (n : Nat) (st : RSt) : (rdMas n st).1.1.length = n := by
  induction n with
  | zero => rfl
  | succ n ih => simp [rdMas, ih]
theorem wB_is (b : Bool) : (wB b == 1) = b := by cases b <;> rfl
theorem wB_le (b : Bool) : (wB b).toNat ≤ 1 := by cases b <;> decide
theorem wB_back {x : UInt8} (h : x.toNat ≤ 1) : wB (x == 1) = x := by
  have hx : x = 0 ∨ x = 1 := by
    rcases (show x.toNat = 0 ∨ x.toNat = 1 by omega) with h | h
    · exact .inl (UInt8.toNat_inj.1 h)
    · exact .inr (UInt8.toNat_inj.1 h)
  rcases hx with rfl | rfl <;> rfl
/-- Where every member is such as the machine holds. -/
def Fa.OkMs (f : Fa) : Prop := ∀ m ∈ f.ms, OkM m

set_option maxHeartbeats 1600000 in
theorem rdFa_front (f : Fa) (hf : f.Ok) (hm : f.OkMs) (np : Nat) (h : FitsA f np) (r : List UInt8) : rdFa (bareAO f) (some (bodyA f ++ r)) = ((f, true), some r) := by
  obtain ⟨hk, hz, hl⟩ := h
  have i1 := rInt_front hf.la.1 hf.la.2
  have i2 := rInt_front hf.ti.1 hf.ti.2
  have i3 := rInt_front hf.fl.1 hf.fl.2
  have i4 := rInt_front hf.ve.1 hf.ve.2
  have i5 := rInt_front hf.fr.1 hf.fr.2
  have b1 : ∀ r, rBytes (some (textB f.path ++ r)) 220 = (f.path, some r) := fun r => rBytes_fit _ r 220 (by have := hl.1; omega) (by omega)
  have b2 : ∀ r, rBytes (some (textB f.data ++ r)) 1000 = (f.data, some r) := fun r => rBytes_fit _ r 1000 (by have := hl.2.1; omega) (by omega)
  have c1 : ∀ r, rCount (some (intB f.ms.length ++ r)) 7 = ((f.ms.length : Int), some r) := fun r => rCount_front (by omega) (by have := hl.2.2.2.2.2.2.2.1; omega) (by omega) r
  have d1 := rdMas_all hm
  have so := kindB_nat hf.so.1 hf.so.2
  clear hl hf hm
  obtain ⟨k, x, s, t, path, data, fl, ve, wa, so', la, ti, fr, ms⟩ := f
  obtain ⟨z1, z2, z3, z4, z5, z6, z7, z8, z9, z10⟩ := hz
  simp only at *
  have w1 := wB_is wa
  have w2 := wB_le wa
  rcases (show k = 1 ∨ k = 2 ∨ k = 3 ∨ k = 4 ∨ k = 5 ∨ k = 6 ∨ k = 7 ∨ k = 8 ∨ k = 9 ∨ k = 10 ∨ k = 11 ∨ k = 12 ∨ k = 13 ∨ k = 14 by omega) with rfl | rfl | rfl | rfl | rfl | rfl | rfl | rfl | rfl | rfl | rfl | rfl | rfl | rfl <;>
    ((try replace z1 := z1.resolve_left (by decide)) ; (try replace z2 := z2.resolve_left (by decide)) ; (try replace z3 := z3.resolve_left (by decide)) ; (try replace z4 := z4.resolve_left (by decide)) ; (try replace z5 := z5.resolve_left (by decide)) ; (try replace z6 := z6.resolve_left (by decide)) ; (try replace z7 := z7.resolve_left (by decide)) ; (try replace z8 := z8.resolve_left (by decide)) ; (try (replace z9 := z9.resolve_left (by decide); obtain ⟨z91, z92⟩ := z9)) ; (try subst z1) ; (try subst z2) ; (try subst z3) ; (try subst z4) ; (try subst z5) ; (try subst z6) ; (try subst z7) ; (try subst z8) ; (try subst z91) ; (try subst z92)
     simp [rdFa, bodyA, bareAO, List.append_assoc, i1, i2, i3, i4, i5, b1, b2, c1, d1, rByte_front, so, w1, w2])

set_option maxHeartbeats 1600000 in
theorem rdFa_back {f0 f : Fa} {st : RSt} {r : List UInt8} (h : rdFa f0 st = ((f, true), some r)) : ∃ b, st = some b ∧ bodyA f ++ r = b := by
  obtain ⟨k, x, s, t, path, data, fl, ve, wa, so', la, ti, fr, ms⟩ := f0
  by_cases h1 : k = 1
  · subst h1
    obtain ⟨x1, t1, g1⟩ : ∃ x t, rInt st = (x, t) := ⟨_, _, rfl⟩
    obtain ⟨x2, t2, g2⟩ : ∃ x t, rInt t1 = (x, t) := ⟨_, _, rfl⟩
    simp only [rdFa, g1, g2, if_true, Prod.mk.injEq] at h
    obtain ⟨⟨rfl, -⟩, rfl⟩ := h
    obtain ⟨b1, rfl, e2⟩ := rInt_st g2
    obtain ⟨b0, rfl, e1⟩ := rInt_st g1
    refine ⟨b0, rfl, ?_⟩
    rw [← e1, ← e2]
    simp [bodyA]
  by_cases h3 : k = 3
  · subst h3
    obtain ⟨x1, t1, g1⟩ : ∃ x t, rBytes st 220 = (x, t) := ⟨_, _, rfl⟩
    obtain ⟨x2, t2, g2⟩ : ∃ x t, rBytes t1 1000 = (x, t) := ⟨_, _, rfl⟩
    obtain ⟨x3, t3, g3⟩ : ∃ x t, rInt t2 = (x, t) := ⟨_, _, rfl⟩
    simp only [rdFa, g1, g2, g3, if_true, if_false, h1, Prod.mk.injEq] at h
    obtain ⟨⟨rfl, -⟩, rfl⟩ := h
    obtain ⟨b2, rfl, e3⟩ := rInt_st g3
    obtain ⟨b1, rfl, e2, -⟩ := rBytes_back g2
    obtain ⟨b0, rfl, e1, -⟩ := rBytes_back g1
    refine ⟨b0, rfl, ?_⟩
    rw [← e1, ← e2, ← e3]
    simp [bodyA]
  by_cases h4 : k = 4 ∨ k = 6
  · obtain ⟨x1, t1, g1⟩ : ∃ x t, rBytes st 220 = (x, t) := ⟨_, _, rfl⟩
    obtain ⟨x2, t2, g2⟩ : ∃ x t, rInt t1 = (x, t) := ⟨_, _, rfl⟩
    simp only [rdFa, g1, g2, if_pos h4, if_false, h1, h3, Prod.mk.injEq] at h
    obtain ⟨⟨rfl, -⟩, rfl⟩ := h
    obtain ⟨b1, rfl, e2⟩ := rInt_st g2
    obtain ⟨b0, rfl, e1, -⟩ := rBytes_back g1
    refine ⟨b0, rfl, ?_⟩
    rw [← e1, ← e2]
    simp only [bodyA, if_neg h1, if_neg h3, if_pos h4, List.append_assoc]
  by_cases h5 : k = 5
  · subst h5
    obtain ⟨x1, t1, g1⟩ : ∃ x t, rBytes st 220 = (x, t) := ⟨_, _, rfl⟩
    obtain ⟨x2, t2, g2⟩ : ∃ x t, rBytes t1 1000 = (x, t) := ⟨_, _, rfl⟩
    obtain ⟨x3, t3, g3⟩ : ∃ x t, rInt t2 = (x, t) := ⟨_, _, rfl⟩
    simp only [rdFa, g1, g2, g3, if_true, if_false, if_neg h4, h1, h3, Prod.mk.injEq] at h
    obtain ⟨⟨rfl, -⟩, rfl⟩ := h
    obtain ⟨b2, rfl, e3⟩ := rInt_st g3
    obtain ⟨b1, rfl, e2, -⟩ := rBytes_back g2
    obtain ⟨b0, rfl, e1, -⟩ := rBytes_back g1
    refine ⟨b0, rfl, ?_⟩
    rw [← e1, ← e2, ← e3]
    simp [bodyA]
  by_cases h7 : 7 ≤ k ∧ k ≤ 9
  · obtain ⟨x1, t1, g1⟩ : ∃ x t, rBytes st 220 = (x, t) := ⟨_, _, rfl⟩
    obtain ⟨x2, t2, g2⟩ : ∃ x t, rByte t1 = (x, t) := ⟨_, _, rfl⟩
    simp only [rdFa, g1, g2, if_pos h7, if_neg h4, if_false, h1, h3, h5, Prod.mk.injEq, decide_eq_true_eq] at h
    obtain ⟨⟨rfl, hle⟩, rfl⟩ := h
    have e2 := rByte_back g2
    subst e2
    obtain ⟨b0, rfl, e1, -⟩ := rBytes_back g1
    refine ⟨b0, rfl, ?_⟩
    rw [← e1]
    simp only [bodyA, if_neg h1, if_neg h3, if_neg h4, if_neg h5, if_pos h7, List.append_assoc, wB_back hle]
    rfl
  by_cases h12 : k = 12
  · subst h12
    obtain ⟨x1, t1, g1⟩ : ∃ x t, rInt st = (x, t) := ⟨_, _, rfl⟩
    obtain ⟨x2, t2, g2⟩ : ∃ x t, rCount t1 7 = (x, t) := ⟨_, _, rfl⟩
    obtain ⟨⟨x3, o3⟩, t3, g3⟩ : ∃ x t, rdMas x2.toNat t2 = (x, t) := ⟨_, _, rfl⟩
    simp only [rdFa, g1, g2, g3, if_true, if_false, if_neg h4, if_neg h7, h1, h3, h5, Prod.mk.injEq] at h
    obtain ⟨⟨rfl, rfl⟩, rfl⟩ := h
    obtain ⟨hlen, b2, rfl, e3⟩ := rdMas_back g3
    obtain ⟨b1, rfl, e2, h0, -⟩ := rCount_back g2
    obtain ⟨b0, rfl, e1⟩ := rInt_st g1
    refine ⟨b0, rfl, ?_⟩
    have hn : (x3.length : Int) = x2 := by omega
    rw [← e1, ← e2, ← e3]
    simp [bodyA, hn]
  by_cases h14 : k = 14
  · subst h14
    obtain ⟨x1, t1, g1⟩ : ∃ x t, rBytes st 220 = (x, t) := ⟨_, _, rfl⟩
    obtain ⟨x2, t2, g2⟩ : ∃ x t, rByte t1 = (x, t) := ⟨_, _, rfl⟩
    obtain ⟨x3, t3, g3⟩ : ∃ x t, rInt t2 = (x, t) := ⟨_, _, rfl⟩
    simp only [rdFa, g1, g2, g3, if_true, if_false, if_neg h4, if_neg h7, h1, h3, h5, h12, Prod.mk.injEq] at h
    obtain ⟨⟨rfl, -⟩, rfl⟩ := h
    obtain ⟨b2, rfl, e3⟩ := rInt_st g3
    have e2 := rByte_back g2
    subst e2
    obtain ⟨b0, rfl, e1, -⟩ := rBytes_back g1
    refine ⟨b0, rfl, ?_⟩
    rw [← e1, ← e3]
    simp [bodyA, kindB_back]
  simp only [rdFa, if_neg h1, if_neg h3, if_neg h4, if_neg h5, if_neg h7, if_neg h12, if_neg h14, Prod.mk.injEq] at h
  obtain ⟨⟨rfl, -⟩, h⟩ := h
  exact ⟨r, h, by simp only [bodyA, if_neg h1, if_neg h3, if_neg h4, if_neg h5, if_neg h7, if_neg h12, if_neg h14]; rfl⟩
theorem rdFa_k (f : Fa) (st : RSt) : (rdFa f st).1.1.k = f.k ∧ (rdFa f st).1.1.x = f.x ∧ (rdFa f st).1.1.s = f.s ∧ (rdFa f st).1.1.t = f.t := by
  unfold rdFa
  repeat' (split; · exact ⟨rfl, rfl, rfl, rfl⟩)
  exact ⟨rfl, rfl, rfl, rfl⟩
theorem PartA.low {q : Fa × Nat} (h : PartA q) : q.2 = 0 ∧ bareAO q.1 = bareA q.1.k ∧ 0 ≤ q.1.k ∧ q.1.k ≤ 255 := by
  obtain ⟨⟨-, hz, -⟩, hk, hx, hs, ht⟩ := h
  obtain ⟨f, np⟩ := q
  simp only at *
  refine ⟨hz.2.2.2.2.2.2.2.2.2.resolve_left (by omega), ?_, by omega, by omega⟩
  unfold bareAO bareA
  rw [hx, hs, ht]
theorem rdPa_front {q : Fa × Nat} (h : PartA q) (hok : q.1.Ok) (hm : q.1.OkMs) (r : List UInt8) : rdPa (some (kindB q.1.k :: (bodyA q.1 ++ r))) = ((q.1, true), some r) := by
  obtain ⟨-, hb, h0, h1⟩ := h.low
  unfold rdPa
  rw [rByte_front]
  simp only
  rw [kindB_nat h0 h1, ← hb, rdFa_front q.1 hok hm q.2 h.1]
theorem partsA_append (a b : List (Fa × Nat)) : partsA (a ++ b) = partsA a ++ partsA b := by
  induction a with
  | nil => rfl
  | cons m a ih => simp [partsA, ih]
theorem rdPas_front {l : List (Fa × Nat)} (h : ∀ q ∈ l, PartA q) (hok : ∀ q ∈ l, q.1.Ok ∧ q.1.OkMs) (r : List UInt8) (k : Nat) (hk : k ≤ l.length) : rdPas k (some (partsA l ++ r)) = ((l.take k, true), some (partsA (l.drop k) ++ r)) := by
  induction k with
  | zero => simp [rdPas]
  | succ k ih =>
    have hlt : k < l.length := by omega
    have hin := List.getElem_mem hlt
    rw [rdPas, ih (by omega)]
    simp only
    have hd : partsA (l.drop k) = kindB l[k].1.k :: (bodyA l[k].1 ++ partsA (l.drop (k + 1))) := by rw [List.drop_eq_getElem_cons hlt]; rfl
    rw [hd, List.cons_append, List.append_assoc, rdPa_front (h _ hin) (hok _ hin).1 (hok _ hin).2, List.take_succ_eq_append_getElem hlt]
    have h0 := (h _ hin).low.1
    simp only [Bool.and_true, Prod.mk.injEq, and_true, List.append_cancel_left_eq, List.cons.injEq]
    exact Prod.ext rfl h0.symm
theorem rdPas_all {l : List (Fa × Nat)} (h : ∀ q ∈ l, PartA q) (hok : ∀ q ∈ l, q.1.Ok ∧ q.1.OkMs) (r : List UInt8) : rdPas l.length (some (partsA l ++ r)) = ((l, true), some r) := by
  rw [rdPas_front h hok r l.length (Nat.le_refl _), List.take_length, List.drop_length]
  rfl
theorem rdPa_back {st : RSt} {f : Fa} {r : List UInt8} (h : rdPa st = ((f, true), some r)) : ∃ b, st = some b ∧ kindB f.k :: (bodyA f ++ r) = b := by
  unfold rdPa at h
  obtain ⟨b, hb, e⟩ := rdFa_back h
  have hk := (rdFa_k (bareA (rByte st).1.toNat) (rByte st).2).1
  rw [h] at hk
  simp only [bareA] at hk
  obtain ⟨c, t, g⟩ : ∃ c t, rByte st = (c, t) := ⟨_, _, rfl⟩
  rw [g] at hb hk
  simp only at hb hk
  subst hb
  exact ⟨_, rByte_back g, by rw [hk, kindB_back, e]⟩
theorem rdPas_back {k : Nat} {st : RSt} {l : List (Fa × Nat)} {r : List UInt8} (h : rdPas k st = ((l, true), some r)) : l.length = k ∧ ∃ b, st = some b ∧ partsA l ++ r = b := by
  induction k generalizing l r with
  | zero => cases h; exact ⟨rfl, r, rfl, rfl⟩
  | succ k ih =>
    rw [rdPas] at h
    obtain ⟨⟨m, o⟩, t, hd⟩ : ∃ x t, rdPa (rdPas k st).2 = (x, t) := ⟨_, _, rfl⟩
    obtain ⟨⟨l1, o1⟩, t1, h1⟩ : ∃ x t, rdPas k st = (x, t) := ⟨_, _, rfl⟩
    rw [h1] at h hd
    simp only at h hd
    rw [hd] at h
    simp only [Prod.mk.injEq, Bool.and_eq_true] at h
    obtain ⟨⟨rfl, rfl, rfl⟩, rfl⟩ := h
    obtain ⟨b1, rfl, e2⟩ := rdPa_back hd
    obtain ⟨e0, b, rfl, e3⟩ := ih h1
    refine ⟨by simp [e0], b, rfl, ?_⟩
    have e4 : partsA [(m, 0)] ++ r = kindB m.k :: (bodyA m ++ r) := by simp [partsA]
    rw [partsA_append, List.append_assoc, e4, e2, e3]
theorem rdHa_front (f : Fa) (hf : f.Ok) (r : List UInt8) : rdHa (headA f ++ r) = (bareAO f, some r) := by
  have i1 := rInt_front hf.x.1 hf.x.2
  have i2 := rInt_front hf.s.1 hf.s.2
  have i3 := rInt_front hf.t.1 hf.t.2
  have k := kindB_nat hf.k.1 hf.k.2
  simp [rdHa, headA, rByte_front, i1, i2, i3, k, bareAO]
theorem rdHa_back {b : List UInt8} {f : Fa} {r : List UInt8} (h : rdHa b = (f, some r)) : headA f ++ r = b ∧ bareAO f = f := by
  obtain ⟨x0, t0, g0⟩ : ∃ x t, rByte (some b) = (x, t) := ⟨_, _, rfl⟩
  obtain ⟨x1, t1, g1⟩ : ∃ x t, rInt t0 = (x, t) := ⟨_, _, rfl⟩
  obtain ⟨x2, t2, g2⟩ : ∃ x t, rInt t1 = (x, t) := ⟨_, _, rfl⟩
  obtain ⟨x3, t3, g3⟩ : ∃ x t, rInt t2 = (x, t) := ⟨_, _, rfl⟩
  simp only [rdHa, g0, g1, g2, g3, Prod.mk.injEq] at h
  obtain ⟨rfl, rfl⟩ := h
  obtain ⟨b2, rfl, e3⟩ := rInt_st g3
  obtain ⟨b1, rfl, e2⟩ := rInt_st g2
  obtain ⟨b0, rfl, e1⟩ := rInt_st g1
  have e0 := rByte_back g0
  simp only [Option.some.injEq] at e0
  refine ⟨?_, rfl⟩
  rw [e0, ← e1, ← e2, ← e3]
  simp [headA, kindB_back]
theorem RightA.parts {f : Fa} {l : List (Fa × Nat)} (h : RightA f l) : (f.k ≠ 11 → l = []) ∧ (f.k = 11 → bareAO f = f) := by
  obtain ⟨⟨-, hz, -⟩, -⟩ := h
  refine ⟨fun hk => List.length_eq_zero_iff.1 (hz.2.2.2.2.2.2.2.2.2.resolve_left hk), fun hk => ?_⟩
  obtain ⟨k, x, s, t, path, data, fl, ve, wa, so', la, ti, fr, ms⟩ := f
  simp only at hk
  subst hk
  obtain ⟨z1, z2, z3, z4, z5, z6, z7, z8, z9, z10⟩ := hz
  simp only at z1 z2 z3 z4 z5 z6 z7 z8 z9
  replace z1 := z1.resolve_left (by decide)
  replace z2 := z2.resolve_left (by decide)
  replace z3 := z3.resolve_left (by decide)
  replace z4 := z4.resolve_left (by decide)
  replace z5 := z5.resolve_left (by decide)
  replace z6 := z6.resolve_left (by decide)
  replace z7 := z7.resolve_left (by decide)
  replace z8 := z8.resolve_left (by decide)
  replace z9 := z9.resolve_left (by decide)
  simp only at *
  simp only [bareAO, z1, z2, z3, z4, z5, z6, z7, z8, z9.1, z9.2]
/-- A right call's bytes are read as that call. -/
theorem rdAsk_front {f : Fa} {l : List (Fa × Nat)} (h : RightA f l) (hf : f.Ok) (hm : f.OkMs) (hok : ∀ q ∈ l, q.1.Ok ∧ q.1.OkMs) (r : List UInt8) : rdAsk (askB f l ++ r) = ((f, l, true), some r) := by
  obtain ⟨hp, hb⟩ := h.parts
  unfold rdAsk askB
  rw [List.append_assoc, rdHa_front f hf]
  simp only
  unfold rdTa
  by_cases hk : f.k = 11
  · have hbk : bodyA f = [] := by simp [bodyA, hk]
    have c1 := rCount_front (n := (l.length : Int)) (m := 16) (by omega) (by have := h.2.2.2.2.2.1; omega) (by omega) (partsA l ++ r)
    have p1 := rdPas_all h.2.2.2.2.2.2.1 hok r
    rw [if_pos (show (bareAO f).k = 11 from hk), hbk, if_pos hk, List.nil_append, List.append_assoc, c1]
    simp only [Int.toNat_natCast]
    rw [p1, hb hk]
  · have h0 := hp hk
    subst h0
    rw [if_neg (show ¬ (bareAO f).k = 11 from hk), if_neg hk, List.append_nil, rdFa_front f hf hm 0 h.1]
theorem getA_front {f : Fa} {l : List (Fa × Nat)} (h : RightA f l) (hf : f.Ok) (hm : f.OkMs) (hok : ∀ q ∈ l, q.1.Ok ∧ q.1.OkMs) : getA (askB f l) = some (f, l) := by
  have := rdAsk_front h hf hm hok []
  rw [List.append_nil] at this
  unfold getA
  rw [this, if_pos ⟨rfl, rfl, h⟩]
/-- What is read was put as just these bytes. -/
theorem rdAsk_back {b : List UInt8} {f : Fa} {l : List (Fa × Nat)} {r : List UInt8} (h : rdAsk b = ((f, l, true), some r)) : askB f l ++ r = b := by
  unfold rdAsk at h
  obtain ⟨f0, t0, g0⟩ : ∃ x t, rdHa b = (x, t) := ⟨_, _, rfl⟩
  rw [g0] at h
  simp only at h
  unfold rdTa at h
  by_cases hk : f0.k = 11
  · rw [if_pos hk] at h
    obtain ⟨n, t1, g1⟩ : ∃ x t, rCount t0 16 = (x, t) := ⟨_, _, rfl⟩
    obtain ⟨⟨p, o⟩, t2, g2⟩ : ∃ x t, rdPas n.toNat t1 = (x, t) := ⟨_, _, rfl⟩
    simp only [g1, g2, Prod.mk.injEq] at h
    obtain ⟨⟨rfl, rfl, rfl⟩, rfl⟩ := h
    obtain ⟨e2, b1, rfl, e3⟩ := rdPas_back g2
    obtain ⟨b0, rfl, e1, h0, -⟩ := rCount_back g1
    obtain ⟨e0, hb⟩ := rdHa_back g0
    have hn : (p.length : Int) = n := by omega
    have hbk : bodyA f0 = [] := by simp [bodyA, hk]
    unfold askB
    rw [if_pos hk, hbk, List.nil_append, hn, List.append_assoc, List.append_assoc, e3, e1, e0]
  · rw [if_neg hk] at h
    obtain ⟨⟨f1, o⟩, t1, g1⟩ : ∃ x t, rdFa f0 t0 = (x, t) := ⟨_, _, rfl⟩
    simp only [g1, Prod.mk.injEq] at h
    obtain ⟨⟨rfl, rfl, rfl⟩, rfl⟩ := h
    obtain ⟨b0, rfl, e1⟩ := rdFa_back g1
    obtain ⟨e0, hb⟩ := rdHa_back g0
    have hh := rdFa_k f0 (some b0)
    rw [g1] at hh
    simp only at hh
    unfold askB
    rw [if_neg (by rw [hh.1]; exact hk), List.append_nil, List.append_assoc, e1, ← e0]
    unfold headA
    rw [hh.1, hh.2.1, hh.2.2.1, hh.2.2.2]
end Go.Proofs.YtlckgkpgllhpbaaDoor

/- Aky -/
namespace Go.Proofs.YtlckgkpgllhpbaaDoor
open Go.RowKit

/-- Numbers, one behind the other. -/
def intsB : List Int → List UInt8
  | [] => []
  | n :: l => intB n ++ intsB l
def rdIs : Nat → RSt → List Int × RSt
  | 0, st => ([], st)
  | n + 1, st => ((rdIs n st).1 ++ [(rInt (rdIs n st).2).1], (rInt (rdIs n st).2).2)
/-- Texts, one behind the other. -/
def textsB : List (List UInt8) → List UInt8
  | [] => []
  | t :: l => textB t ++ textsB l
def rdTs : Nat → RSt → List (List UInt8) × RSt
  | 0, st => ([], st)
  | n + 1, st => ((rdTs n st).1 ++ [(rBytes (rdTs n st).2 220).1], (rBytes (rdTs n st).2 220).2)
def OkI (n : Int) : Prop := -9223372036854775808 ≤ n ∧ n ≤ 9223372036854775807
theorem intsB_append (a b : List Int) : intsB (a ++ b) = intsB a ++ intsB b := by
  induction a with
  | nil => rfl
  | cons m a ih => simp [intsB, ih]
theorem intsB_len (l : List Int) : (intsB l).length ≤ 10 * l.length := by
  induction l with
  | nil => simp [intsB]
  | cons m l ih => have := intB_len m; simp [intsB]; omega
theorem textsB_append (a b : List (List UInt8)) : textsB (a ++ b) = textsB a ++ textsB b := by
  induction a with
  | nil => rfl
  | cons m a ih => simp [textsB, ih]
theorem textsB_len {l : List (List UInt8)} {n : Nat} (h : ∀ t ∈ l, t.length ≤ n) : (textsB l).length ≤ (n + 10) * l.length := by
  induction l with
  | nil => simp [textsB]
  | cons m l ih =>
    have h1 := textB_len m
    have h2 := h m (List.mem_cons_self)
    have h3 := ih (fun t ht => h t (List.mem_cons_of_mem _ ht))
    simp only [textsB, List.length_append, List.length_cons, Nat.mul_add, Nat.mul_one]
    omega
theorem rdIs_len (n : Nat) (st : RSt) : (rdIs n st).1.length = n := by
  induction n with
  | zero => rfl
  | succ n ih => simp [rdIs, ih]
theorem rdTs_len (n : Nat) (st : RSt) : (rdTs n st).1.length = n := by
  induction n with
  | zero => rfl
  | succ n ih => simp [rdTs, ih]
theorem rdIs_ok (n : Nat) (st : RSt) : ∀ x ∈ (rdIs n st).1, OkI x := by
  induction n with
  | zero => intro m hm; simp [rdIs] at hm
  | succ n ih =>
    intro m hm
    simp only [rdIs, List.mem_append, List.mem_singleton] at hm
    rcases hm with hm | rfl
    · exact ih m hm
    · exact rInt_range _
theorem rdTs_ok (n : Nat) (st : RSt) : ∀ x ∈ (rdTs n st).1, x.length ≤ 220 := by
  induction n with
  | zero => intro m hm; simp [rdTs] at hm
  | succ n ih =>
    intro m hm
    simp only [rdTs, List.mem_append, List.mem_singleton] at hm
    rcases hm with hm | rfl
    · exact ih m hm
    · exact rBytes_len _ 220
theorem rdIs_front {l : List Int} (h : ∀ m ∈ l, OkI m) (r : List UInt8) (k : Nat) (hk : k ≤ l.length) : rdIs k (some (intsB l ++ r)) = (l.take k, some (intsB (l.drop k) ++ r)) := by
  induction k with
  | zero => simp [rdIs]
  | succ k ih =>
    have hlt : k < l.length := by omega
    rw [rdIs, ih (by omega)]
    simp only
    have hd : intsB (l.drop k) = intB l[k] ++ intsB (l.drop (k + 1)) := by rw [List.drop_eq_getElem_cons hlt]; rfl
    rw [hd, List.append_assoc, rInt_front (h _ (List.getElem_mem hlt)).1 (h _ (List.getElem_mem hlt)).2, List.take_succ_eq_append_getElem hlt]
theorem rdIs_all {l : List Int} (h : ∀ m ∈ l, OkI m) (r : List UInt8) {n : Nat} (hn : l.length = n) : rdIs n (some (intsB l ++ r)) = (l, some r) := by
  subst hn
  rw [rdIs_front h r l.length (Nat.le_refl _), List.take_length, List.drop_length]
  rfl
theorem rdTs_front {l : List (List UInt8)} (h : ∀ m ∈ l, m.length ≤ 220) (r : List UInt8) (k : Nat) (hk : k ≤ l.length) : rdTs k (some (textsB l ++ r)) = (l.take k, some (textsB (l.drop k) ++ r)) := by
  induction k with
  | zero => simp [rdTs]
  | succ k ih =>
    have hlt : k < l.length := by omega
    rw [rdTs, ih (by omega)]
    simp only
    have hd : textsB (l.drop k) = textB l[k] ++ textsB (l.drop (k + 1)) := by rw [List.drop_eq_getElem_cons hlt]; rfl
    rw [hd, List.append_assoc, rBytes_fit _ _ 220 (by have := h _ (List.getElem_mem hlt); omega) (by omega), List.take_succ_eq_append_getElem hlt]
theorem rdTs_all {l : List (List UInt8)} (h : ∀ m ∈ l, m.length ≤ 220) (r : List UInt8) : rdTs l.length (some (textsB l ++ r)) = (l, some r) := by
  rw [rdTs_front h r l.length (Nat.le_refl _), List.take_length, List.drop_length]
  rfl
theorem rdIs_back {k : Nat} {st : RSt} {l : List Int} {r : List UInt8} (h : rdIs k st = (l, some r)) : ∃ b, st = some b ∧ intsB l ++ r = b := by
  induction k generalizing l r with
  | zero => cases h; exact ⟨r, rfl, rfl⟩
  | succ k ih =>
    rw [rdIs] at h
    obtain ⟨m, t, hd⟩ : ∃ x t, rInt (rdIs k st).2 = (x, t) := ⟨_, _, rfl⟩
    obtain ⟨l1, t1, h1⟩ : ∃ x t, rdIs k st = (x, t) := ⟨_, _, rfl⟩
    rw [h1] at h hd
    simp only at h hd
    rw [hd] at h
    simp only [Prod.mk.injEq] at h
    obtain ⟨rfl, rfl⟩ := h
    obtain ⟨b1, rfl, e2⟩ := rInt_st hd
    obtain ⟨b, rfl, e3⟩ := ih h1
    refine ⟨b, rfl, ?_⟩
    have e4 : intsB [m] ++ r = intB m ++ r := by simp [intsB]
    rw [intsB_append, List.append_assoc, e4, e2, e3]
theorem rdTs_back {k : Nat} {st : RSt} {l : List (List UInt8)} {r : List UInt8} (h : rdTs k st = (l, some r)) : ∃ b, st = some b ∧ textsB l ++ r = b := by
  induction k generalizing l r with
  | zero => cases h; exact ⟨r, rfl, rfl⟩
  | succ k ih =>
    rw [rdTs] at h
    obtain ⟨m, t, hd⟩ : ∃ x t, rBytes (rdTs k st).2 220 = (x, t) := ⟨_, _, rfl⟩
    obtain ⟨l1, t1, h1⟩ : ∃ x t, rdTs k st = (x, t) := ⟨_, _, rfl⟩
    rw [h1] at h hd
    simp only at h hd
    rw [hd] at h
    simp only [Prod.mk.injEq] at h
    obtain ⟨rfl, rfl⟩ := h
    obtain ⟨b1, rfl, e2, -⟩ := rBytes_back hd
    obtain ⟨b, rfl, e3⟩ := ih h1
    refine ⟨b, rfl, ?_⟩
    have e4 : textsB [m] ++ r = textB m ++ r := by simp [textsB]
    rw [textsB_append, List.append_assoc, e4, e2, e3]

/-- A reply without its parts: Kind; Xid, Zxid, Err, Session, Timeout; Path; Data; its stat's ten numbers; List; Config. -/
structure Fy where
  k : Int
  hd : List Int
  path : List UInt8
  data : List UInt8
  st : List Int
  ls : List (List UInt8)
  c : Int × List Mem
structure Fy.Ok (f : Fy) : Prop where
  k : 0 ≤ f.k ∧ f.k ≤ 255
  hd : ∀ n ∈ f.hd, OkI n
  hl : f.hd.length = 5
  st : ∀ n ∈ f.st, OkI n
  sl : f.st.length = 10
  c : OkI f.c.1
  path : f.path.length ≤ 140737488355328
  data : f.data.length ≤ 140737488355328
  ms : f.c.2.length ≤ 4398046510976
  ls : f.ls.length ≤ 140737488355328
/-- No config. -/
def Fy.cz (f : Fy) : Prop := f.c.1 = 0 ∧ f.c.2 = []
instance (f : Fy) : Decidable f.cz := inferInstanceAs (Decidable (_ ∧ _))
/-- A reply may be, but for what its parts are. -/
def AnsY (f : Fy) (np : Nat) : Prop :=
  (1 ≤ f.k ∧ f.k ≤ 14) ∧ (∀ n ∈ f.hd, 0 ≤ n) ∧ f.hd.getD 4 0 ≤ 1000 ∧ f.path.length ≤ 220 ∧ f.data.length ≤ 1000 ∧ (∀ n ∈ f.st, 0 ≤ n) ∧ f.ls.length ≤ 500 ∧ (∀ t ∈ f.ls, t.length ≤ 220) ∧ (f.cz ∨ chk f.c.1 f.c.2 = 0) ∧ np ≤ 16
instance (f : Fy) (np : Nat) : Decidable (AnsY f np) := by unfold AnsY; infer_instance
def PartY (q : Fy × Nat) : Prop := AnsY q.1 q.2 ∧ q.2 = 0 ∧ q.1.ls = []
instance (q : Fy × Nat) : Decidable (PartY q) := by unfold PartY; infer_instance
def RightY (f : Fy) (l : List (Fy × Nat)) : Prop := AnsY f l.length ∧ ∀ q ∈ l, PartY q
instance (f : Fy) (l : List (Fy × Nat)) : Decidable (RightY f l) := by unfold RightY; infer_instance

/-- A config's bytes, or none. -/
def confB (f : Fy) : List UInt8 := if f.cz then [] else ensB f.c.1 f.c.2
def bodyY (f : Fy) : List UInt8 :=
  kindB f.k :: (intsB f.hd ++ (textB f.path ++ (textB f.data ++ (intsB f.st ++ (intB f.ls.length ++ (textsB f.ls ++ textB (confB f)))))))
def partsY : List (Fy × Nat) → List UInt8
  | [] => []
  | p :: l => bodyY p.1 ++ (intB 0 ++ partsY l)
def replyB (f : Fy) (l : List (Fy × Nat)) : List UInt8 := bodyY f ++ (intB l.length ++ partsY l)

/-- The config of bytes, and whether they are right. -/
def rdCf (b : List UInt8) : (Int × List Mem) × Bool := if b = [] then ((0, []), true) else (((getV b).1, (getV b).2.1), (getV b).2.2 == 0)
def rdY0 (st : RSt) : (Fy × Bool) × RSt :=
  let k := rByte st; let h := rdIs 5 k.2; let p := rBytes h.2 220; let d := rBytes p.2 1000; let s := rdIs 10 d.2; let n := rCount s.2 500; let t := rdTs n.1.toNat n.2; let c := rBytes t.2 1048576
  ((⟨k.1.toNat, h.1, p.1, d.1, s.1, t.1, (rdCf c.1).1⟩, (rdCf c.1).2), c.2)
/-- A part: its own parts are counted only. -/
def rdYp (st : RSt) : (Fy × Bool) × RSt :=
  let y := rdY0 st; let n := rCount y.2 16
  ((y.1.1, y.1.2 && decide (n.1 = 0)), n.2)
def rdYs : Nat → RSt → (List (Fy × Nat) × Bool) × RSt
  | 0, st => (([], true), st)
  | n + 1, st => (((rdYs n st).1.1 ++ [((rdYp (rdYs n st).2).1.1, 0)], (rdYs n st).1.2 && (rdYp (rdYs n st).2).1.2), (rdYp (rdYs n st).2).2)
def rdRep (b : List UInt8) : (Fy × List (Fy × Nat) × Bool) × RSt :=
  let y := rdY0 (some b); let n := rCount y.2 16; let p := rdYs n.1.toNat n.2
  ((y.1.1, p.1.1, y.1.2 && p.1.2), p.2)
/-- The reply whose bytes these are. -/
def getY (b : List UInt8) : Option (Fy × List (Fy × Nat)) :=
  if (rdRep b).1.2.2 = true ∧ rWhole (rdRep b).2 = true ∧ RightY (rdRep b).1.1 (rdRep b).1.2.1 then some ((rdRep b).1.1, (rdRep b).1.2.1) else none

theorem chk_none0 : chk 0 [] ≠ 0 := by decide +kernel
theorem ensB_ne (v : Int) (ms : List Mem) : ensB v ms ≠ [] := fun h => by
  have := intB_len v
  have h2 := congrArg List.length h
  simp only [ensB, List.length_append, List.length_nil] at h2
  omega
theorem confB_len {f : Fy} (h : f.cz ∨ chk f.c.1 f.c.2 = 0) : (confB f).length ≤ 1048576 := by
  unfold confB
  split
  · simp
  · rename_i hz
    have hck := h.resolve_left hz
    have hl := putE_len f.c.1 f.c.2
    rw [putE, if_pos hck] at hl
    simp only at hl
    omega
theorem rdCf_front {f : Fy} (h : f.cz ∨ chk f.c.1 f.c.2 = 0) : rdCf (confB f) = (f.c, true) := by
  unfold rdCf confB
  by_cases hz : f.cz
  · rw [if_pos hz, if_pos rfl]
    exact Prod.ext (Prod.ext hz.1.symm hz.2.symm) rfl
  · rw [if_neg hz, if_neg (ensB_ne _ _), getV_some (get_front (h.resolve_left hz))]
    rfl
theorem rdCf_back {b : List UInt8} {c : Int × List Mem} (h : rdCf b = (c, true)) {f : Fy} (hc : f.c = c) : confB f = b ∧ (f.cz ∨ chk f.c.1 f.c.2 = 0) := by
  subst hc
  unfold rdCf at h
  unfold confB
  by_cases hb : b = []
  · rw [if_pos hb] at h
    simp only [Prod.mk.injEq, and_true] at h
    have hz : f.cz := ⟨by rw [← h], by rw [← h]⟩
    rw [if_pos hz]
    exact ⟨hb.symm, .inl hz⟩
  · rw [if_neg hb] at h
    simp only [Prod.mk.injEq, beq_iff_eq] at h
    obtain ⟨h1, h2⟩ := h
    unfold getV at h1 h2
    cases hg : getE b with
    | none => rw [hg] at h2; simp at h2
    | some y =>
      obtain ⟨v, ms⟩ := y
      rw [hg] at h1
      simp only at h1
      have hbk := get_back hg
      have hck : chk v ms = 0 := hbk.2
      have hnz : ¬ f.cz := fun hz => by
        obtain ⟨e1, e2⟩ := hz
        rw [← h1] at e1 e2
        simp only at e1 e2
        subst e1 e2
        exact chk_none0 hck
      rw [if_neg hnz, ← h1]
      exact ⟨hbk.1, .inr hck⟩
set_option maxHeartbeats 1600000 in
theorem rdY0_front {f : Fy} (hf : f.Ok) {np : Nat} (h : AnsY f np) (r : List UInt8) : rdY0 (some (bodyY f ++ r)) = ((f, true), some r) := by
  obtain ⟨h1, h2, h3, h4, h5, h6, h7, h8, h9, h10⟩ := h
  have e := rdCf_front h9
  have i1 := fun r => rdIs_all hf.hd r hf.hl
  have i2 := fun r => rdIs_all hf.st r hf.sl
  have b1 : ∀ r, rBytes (some (textB f.path ++ r)) 220 = (f.path, some r) := fun r => rBytes_fit _ r 220 (by omega) (by omega)
  have b2 : ∀ r, rBytes (some (textB f.data ++ r)) 1000 = (f.data, some r) := fun r => rBytes_fit _ r 1000 (by omega) (by omega)
  have b3 : ∀ r, rBytes (some (textB (confB f) ++ r)) 1048576 = (confB f, some r) := fun r => rBytes_fit _ r 1048576 (by have := confB_len h9; omega) (by omega)
  have c1 : ∀ r, rCount (some (intB f.ls.length ++ r)) 500 = ((f.ls.length : Int), some r) := fun r => rCount_front (by omega) (by omega) (by omega) r
  have t1 := rdTs_all h8
  have kk := kindB_nat hf.k.1 hf.k.2
  simp only [rdY0, bodyY, List.cons_append, List.append_assoc, rByte_front, i1, i2, b1, b2, b3, c1, Int.toNat_natCast, t1, e, kk]
set_option maxHeartbeats 1600000 in
theorem rdY0_back {st : RSt} {f : Fy} {r : List UInt8} (h : rdY0 st = ((f, true), some r)) : (f.cz ∨ chk f.c.1 f.c.2 = 0) ∧ ∃ b, st = some b ∧ bodyY f ++ r = b := by
  obtain ⟨x0, t0, g0⟩ : ∃ x t, rByte st = (x, t) := ⟨_, _, rfl⟩
  obtain ⟨x1, t1, g1⟩ : ∃ x t, rdIs 5 t0 = (x, t) := ⟨_, _, rfl⟩
  obtain ⟨x2, t2, g2⟩ : ∃ x t, rBytes t1 220 = (x, t) := ⟨_, _, rfl⟩
  obtain ⟨x3, t3, g3⟩ : ∃ x t, rBytes t2 1000 = (x, t) := ⟨_, _, rfl⟩
  obtain ⟨x4, t4, g4⟩ : ∃ x t, rdIs 10 t3 = (x, t) := ⟨_, _, rfl⟩
  obtain ⟨x5, t5, g5⟩ : ∃ x t, rCount t4 500 = (x, t) := ⟨_, _, rfl⟩
  obtain ⟨x6, t6, g6⟩ : ∃ x t, rdTs x5.toNat t5 = (x, t) := ⟨_, _, rfl⟩
  obtain ⟨x7, t7, g7⟩ : ∃ x t, rBytes t6 1048576 = (x, t) := ⟨_, _, rfl⟩
  obtain ⟨c, o, gc⟩ : ∃ x t, rdCf x7 = (x, t) := ⟨_, _, rfl⟩
  simp only [rdY0, g0, g1, g2, g3, g4, g5, g6, g7, gc, Prod.mk.injEq] at h
  obtain ⟨⟨rfl, rfl⟩, rfl⟩ := h
  obtain ⟨ec, hcz⟩ := rdCf_back (f := ⟨x0.toNat, x1, x2, x3, x4, x6, c⟩) gc rfl
  have hl6 := rdTs_len x5.toNat t5
  rw [g6] at hl6
  simp only at hl6
  obtain ⟨b6, rfl, e7, -⟩ := rBytes_back g7
  obtain ⟨b5, rfl, e6⟩ := rdTs_back g6
  obtain ⟨b4, rfl, e5, h0, -⟩ := rCount_back g5
  obtain ⟨b3, rfl, e4⟩ := rdIs_back g4
  obtain ⟨b2, rfl, e3, -⟩ := rBytes_back g3
  obtain ⟨b1, rfl, e2, -⟩ := rBytes_back g2
  obtain ⟨b0, rfl, e1⟩ := rdIs_back g1
  have e0 := rByte_back g0
  refine ⟨hcz, _, e0, ?_⟩
  have hn : (x6.length : Int) = x5 := by omega
  unfold bodyY
  rw [ec]
  simp only [List.cons_append, List.append_assoc, kindB_back, hn]
  rw [e7, e6, e5, e4, e3, e2, e1]
theorem rdYp_front {q : Fy × Nat} (h : PartY q) (hf : q.1.Ok) (r : List UInt8) : rdYp (some (bodyY q.1 ++ (intB 0 ++ r))) = ((q.1, true), some r) := by
  have c := rCount_front (n := 0) (m := 16) (by omega) (by omega) (by omega) r
  unfold rdYp
  rw [rdY0_front hf h.1]
  simp only [c]
  rfl
theorem rdYp_back {st : RSt} {f : Fy} {r : List UInt8} (h : rdYp st = ((f, true), some r)) : (f.cz ∨ chk f.c.1 f.c.2 = 0) ∧ ∃ b, st = some b ∧ bodyY f ++ (intB 0 ++ r) = b := by
  unfold rdYp at h
  obtain ⟨⟨f1, o⟩, t0, g0⟩ : ∃ x t, rdY0 st = (x, t) := ⟨_, _, rfl⟩
  obtain ⟨n, t1, g1⟩ : ∃ x t, rCount t0 16 = (x, t) := ⟨_, _, rfl⟩
  simp only [g0, g1, Prod.mk.injEq, Bool.and_eq_true, decide_eq_true_eq] at h
  obtain ⟨⟨rfl, rfl, rfl⟩, rfl⟩ := h
  obtain ⟨b1, rfl, e1, -⟩ := rCount_back g1
  obtain ⟨hc, b, rfl, e2⟩ := rdY0_back g0
  exact ⟨hc, b, rfl, by rw [e1, e2]⟩
theorem partsY_append (a b : List (Fy × Nat)) : partsY (a ++ b) = partsY a ++ partsY b := by
  induction a with
  | nil => rfl
  | cons m a ih => simp [partsY, ih]
theorem rdYs_front {l : List (Fy × Nat)} (h : ∀ q ∈ l, PartY q) (hok : ∀ q ∈ l, q.1.Ok) (r : List UInt8) (k : Nat) (hk : k ≤ l.length) : rdYs k (some (partsY l ++ r)) = ((l.take k, true), some (partsY (l.drop k) ++ r)) := by
  induction k with
  | zero => simp [rdYs]
  | succ k ih =>
    have hlt : k < l.length := by omega
    have hin := List.getElem_mem hlt
    rw [rdYs, ih (by omega)]
    simp only
    have hd : partsY (l.drop k) = bodyY l[k].1 ++ (intB 0 ++ partsY (l.drop (k + 1))) := by rw [List.drop_eq_getElem_cons hlt]; rfl
    rw [hd, List.append_assoc, List.append_assoc, rdYp_front (h _ hin) (hok _ hin), List.take_succ_eq_append_getElem hlt]
    have h0 := (h _ hin).2.1
    simp only [Bool.true_and, Prod.mk.injEq, and_true, List.append_cancel_left_eq, List.cons.injEq]
    exact Prod.ext rfl h0.symm
theorem rdYs_all {l : List (Fy × Nat)} (h : ∀ q ∈ l, PartY q) (hok : ∀ q ∈ l, q.1.Ok) (r : List UInt8) : rdYs l.length (some (partsY l ++ r)) = ((l, true), some r) := by
  rw [rdYs_front h hok r l.length (Nat.le_refl _), List.take_length, List.drop_length]
  rfl
theorem rdYs_len (n : Nat) (st : RSt) : (rdYs n st).1.1.length = n := by
  induction n with
  | zero => rfl
  | succ n ih => simp [rdYs, ih]
theorem rdYs_back {k : Nat} {st : RSt} {l : List (Fy × Nat)} {r : List UInt8} (h : rdYs k st = ((l, true), some r)) : ∃ b, st = some b ∧ partsY l ++ r = b := by
  induction k generalizing l r with
  | zero => cases h; exact ⟨r, rfl, rfl⟩
  | succ k ih =>
    rw [rdYs] at h
    obtain ⟨⟨m, o⟩, t, hd⟩ : ∃ x t, rdYp (rdYs k st).2 = (x, t) := ⟨_, _, rfl⟩
    obtain ⟨⟨l1, o1⟩, t1, h1⟩ : ∃ x t, rdYs k st = (x, t) := ⟨_, _, rfl⟩
    rw [h1] at h hd
    simp only at h hd
    rw [hd] at h
    simp only [Prod.mk.injEq, Bool.and_eq_true] at h
    obtain ⟨⟨rfl, rfl, rfl⟩, rfl⟩ := h
    obtain ⟨-, b1, rfl, e2⟩ := rdYp_back hd
    obtain ⟨b, rfl, e3⟩ := ih h1
    refine ⟨b, rfl, ?_⟩
    have e4 : partsY [(m, 0)] ++ r = bodyY m ++ (intB 0 ++ r) := by simp [partsY]
    rw [partsY_append, List.append_assoc, e4, e2, e3]
/-- A right reply's bytes are read as that reply. -/
theorem rdRep_front {f : Fy} {l : List (Fy × Nat)} (h : RightY f l) (hf : f.Ok) (hok : ∀ q ∈ l, q.1.Ok) (r : List UInt8) : rdRep (replyB f l ++ r) = ((f, l, true), some r) := by
  have c := rCount_front (n := (l.length : Int)) (m := 16) (by omega) (by have := h.1.2.2.2.2.2.2.2.2.2; omega) (by omega) (partsY l ++ r)
  have p := rdYs_all h.2 hok r
  unfold rdRep replyB
  rw [List.append_assoc, rdY0_front hf h.1, List.append_assoc]
  simp only [c, Int.toNat_natCast, p]
  rfl
theorem getY_front {f : Fy} {l : List (Fy × Nat)} (h : RightY f l) (hf : f.Ok) (hok : ∀ q ∈ l, q.1.Ok) : getY (replyB f l) = some (f, l) := by
  have := rdRep_front h hf hok []
  rw [List.append_nil] at this
  unfold getY
  rw [this, if_pos ⟨rfl, rfl, h⟩]
theorem rdRep_back {b : List UInt8} {f : Fy} {l : List (Fy × Nat)} {r : List UInt8} (h : rdRep b = ((f, l, true), some r)) : replyB f l ++ r = b := by
  obtain ⟨⟨f1, o⟩, t0, g0⟩ : ∃ x t, rdY0 (some b) = (x, t) := ⟨_, _, rfl⟩
  obtain ⟨n, t1, g1⟩ : ∃ x t, rCount t0 16 = (x, t) := ⟨_, _, rfl⟩
  obtain ⟨⟨p, o2⟩, t2, g2⟩ : ∃ x t, rdYs n.toNat t1 = (x, t) := ⟨_, _, rfl⟩
  simp only [rdRep, g0, g1, g2, Prod.mk.injEq, Bool.and_eq_true] at h
  obtain ⟨⟨rfl, rfl, rfl, rfl⟩, rfl⟩ := h
  have hl := rdYs_len n.toNat t1
  rw [g2] at hl
  simp only at hl
  obtain ⟨b2, rfl, e2⟩ := rdYs_back g2
  obtain ⟨b1, rfl, e1, h0, -⟩ := rCount_back g1
  obtain ⟨-, b0, e, e0⟩ := rdY0_back g0
  cases e
  have hn : (p.length : Int) = n := by omega
  unfold replyB
  rw [List.append_assoc, List.append_assoc, hn, e2, e1, e0]
end Go.Proofs.YtlckgkpgllhpbaaDoor

/- Akc -/
namespace Go.Proofs.YtlckgkpgllhpbaaDoor
open Go.RowKit

theorem wB_len (b : Bool) : ([wB b]).length = 1 := rfl
theorem bodyA_len {f : Fa} {np : Nat} (h : FitsA f np) : (bodyA f).length ≤ 1260 := by
  obtain ⟨-, -, h1, h2, -, -, -, -, -, h8, -⟩ := h
  have a1 := textB_len f.path
  have a2 := textB_len f.data
  have a3 := intB_len f.la
  have a4 := intB_len f.ti
  have a5 := intB_len f.fl
  have a6 := intB_len f.ve
  have a7 := intB_len f.fr
  have a8 := intB_len f.ms.length
  have a9 := memsB_len f.ms
  unfold bodyA
  repeat' split
  all_goals simp only [List.length_append, List.length_cons, List.length_nil]
  all_goals omega
theorem partsA_len {l : List (Fa × Nat)} (h : ∀ q ∈ l, PartA q) : (partsA l).length ≤ 1261 * l.length := by
  induction l with
  | nil => simp [partsA]
  | cons m l ih =>
    have h1 := bodyA_len (h m List.mem_cons_self).1
    have h2 := ih (fun q hq => h q (List.mem_cons_of_mem _ hq))
    simp only [partsA, List.length_append, List.length_cons]
    omega
theorem headA_len (f : Fa) : (headA f).length ≤ 31 := by
  have a1 := intB_len f.x
  have a2 := intB_len f.s
  have a3 := intB_len f.t
  simp only [headA, List.length_append, List.length_cons]
  omega
theorem askB_len {f : Fa} {l : List (Fa × Nat)} (h : RightA f l) : (askB f l).length ≤ 22000 := by
  have h1 := bodyA_len h.1
  have h2 := partsA_len h.2.2.2.2.2.2.1
  have h3 := headA_len f
  have h4 := h.2.2.2.2.2.1
  have h5 := intB_len l.length
  unfold askB
  split
  · simp only [List.length_append]; omega
  · simp only [List.length_append, List.length_nil]; omega
theorem u8_range (x : UInt8) : 0 ≤ (x.toNat : Int) ∧ (x.toNat : Int) ≤ 255 := by have := x.toNat_lt; omega
theorem rdFa_ok {f : Fa} (h : f.Ok) (hm : f.OkMs) (st : RSt) : (rdFa f st).1.1.Ok ∧ (rdFa f st).1.1.OkMs := by
  have b1 := fun st => rBytes_len st 220
  have b2 := fun st => rBytes_len st 1000
  have hc := fun st => rCount_range st 7 (by omega)
  unfold rdFa
  split
  · exact ⟨⟨h.k, h.x, h.s, h.t, h.fl, h.ve, h.so, rInt_range _, rInt_range _, h.fr, h.path, h.data, h.ms⟩, hm⟩
  split
  · exact ⟨⟨h.k, h.x, h.s, h.t, rInt_range _, h.ve, h.so, h.la, h.ti, h.fr, Nat.le_trans (b1 _) (by decide), Nat.le_trans (b2 _) (by decide), h.ms⟩, hm⟩
  split
  · exact ⟨⟨h.k, h.x, h.s, h.t, h.fl, rInt_range _, h.so, h.la, h.ti, h.fr, Nat.le_trans (b1 _) (by decide), h.data, h.ms⟩, hm⟩
  split
  · exact ⟨⟨h.k, h.x, h.s, h.t, h.fl, rInt_range _, h.so, h.la, h.ti, h.fr, Nat.le_trans (b1 _) (by decide), Nat.le_trans (b2 _) (by decide), h.ms⟩, hm⟩
  split
  · exact ⟨⟨h.k, h.x, h.s, h.t, h.fl, h.ve, h.so, h.la, h.ti, h.fr, Nat.le_trans (b1 _) (by decide), h.data, h.ms⟩, hm⟩
  split
  · refine ⟨⟨h.k, h.x, h.s, h.t, h.fl, h.ve, h.so, h.la, h.ti, rInt_range _, h.path, h.data, ?_⟩, rdMas_ok _ _⟩
    simp only [rdMas_len]
    have := hc (rInt st).2
    omega
  split
  · exact ⟨⟨h.k, h.x, h.s, h.t, h.fl, h.ve, u8_range _, rInt_range _, h.ti, h.fr, Nat.le_trans (b1 _) (by decide), h.data, h.ms⟩, hm⟩
  · exact ⟨h, hm⟩
theorem bareA_ok {k : Int} (h : 0 ≤ k ∧ k ≤ 255) : (bareA k).Ok ∧ (bareA k).OkMs := by
  refine ⟨⟨h, ?_, ?_, ?_, ?_, ?_, ?_, ?_, ?_, ?_, ?_, ?_, ?_⟩, fun m hm => absurd hm (by simp [bareA])⟩ <;> simp [bareA]
theorem rdPa_ok (st : RSt) : (rdPa st).1.1.Ok ∧ (rdPa st).1.1.OkMs := rdFa_ok (bareA_ok (u8_range _)).1 (bareA_ok (u8_range _)).2 _
theorem rdPas_ok (n : Nat) (st : RSt) : ∀ q ∈ (rdPas n st).1.1, (q.1.Ok ∧ q.1.OkMs) ∧ q.2 = 0 := by
  induction n with
  | zero => intro q hq; simp [rdPas] at hq
  | succ n ih =>
    intro q hq
    simp only [rdPas, List.mem_append, List.mem_singleton] at hq
    rcases hq with hq | rfl
    · exact ih q hq
    · exact ⟨rdPa_ok _, rfl⟩
theorem rdPas_len (n : Nat) (st : RSt) : (rdPas n st).1.1.length = n := by
  induction n with
  | zero => rfl
  | succ n ih => simp [rdPas, ih]
theorem rdHa_ok (b : List UInt8) : (rdHa b).1.Ok ∧ (rdHa b).1.OkMs := by
  refine ⟨⟨u8_range _, rInt_range _, rInt_range _, rInt_range _, ?_, ?_, ?_, ?_, ?_, ?_, ?_, ?_, ?_⟩, fun m hm => absurd hm (by simp [rdHa])⟩ <;> simp [rdHa]
theorem rdTa_ok {f : Fa} (h : f.Ok) (hm : f.OkMs) (st : RSt) : ((rdTa f st).1.1.Ok ∧ (rdTa f st).1.1.OkMs) ∧ (∀ q ∈ (rdTa f st).1.2.1, (q.1.Ok ∧ q.1.OkMs) ∧ q.2 = 0) ∧ (rdTa f st).1.2.1.length ≤ 16 := by
  unfold rdTa
  split
  · refine ⟨⟨h, hm⟩, rdPas_ok _ _, ?_⟩
    simp only [rdPas_len]
    have := rCount_range st 16 (by omega)
    omega
  · exact ⟨rdFa_ok h hm _, fun q hq => absurd hq (by simp), by simp⟩
theorem getA_back {b : List UInt8} {f : Fa} {l : List (Fa × Nat)} (h : getA b = some (f, l)) : askB f l = b ∧ RightA f l ∧ (f.Ok ∧ f.OkMs) ∧ ∀ q ∈ l, (q.1.Ok ∧ q.1.OkMs) ∧ q.2 = 0 := by
  unfold getA at h
  split at h
  · rename_i hc
    obtain ⟨h1, h2, h3⟩ := hc
    obtain ⟨⟨f1, l1, o⟩, st, hr⟩ : ∃ x t, rdAsk b = (x, t) := ⟨_, _, rfl⟩
    have hok := rdTa_ok (rdHa_ok b).1 (rdHa_ok b).2 (rdHa b).2
    rw [show rdTa (rdHa b).1 (rdHa b).2 = rdAsk b from rfl, hr] at hok
    rw [hr] at h h1 h2 h3
    simp only [Option.some.injEq, Prod.mk.injEq] at h h1
    obtain ⟨rfl, rfl⟩ := h
    subst h1
    have hst : st = some [] := by simpa [rWhole] using h2
    subst hst
    have := rdAsk_back hr
    rw [List.append_nil] at this
    exact ⟨this, h3, hok.1, hok.2.1⟩
  · cases h
theorem getA_cut {f : Fa} {l : List (Fa × Nat)} (h : RightA f l) (hf : f.Ok) (hm : f.OkMs) (hok : ∀ q ∈ l, q.1.Ok ∧ q.1.OkMs) {q : Nat} (hq : q < (askB f l).length) : getA ((askB f l).take q) = none := by
  cases hg : getA ((askB f l).take q) with
  | none => rfl
  | some y =>
    obtain ⟨f', l'⟩ := y
    obtain ⟨hb, hr, hf', hl'⟩ := getA_back hg
    have h1 := rdAsk_front h hf hm hok []
    have h2 := rdAsk_front hr hf'.1 hf'.2 (fun q hq => (hl' q hq).1) ((askB f l).drop q)
    rw [hb, List.take_append_drop] at h2
    rw [List.append_nil] at h1
    rw [h1] at h2
    simp only [Prod.mk.injEq, Option.some.injEq] at h2
    have := congrArg List.length h2.2
    rw [List.length_drop] at this
    simp at this
    omega
theorem getA_more {f : Fa} {l : List (Fa × Nat)} (h : RightA f l) (hf : f.Ok) (hm : f.OkMs) (hok : ∀ q ∈ l, q.1.Ok ∧ q.1.OkMs) {r : List UInt8} (hr : r ≠ []) : getA (askB f l ++ r) = none := by
  unfold getA
  rw [rdAsk_front h hf hm hok r, if_neg]
  rintro ⟨-, h2, -⟩
  exact hr (by simpa [rWhole] using h2)

/- The document's reading. -/
def rdFaR (f : Fa) (st : RSt) : (Fa × Bool) × RSt := if 1 ≤ f.k ∧ f.k ≤ 14 then rdFa f st else ((f, false), st)
def rdPaR (st : RSt) : (Fa × Bool) × RSt := rdFaR (bareA (rByte st).1.toNat) (rByte st).2
def rdPasR : Nat → RSt → (List (Fa × Nat) × Bool) × RSt
  | 0, st => (([], true), st)
  | n + 1, st => if (rdPasR n st).1.2 = true then (((rdPasR n st).1.1 ++ [((rdPaR (rdPasR n st).2).1.1, 0)], (rdPaR (rdPasR n st).2).1.2), (rdPaR (rdPasR n st).2).2) else rdPasR n st
def rdTaR (f : Fa) (st : RSt) : (Fa × List (Fa × Nat) × Bool) × RSt :=
  if f.k = 11 then let n := rCount st 16; let p := rdPasR n.1.toNat n.2; ((f, p.1.1, p.1.2), p.2)
  else let g := rdFaR f st; ((g.1.1, [], g.1.2), g.2)
def rdAskR (b : List UInt8) : (Fa × List (Fa × Nat) × Bool) × RSt := rdTaR (rdHa b).1 (rdHa b).2
def getAR (b : List UInt8) : Option (Fa × List (Fa × Nat)) :=
  if (rdAskR b).1.2.2 = true ∧ rWhole (rdAskR b).2 = true ∧ RightA (rdAskR b).1.1 (rdAskR b).1.2.1 then some ((rdAskR b).1.1, (rdAskR b).1.2.1) else none
theorem rdPasR_same (n : Nat) (st : RSt) : ((rdPasR n st).1.2 = true ∧ rdPasR n st = rdPas n st) ∨ ((rdPasR n st).1.2 = false ∧ ((rdPas n st).1.2 = false ∨ ∃ q ∈ (rdPas n st).1.1, ¬ (1 ≤ q.1.k ∧ q.1.k ≤ 14))) := by
  induction n with
  | zero => exact .inl ⟨rfl, rfl⟩
  | succ n ih =>
    rcases ih with ⟨h1, h2⟩ | ⟨h1, h2⟩
    · have hs : rdPasR (n + 1) st = (((rdPas n st).1.1 ++ [((rdPaR (rdPas n st).2).1.1, 0)], (rdPaR (rdPas n st).2).1.2), (rdPaR (rdPas n st).2).2) := by
        rw [rdPasR, if_pos h1, h2]
      rw [h2] at h1
      rw [hs]
      obtain ⟨c, t, g⟩ : ∃ c t, rByte (rdPas n st).2 = (c, t) := ⟨_, _, rfl⟩
      by_cases hk : 1 ≤ (c.toNat : Int) ∧ (c.toNat : Int) ≤ 14
      · have e : rdPaR (rdPas n st).2 = rdPa (rdPas n st).2 := by
          unfold rdPaR rdPa rdFaR
          rw [g]
          exact if_pos hk
        have e2 : rdPas (n + 1) st = (((rdPas n st).1.1 ++ [((rdPa (rdPas n st).2).1.1, 0)], (rdPa (rdPas n st).2).1.2 && (rdPas n st).1.2), (rdPa (rdPas n st).2).2) := rfl
        rw [e, e2, h1, Bool.and_true]
        cases (rdPa (rdPas n st).2).1.2
        · exact .inr ⟨rfl, .inl rfl⟩
        · exact .inl ⟨rfl, rfl⟩
      · have e : (rdPaR (rdPas n st).2).1.2 = false := by
          unfold rdPaR rdFaR
          rw [g]
          simp only
          rw [if_neg (show ¬ (1 ≤ (bareA (c.toNat : Int)).k ∧ (bareA (c.toNat : Int)).k ≤ 14) from hk)]
        refine .inr ⟨e, .inr ⟨((rdPa (rdPas n st).2).1.1, 0), by rw [rdPas]; simp, ?_⟩⟩
        have hkk := (rdFa_k (bareA (rByte (rdPas n st).2).1.toNat) (rByte (rdPas n st).2).2).1
        unfold rdPa
        simp only
        rw [hkk, g]
        exact hk
    · refine .inr ⟨by rw [rdPasR, if_neg (by rw [h1]; simp)]; exact h1, ?_⟩
      rcases h2 with h2 | ⟨q, hq, hk⟩
      · exact .inl (by rw [rdPas]; simp [h2])
      · exact .inr ⟨q, by rw [rdPas]; simp [hq], hk⟩
/-- The document reads what the program reads. -/
theorem getAR_eq (b : List UInt8) : getAR b = getA b := by
  unfold getAR getA rdAskR rdAsk
  generalize (rdHa b).1 = f
  generalize (rdHa b).2 = st
  unfold rdTaR rdTa
  by_cases h11 : f.k = 11
  · rw [if_pos h11, if_pos h11]
    simp only
    rcases rdPasR_same (rCount st 16).1.toNat (rCount st 16).2 with ⟨h1, h2⟩ | ⟨h1, h2⟩
    · rw [h2]
    · rw [if_neg (by rw [h1]; simp), if_neg]
      rintro ⟨e1, -, e3⟩
      rcases h2 with h2 | ⟨q, hq, hk⟩
      · rw [h2] at e1; cases e1
      · exact hk (e3.2.2.2.2.2.2.1 q hq).1.1
  · rw [if_neg h11, if_neg h11]
    simp only
    unfold rdFaR
    by_cases hk : 1 ≤ f.k ∧ f.k ≤ 14
    · rw [if_pos hk]
    · rw [if_neg hk, if_neg (by simp), if_neg]
      rintro ⟨-, -, e3⟩
      have := (rdFa_k f st).1
      exact hk (by rw [← this]; exact e3.1.1)
end Go.Proofs.YtlckgkpgllhpbaaDoor

/- Akd -/
namespace Go.Proofs.YtlckgkpgllhpbaaDoor
open Go.RowKit

theorem bodyY_len {f : Fy} (hf : f.Ok) {np : Nat} (h : AnsY f np) : (bodyY f).length ≤ 120000 := by
  obtain ⟨-, -, -, h4, h5, -, h7, h8, h9, -⟩ := h
  have a1 := intsB_len f.hd
  have a2 := textB_len f.path
  have a3 := textB_len f.data
  have a4 := intsB_len f.st
  have a5 := intB_len f.ls.length
  have a6 := textsB_len h8
  have a7 := textB_len (confB f)
  have a8 : (confB f).length ≤ 400 := by
    unfold confB
    split
    · simp
    · rename_i hz
      have hl := putE_len f.c.1 f.c.2
      rw [putE, if_pos (h9.resolve_left hz)] at hl
      exact hl
  have := hf.hl
  have := hf.sl
  have h6 : (220 + 10) * f.ls.length ≤ 115000 := by omega
  unfold bodyY
  simp only [List.length_append, List.length_cons]
  omega
theorem bodyY_part {f : Fy} (hf : f.Ok) {np : Nat} (h : AnsY f np) (hl : f.ls = []) : (bodyY f).length ≤ 2500 := by
  obtain ⟨-, -, -, h4, h5, -, h7, h8, h9, -⟩ := h
  have a1 := intsB_len f.hd
  have a2 := textB_len f.path
  have a3 := textB_len f.data
  have a4 := intsB_len f.st
  have a5 := intB_len f.ls.length
  have a7 := textB_len (confB f)
  have a8 : (confB f).length ≤ 400 := by
    unfold confB
    split
    · simp
    · rename_i hz
      have hl := putE_len f.c.1 f.c.2
      rw [putE, if_pos (h9.resolve_left hz)] at hl
      exact hl
  have := hf.hl
  have := hf.sl
  unfold bodyY
  rw [hl] at a5 ⊢
  simp only [List.length_append, List.length_cons, textsB, List.length_nil]
  simp only [List.length_nil] at a5
  omega
theorem partsY_len {l : List (Fy × Nat)} (h : ∀ q ∈ l, PartY q) (hok : ∀ q ∈ l, q.1.Ok) : (partsY l).length ≤ 2510 * l.length := by
  induction l with
  | nil => simp [partsY]
  | cons m l ih =>
    have h1 := bodyY_part (hok m List.mem_cons_self) (h m List.mem_cons_self).1 (h m List.mem_cons_self).2.2
    have h2 := ih (fun q hq => h q (List.mem_cons_of_mem _ hq)) (fun q hq => hok q (List.mem_cons_of_mem _ hq))
    have h3 := intB_len 0
    simp only [partsY, List.length_append, List.length_cons]
    omega
theorem replyB_len {f : Fy} {l : List (Fy × Nat)} (h : RightY f l) (hf : f.Ok) (hok : ∀ q ∈ l, q.1.Ok) : (replyB f l).length ≤ 170000 := by
  have h1 := bodyY_len hf h.1
  have h2 := partsY_len h.2 hok
  have h3 := intB_len l.length
  have h4 := h.1.2.2.2.2.2.2.2.2.2
  unfold replyB
  simp only [List.length_append]
  omega
theorem getV_ok (b : List UInt8) : OkI (getV b).1 ∧ (getV b).2.1.length ≤ 7 := by
  refine ⟨?_, getV_len b⟩
  unfold getV
  cases hg : getE b with
  | none => simp [OkI]
  | some y =>
    obtain ⟨v, ms⟩ := y
    have := (chk_len (get_back hg).2).2
    exact ⟨by simp only; omega, by simp only; omega⟩
theorem rdCf_ok (b : List UInt8) : OkI (rdCf b).1.1 ∧ (rdCf b).1.2.length ≤ 7 := by
  unfold rdCf
  split
  · simp [OkI]
  · exact getV_ok b
theorem rdY0_ok (st : RSt) : (rdY0 st).1.1.Ok ∧ (rdY0 st).1.1.ls.length ≤ 500 := by
  have b1 := fun st => rBytes_len st 220
  have b2 := fun st => rBytes_len st 1000
  have hc := fun st => rCount_range st 500 (by omega)
  have hls : (rdY0 st).1.1.ls.length ≤ 500 := by
    simp only [rdY0, rdTs_len]
    have := hc (rdIs 10 (rBytes (rBytes (rdIs 5 (rByte st).2).2 220).2 1000).2).2
    omega
  exact ⟨⟨u8_range _, rdIs_ok _ _, rdIs_len _ _, rdIs_ok _ _, rdIs_len _ _, (rdCf_ok _).1, Nat.le_trans (b1 _) (by decide), Nat.le_trans (b2 _) (by decide), Nat.le_trans (rdCf_ok _).2 (by decide), Nat.le_trans hls (by decide)⟩, hls⟩
theorem rdYp_ok (st : RSt) : (rdYp st).1.1.Ok ∧ (rdYp st).1.1.ls.length ≤ 500 := rdY0_ok st
theorem rdYs_ok (n : Nat) (st : RSt) : ∀ q ∈ (rdYs n st).1.1, q.1.Ok ∧ q.2 = 0 := by
  induction n with
  | zero => intro q hq; simp [rdYs] at hq
  | succ n ih =>
    intro q hq
    simp only [rdYs, List.mem_append, List.mem_singleton] at hq
    rcases hq with hq | rfl
    · exact ih q hq
    · exact ⟨(rdYp_ok _).1, rfl⟩
theorem rdRep_ok (b : List UInt8) : (rdRep b).1.1.Ok ∧ (∀ q ∈ (rdRep b).1.2.1, q.1.Ok ∧ q.2 = 0) ∧ (rdRep b).1.2.1.length ≤ 16 := by
  refine ⟨(rdY0_ok _).1, rdYs_ok _ _, ?_⟩
  simp only [rdRep, rdYs_len]
  have := rCount_range (rdY0 (some b)).2 16 (by omega)
  omega
theorem getY_back {b : List UInt8} {f : Fy} {l : List (Fy × Nat)} (h : getY b = some (f, l)) : replyB f l = b ∧ RightY f l ∧ f.Ok ∧ ∀ q ∈ l, q.1.Ok ∧ q.2 = 0 := by
  unfold getY at h
  split at h
  · rename_i hc
    obtain ⟨h1, h2, h3⟩ := hc
    have hok := rdRep_ok b
    obtain ⟨⟨f1, l1, o⟩, st, hr⟩ : ∃ x t, rdRep b = (x, t) := ⟨_, _, rfl⟩
    rw [hr] at h h1 h2 h3 hok
    simp only [Option.some.injEq, Prod.mk.injEq] at h h1
    obtain ⟨rfl, rfl⟩ := h
    subst h1
    have hst : st = some [] := by simpa [rWhole] using h2
    subst hst
    have := rdRep_back hr
    rw [List.append_nil] at this
    exact ⟨this, h3, hok.1, hok.2.1⟩
  · cases h
theorem getY_cut {f : Fy} {l : List (Fy × Nat)} (h : RightY f l) (hf : f.Ok) (hok : ∀ q ∈ l, q.1.Ok) {q : Nat} (hq : q < (replyB f l).length) : getY ((replyB f l).take q) = none := by
  cases hg : getY ((replyB f l).take q) with
  | none => rfl
  | some y =>
    obtain ⟨f', l'⟩ := y
    obtain ⟨hb, hr, hf', hl'⟩ := getY_back hg
    have h1 := rdRep_front h hf hok []
    have h2 := rdRep_front hr hf' (fun q hq => (hl' q hq).1) ((replyB f l).drop q)
    rw [hb, List.take_append_drop] at h2
    rw [List.append_nil] at h1
    rw [h1] at h2
    simp only [Prod.mk.injEq, Option.some.injEq] at h2
    have := congrArg List.length h2.2
    rw [List.length_drop] at this
    simp at this
    omega
theorem getY_more {f : Fy} {l : List (Fy × Nat)} (h : RightY f l) (hf : f.Ok) (hok : ∀ q ∈ l, q.1.Ok) {r : List UInt8} (hr : r ≠ []) : getY (replyB f l ++ r) = none := by
  unfold getY
  rw [rdRep_front h hf hok r, if_neg]
  rintro ⟨-, h2, -⟩
  exact hr (by simpa [rWhole] using h2)

/-- An event: Kind, Sort, Path, Zxid. -/
structure Fe where
  k : Int
  so : Int
  path : List UInt8
  z : Int
structure Fe.Ok (f : Fe) : Prop where
  k : 0 ≤ f.k ∧ f.k ≤ 255
  so : 0 ≤ f.so ∧ f.so ≤ 255
  z : -9223372036854775808 ≤ f.z ∧ f.z ≤ 9223372036854775807
  path : f.path.length ≤ 140737488355328
def RightE (f : Fe) : Prop := (1 ≤ f.k ∧ f.k ≤ 4) ∧ (1 ≤ f.so ∧ f.so ≤ 3) ∧ f.path.length ≤ 220 ∧ 0 ≤ f.z
instance (f : Fe) : Decidable (RightE f) := by unfold RightE; infer_instance
def evB (f : Fe) : List UInt8 := kindB f.k :: (kindB f.so :: (textB f.path ++ intB f.z))
def rdEv (b : List UInt8) : Fe × RSt :=
  let k := rByte (some b); let s := rByte k.2; let p := rBytes s.2 220; let z := rInt p.2
  (⟨k.1.toNat, s.1.toNat, p.1, z.1⟩, z.2)
def getEv (b : List UInt8) : Option Fe := if rWhole (rdEv b).2 = true ∧ RightE (rdEv b).1 then some (rdEv b).1 else none
theorem rdEv_front {f : Fe} (h : RightE f) (hf : f.Ok) (r : List UInt8) : rdEv (evB f ++ r) = (f, some r) := by
  obtain ⟨h1, h2, h3, h4⟩ := h
  have b1 : ∀ r, rBytes (some (textB f.path ++ r)) 220 = (f.path, some r) := fun r => rBytes_fit _ r 220 (by omega) (by omega)
  have i1 := rInt_front hf.z.1 hf.z.2
  have k1 := kindB_nat hf.k.1 hf.k.2
  have k2 := kindB_nat hf.so.1 hf.so.2
  simp only [rdEv, evB, List.cons_append, List.append_assoc, rByte_front, b1, i1, k1, k2]
theorem rdEv_back {b : List UInt8} {f : Fe} {r : List UInt8} (h : rdEv b = (f, some r)) : evB f ++ r = b := by
  obtain ⟨x0, t0, g0⟩ : ∃ x t, rByte (some b) = (x, t) := ⟨_, _, rfl⟩
  obtain ⟨x1, t1, g1⟩ : ∃ x t, rByte t0 = (x, t) := ⟨_, _, rfl⟩
  obtain ⟨x2, t2, g2⟩ : ∃ x t, rBytes t1 220 = (x, t) := ⟨_, _, rfl⟩
  obtain ⟨x3, t3, g3⟩ : ∃ x t, rInt t2 = (x, t) := ⟨_, _, rfl⟩
  simp only [rdEv, g0, g1, g2, g3, Prod.mk.injEq] at h
  obtain ⟨rfl, rfl⟩ := h
  obtain ⟨b2, rfl, e3⟩ := rInt_st g3
  obtain ⟨b1, rfl, e2, -⟩ := rBytes_back g2
  have e1 := rByte_back g1
  subst e1
  have e0 := rByte_back g0
  simp only [Option.some.injEq] at e0
  rw [e0, ← e2, ← e3]
  simp [evB, kindB_back]
theorem rdEv_ok (b : List UInt8) : (rdEv b).1.Ok := ⟨u8_range _, u8_range _, rInt_range _, Nat.le_trans (rBytes_len _ 220) (by decide)⟩
theorem getEv_front {f : Fe} (h : RightE f) (hf : f.Ok) : getEv (evB f) = some f := by
  have := rdEv_front h hf []
  rw [List.append_nil] at this
  unfold getEv
  rw [this, if_pos ⟨rfl, h⟩]
theorem getEv_back {b : List UInt8} {f : Fe} (h : getEv b = some f) : evB f = b ∧ RightE f ∧ f.Ok := by
  unfold getEv at h
  split at h
  · rename_i hc
    obtain ⟨h2, h3⟩ := hc
    have hok := rdEv_ok b
    obtain ⟨f1, st, hr⟩ : ∃ x t, rdEv b = (x, t) := ⟨_, _, rfl⟩
    rw [hr] at h h2 h3 hok
    simp only [Option.some.injEq] at h
    subst h
    have hst : st = some [] := by simpa [rWhole] using h2
    subst hst
    have := rdEv_back hr
    rw [List.append_nil] at this
    exact ⟨this, h3, hok⟩
  · cases h
theorem getEv_cut {f : Fe} (h : RightE f) (hf : f.Ok) {q : Nat} (hq : q < (evB f).length) : getEv ((evB f).take q) = none := by
  cases hg : getEv ((evB f).take q) with
  | none => rfl
  | some f' =>
    obtain ⟨hb, hr, hf'⟩ := getEv_back hg
    have h1 := rdEv_front h hf []
    have h2 := rdEv_front hr hf' ((evB f).drop q)
    rw [hb, List.take_append_drop] at h2
    rw [List.append_nil] at h1
    rw [h1] at h2
    simp only [Prod.mk.injEq, Option.some.injEq] at h2
    have := congrArg List.length h2.2
    rw [List.length_drop] at this
    simp at this
    omega
theorem getEv_more {f : Fe} (h : RightE f) (hf : f.Ok) {r : List UInt8} (hr : r ≠ []) : getEv (evB f ++ r) = none := by
  unfold getEv
  rw [rdEv_front h hf r, if_neg]
  rintro ⟨h2, -⟩
  exact hr (by simpa [rWhole] using h2)
theorem evB_len {f : Fe} (h : RightE f) : (evB f).length ≤ 242 := by
  have a1 := textB_len f.path
  have a2 := intB_len f.z
  have := h.2.2.1
  simp only [evB, List.length_append, List.length_cons]
  omega
end Go.Proofs.YtlckgkpgllhpbaaDoor

/- Akm -/
namespace Go.Proofs.YtlckgkpgllhpbaaDoor
open Go.RowKit

/-- Where a call's lists lie. -/
structure Pl where
  A : Option Addr
  c : Nat
  B : Option Addr
  d : Nat
  P : Option Addr
  e : Nat
def pl0 : Pl := ⟨none, 0, none, 0, none, 0⟩
/-- A call of np parts as cells, as a value. -/
def acells (f : Fa) (p : Pl) (np : Nat) : Array Value := #[.int .u8 f.k, .int .i64 f.x, .int .i64 f.s, .int .i64 f.t, .string ⟨f.path.toArray⟩, .slice p.A f.data.length p.c, .int .i64 f.fl, .int .i64 f.ve, .bool f.wa, .int .u8 f.so, .int .i64 f.la, .int .i64 f.ti, .int .i64 f.fr, .slice p.B f.ms.length p.d, .slice p.P np p.e]
def aval (f : Fa) (p : Pl) (np : Nat) : Value := .agg (acells f p np)
theorem abox_cells {w : World} {b : Nat} {t : TypeId} (f : Fa) (p : Pl) (np : Nat) (h : w.heap[b]? = some (.cells (acells f p np) t (0, 0))) :
    w.cell? ⟨b, 0, none⟩ = some (.int .u8 f.k) ∧ w.cell? ⟨b, 1, none⟩ = some (.int .i64 f.x) ∧ w.cell? ⟨b, 2, none⟩ = some (.int .i64 f.s) ∧ w.cell? ⟨b, 3, none⟩ = some (.int .i64 f.t) ∧ w.cell? ⟨b, 4, none⟩ = some (.string ⟨f.path.toArray⟩) ∧ w.cell? ⟨b, 5, none⟩ = some (.slice p.A f.data.length p.c) ∧ w.cell? ⟨b, 6, none⟩ = some (.int .i64 f.fl) ∧ w.cell? ⟨b, 7, none⟩ = some (.int .i64 f.ve) ∧
    w.cell? ⟨b, 8, none⟩ = some (.bool f.wa) ∧ w.cell? ⟨b, 9, none⟩ = some (.int .u8 f.so) ∧ w.cell? ⟨b, 10, none⟩ = some (.int .i64 f.la) ∧ w.cell? ⟨b, 11, none⟩ = some (.int .i64 f.ti) ∧ w.cell? ⟨b, 12, none⟩ = some (.int .i64 f.fr) ∧ w.cell? ⟨b, 13, none⟩ = some (.slice p.B f.ms.length p.d) ∧ w.cell? ⟨b, 14, none⟩ = some (.slice p.P np p.e) :=
  ⟨(cells_of h 0).1, (cells_of h 1).1, (cells_of h 2).1, (cells_of h 3).1, (cells_of h 4).1, (cells_of h 5).1, (cells_of h 6).1, (cells_of h 7).1, (cells_of h 8).1, (cells_of h 9).1, (cells_of h 10).1, (cells_of h 11).1, (cells_of h 12).1, (cells_of h 13).1, (cells_of h 14).1⟩
/-- Parts in memory: the cells of each, and what its lists read as. -/
def RdPa (w : World) (lo hi : Nat) (A : Option Addr) (l : List (Fa × Nat)) : Prop :=
  0 < l.length → ∃ b o, A = some ⟨b, o, none⟩ ∧ lo ≤ b ∧ b < hi ∧ ∀ i q, l[i]? = some q → ∃ pl : Pl, (∀ j v, (acells q.1 pl q.2)[j]? = some v → w.cell? ⟨b, o + i * 15 + j, none⟩ = some v) ∧ Rd w lo hi pl.A q.1.data ∧ RdM w lo hi pl.B q.1.ms
theorem RdPa.nil (w : World) (lo hi : Nat) (A : Option Addr) : RdPa w lo hi A [] := fun h => absurd h (by simp)
theorem RdPa.fr {M : Nat → Prop} {w w' : World} {lo hi : Nat} {A : Option Addr} {l : List (Fa × Nat)} (h : RdPa w lo hi A l) (hf : Fr M w w') (hh : hi ≤ w.heap.size) (hm : ∀ k, lo ≤ k → k < hi → ¬ M k) : RdPa w' lo hi A l := fun hl => by
  obtain ⟨b, o, h1, h2, h3, h4⟩ := h hl
  refine ⟨b, o, h1, h2, h3, fun i q hq => ?_⟩
  obtain ⟨pl, k1, k2, k3⟩ := h4 i q hq
  exact ⟨pl, fun j v hv => (hf.cell (p := ⟨b, o + i * 15 + j, none⟩) (Nat.lt_of_lt_of_le h3 hh) (hm _ h2 h3)).trans (k1 j v hv), k2.fr hf hh hm, k3.fr hf hh hm⟩
/-- A call's lists in memory. -/
structure RdA (w : World) (lo hi : Nat) (f : Fa) (p : Pl) (l : List (Fa × Nat)) : Prop where
  data : Rd w lo hi p.A f.data
  ms : RdM w lo hi p.B f.ms
  parts : RdPa w lo hi p.P l
theorem RdA.fr {M : Nat → Prop} {w w' : World} {lo hi : Nat} {f : Fa} {p : Pl} {l : List (Fa × Nat)} (h : RdA w lo hi f p l) (hf : Fr M w w') (hh : hi ≤ w.heap.size) (hm : ∀ k, lo ≤ k → k < hi → ¬ M k) : RdA w' lo hi f p l := ⟨h.data.fr hf hh hm, h.ms.fr hf hh hm, h.parts.fr hf hh hm⟩
theorem apart_range {w : World} {b a np : Nat} {f : Fa} {p : Pl} (h : ∀ j v, (acells f p np)[j]? = some v → w.cell? ⟨b, a + j, none⟩ = some v) : w.rangeAt b a (acells f p np).toList :=
  fun j v hv => h j v (by simpa using hv)
theorem acells_size (f : Fa) (p : Pl) (np : Nat) : (acells f p np).size = 15 := rfl
theorem acells_one (f : Fa) (p : Pl) (np : Nat) : (acells f p np).all (·.oneCell') = true := by simp [acells, Value.oneCell']

/-- Texts in memory. -/
def RdT (w : World) (lo hi : Nat) (A : Option Addr) (l : List (List UInt8)) : Prop :=
  0 < l.length → ∃ b o, A = some ⟨b, o, none⟩ ∧ lo ≤ b ∧ b < hi ∧ ∀ i t, l[i]? = some t → w.cell? ⟨b, o + i, none⟩ = some (.string ⟨t.toArray⟩)
theorem RdT.nil (w : World) (lo hi : Nat) (A : Option Addr) : RdT w lo hi A [] := fun h => absurd h (by simp)
theorem RdT.fr {M : Nat → Prop} {w w' : World} {lo hi : Nat} {A : Option Addr} {l : List (List UInt8)} (h : RdT w lo hi A l) (hf : Fr M w w') (hh : hi ≤ w.heap.size) (hm : ∀ k, lo ≤ k → k < hi → ¬ M k) : RdT w' lo hi A l := fun hl => by
  obtain ⟨b, o, h1, h2, h3, h4⟩ := h hl
  exact ⟨b, o, h1, h2, h3, fun i t ht => (hf.cell (p := ⟨b, o + i, none⟩) (Nat.lt_of_lt_of_le h3 hh) (hm _ h2 h3)).trans (h4 i t ht)⟩
/-- Where a reply's lists lie. -/
structure Py where
  A : Option Addr
  c : Nat
  L : Option Addr
  n : Nat
  B : Option Addr
  d : Nat
  P : Option Addr
  e : Nat
def py0 : Py := ⟨none, 0, none, 0, none, 0, none, 0⟩
def ycells (f : Fy) (p : Py) (np : Nat) : Array Value := #[.int .u8 f.k, .int .i64 (f.hd.getD 0 0), .int .i64 (f.hd.getD 1 0), .int .i64 (f.hd.getD 2 0), .int .i64 (f.hd.getD 3 0), .int .i64 (f.hd.getD 4 0), .string ⟨f.path.toArray⟩, .slice p.A f.data.length p.c,
  .int .i64 (f.st.getD 0 0), .int .i64 (f.st.getD 1 0), .int .i64 (f.st.getD 2 0), .int .i64 (f.st.getD 3 0), .int .i64 (f.st.getD 4 0), .int .i64 (f.st.getD 5 0), .int .i64 (f.st.getD 6 0), .int .i64 (f.st.getD 7 0), .int .i64 (f.st.getD 8 0), .int .i64 (f.st.getD 9 0), .slice p.L f.ls.length p.n, .int .i64 f.c.1, .slice p.B f.c.2.length p.d, .slice p.P np p.e]
def yval (f : Fy) (p : Py) (np : Nat) : Value := .agg (ycells f p np)
theorem ycells_size (f : Fy) (p : Py) (np : Nat) : (ycells f p np).size = 22 := rfl
theorem ycells_one (f : Fy) (p : Py) (np : Nat) : (ycells f p np).all (·.oneCell') = true := by simp [ycells, Value.oneCell']
def RdPy (w : World) (lo hi : Nat) (A : Option Addr) (l : List (Fy × Nat)) : Prop :=
  0 < l.length → ∃ b o, A = some ⟨b, o, none⟩ ∧ lo ≤ b ∧ b < hi ∧ ∀ i q, l[i]? = some q → ∃ pl : Py, (∀ j v, (ycells q.1 pl q.2)[j]? = some v → w.cell? ⟨b, o + i * 22 + j, none⟩ = some v) ∧ Rd w lo hi pl.A q.1.data ∧ RdT w lo hi pl.L q.1.ls ∧ RdM w lo hi pl.B q.1.c.2
theorem RdPy.nil (w : World) (lo hi : Nat) (A : Option Addr) : RdPy w lo hi A [] := fun h => absurd h (by simp)
theorem RdPy.fr {M : Nat → Prop} {w w' : World} {lo hi : Nat} {A : Option Addr} {l : List (Fy × Nat)} (h : RdPy w lo hi A l) (hf : Fr M w w') (hh : hi ≤ w.heap.size) (hm : ∀ k, lo ≤ k → k < hi → ¬ M k) : RdPy w' lo hi A l := fun hl => by
  obtain ⟨b, o, h1, h2, h3, h4⟩ := h hl
  refine ⟨b, o, h1, h2, h3, fun i q hq => ?_⟩
  obtain ⟨pl, k1, k2, k3, k4⟩ := h4 i q hq
  exact ⟨pl, fun j v hv => (hf.cell (p := ⟨b, o + i * 22 + j, none⟩) (Nat.lt_of_lt_of_le h3 hh) (hm _ h2 h3)).trans (k1 j v hv), k2.fr hf hh hm, k3.fr hf hh hm, k4.fr hf hh hm⟩
/-- A reply's lists in memory. -/
structure RdY (w : World) (lo hi : Nat) (f : Fy) (p : Py) (l : List (Fy × Nat)) : Prop where
  data : Rd w lo hi p.A f.data
  ls : RdT w lo hi p.L f.ls
  ms : RdM w lo hi p.B f.c.2
  parts : RdPy w lo hi p.P l
theorem RdY.fr {M : Nat → Prop} {w w' : World} {lo hi : Nat} {f : Fy} {p : Py} {l : List (Fy × Nat)} (h : RdY w lo hi f p l) (hf : Fr M w w') (hh : hi ≤ w.heap.size) (hm : ∀ k, lo ≤ k → k < hi → ¬ M k) : RdY w' lo hi f p l := ⟨h.data.fr hf hh hm, h.ls.fr hf hh hm, h.ms.fr hf hh hm, h.parts.fr hf hh hm⟩
/-- An event as a value. -/
def ecells (f : Fe) : Array Value := #[.int .u8 f.k, .int .u8 f.so, .string ⟨f.path.toArray⟩, .int .i64 f.z]
end Go.Proofs.YtlckgkpgllhpbaaDoor

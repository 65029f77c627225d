/-
  Dop: Eop, Deeds, Dop.
-/
import Derived.Test.YtmlmbahimklfiaaGreatDoorRows
import Derived.Test.YtmlmbahimklfiaaGreatDoorOpen
import Derived.Test.YtmlmbahimklfiaaGreatDoorEnp
import Derived.Deep.Slices
import Derived.Deep.Strs
import Derived.Lib.SmallJoins
import Derived.Test.YtmlmbahimklfiaaGreatDoorDee
import Derived.ChangeArms
/- Eop -/
namespace Go.Proofs.YtmlmbahimklfiaaGreatDoor
open Go.ChangeShapes Go.WideShapes Go.ChangeAt Go.RowKit Go.Deep Go.Joins

theorem bulkE_mem {H : Type} {d : DataW H} {l : List (DataW H)} (h : d ∈ l) : Rows.uptoBulk d ≤ Rows.uptoBulkAll l := by
  induction l with
  | nil => cases h
  | cons x l ih =>
    rw [Rows.uptoBulkAll]
    rcases List.mem_cons.1 h with rfl | h
    · omega
    · have := ih h; omega
theorem bulkE_len {H : Type} (l : List (DataW H)) : l.length ≤ Rows.uptoBulkAll l := by
  induction l with
  | nil => simp
  | cons x l ih =>
    have : 1 ≤ Rows.uptoBulk x := by
      cases x with
      | lit z => cases z <;> simp [Rows.uptoBulk]
      | _ => simp [Rows.uptoBulk]
    rw [Rows.uptoBulkAll, List.length_cons]
    omega
theorem bulkE_slice {H : Type} (a b : List (DataW H)) : a.length + 1 ≤ Rows.uptoBulk (DataW.slice a b) := by
  have := bulkE_len a
  rw [Rows.uptoBulk]; omega
theorem bulkE_agg_mem {H : Type} {x : DataW H} {a : List (DataW H)} (h : x ∈ a) : Rows.uptoBulk x ≤ Rows.uptoBulk (DataW.agg a) := by
  have := bulkE_mem h
  rw [Rows.uptoBulk]; omega
theorem list_of_at {α : Type} (n : Nat) (P : Nat → α → Prop) (h : ∀ i, i < n → ∃ x, P i x) : ∃ l : List α, l.length = n ∧ ∀ i x, l[i]? = some x → P i x := by
  induction n with
  | zero => exact ⟨[], rfl, fun i x h => by simp at h⟩
  | succ n ih =>
    obtain ⟨l, hl, hp⟩ := ih fun i hi => h i (by omega)
    obtain ⟨x, hx⟩ := h n (by omega)
    refine ⟨l ++ [x], by simp [hl], fun i y hy => ?_⟩
    by_cases hi : i < l.length
    · rw [List.getElem?_append_left hi] at hy
      exact hp i y hy
    · rw [List.getElem?_append_right (by omega)] at hy
      have h1 : i - l.length = 0 := by
        have := (List.getElem?_eq_some_iff.1 hy).1
        simp at this; omega
      rw [h1] at hy
      simp at hy
      obtain rfl : i = n := by omega
      rw [← hy]; exact hx

/-- What the machine's kinds hold of a member. -/
def MemR (m : Mem) : Prop := (-9223372036854775808 ≤ m.1 ∧ m.1 ≤ 9223372036854775807) ∧ (0 ≤ m.2.1 ∧ m.2.1 ≤ 255) ∧ (-9223372036854775808 ≤ m.2.2.1 ∧ m.2.2.1 ≤ 9223372036854775807) ∧ (-9223372036854775808 ≤ m.2.2.2 ∧ m.2.2.2 ≤ 9223372036854775807)
theorem wf_i64 {z : Int} (h : (Lit.int .i64 z).wf = true) : -9223372036854775808 ≤ z ∧ z ≤ 9223372036854775807 := by
  have := bounds_i64 h
  omega
theorem wf_u8 {z : Int} (h : (Lit.int .u8 z).wf = true) : 0 ≤ z ∧ z ≤ 255 := by
  have := bounds_u8 h
  omega

theorem open_members {H : Type} {enc : TypeId × Value → H} {P : Program} {w : World} {base t e fuel : Nat} {spare : Nat → Bool} {held : Bool} {v : Value} {x : DataW H × List MemPlace} {g0 g1 g2 g3 : Field}
    (ht : P.underlying t = some (.slice e)) (he : P.underlying e = some (.struct #[g0, g1, g2, g3])) (hone : oneCellFields P #[g0, g1, g2, g3] = true) (hC : P.cellsOf e = 4)
    (k0 : P.underlying g0.type = some (.int .i64)) (k1 : P.underlying g1.type = some (.int .u8)) (k2 : P.underlying g2.type = some (.int .i64)) (k3 : P.underlying g3.type = some (.int .i64))
    (h : DataW.trod enc P w base spare held fuel t [v] = some x) : ∃ (A : Option Addr) (ms : List Mem) (c : Nat), v = .slice A ms.length c ∧ ms.length ≤ c ∧ c ≤ maxLen ∧ RdM w 0 w.heap.size A ms ∧ (∀ m ∈ ms, MemR m) ∧ ms.length ≤ Rows.uptoBulk x.1 ∧ ((x.1 = .nil ∧ ms = []) ∨ ∃ el sp, x.1 = .slice el sp ∧ el.length = ms.length) := by
  rcases Go.Deep.open_slice ht h with ⟨hcs, hxn⟩ | ⟨a, len, cap, m, n, Df, Pl, hcs, -, hl, hm, hmm, hx, hi⟩
  · simp at hcs
    exact ⟨none, [], 0, hcs, Nat.le_refl _, by unfold maxLen; omega, RdM.nil _ _ _ _, (fun m hm => by cases hm), Nat.zero_le _, .inl ⟨congrArg Prod.fst hxn, rfl⟩⟩
  · simp at hcs
    have hlm : len ≤ m := by rw [hmm]; split <;> omega
    obtain ⟨o0, z0⟩ := hone_of hone 0 g0 rfl
    obtain ⟨o1, z1⟩ := hone_of hone 1 g1 rfl
    obtain ⟨o2, z2⟩ := hone_of hone 2 g2 rfl
    obtain ⟨o3, z3⟩ := hone_of hone 3 g3 rfl
    obtain ⟨ms, hml, hmp⟩ := list_of_at (α := Mem) len (fun i q => MemR q ∧ w.cell? (a.add (i * 4)) = some (.int .i64 q.1) ∧ w.cell? (a.add (i * 4 + 1)) = some (.int .u8 q.2.1) ∧ w.cell? (a.add (i * 4 + 2)) = some (.int .i64 q.2.2.1) ∧ w.cell? (a.add (i * 4 + 3)) = some (.int .i64 q.2.2.2)) (fun i hil => by
      obtain ⟨cs', hc, htr⟩ := hi i (by omega)
      rw [hC] at hc
      obtain ⟨_, hcl, hat⟩ := World.cells?_some hc
      obtain ⟨y0, y1, y2, y3, n', -, -, h0, h1, h2, h3⟩ := trod_struct4 he htr
      rw [o0, z0] at h0
      rw [o1, z1] at h1
      rw [o2, z2] at h2
      rw [o3, z3] at h3
      match cs', hcl with
      | [x0, x1, x2, x3], _ =>
        obtain ⟨q0, e0, -, w0⟩ := DataW.trod_int k0 h0
        obtain ⟨q1, e1, -, w1⟩ := DataW.trod_int k1 h1
        obtain ⟨q2, e2, -, w2⟩ := DataW.trod_int k2 h2
        obtain ⟨q3, e3, -, w3⟩ := DataW.trod_int k3 h3
        have a0 := hat 0 (by omega)
        have a1 := hat 1 (by omega)
        have a2 := hat 2 (by omega)
        have a3 := hat 3 (by omega)
        rw [Go.Deep.add_add] at a0 a1 a2 a3
        simp at e0 e1 e2 e3 a0 a1 a2 a3
        exact ⟨(q0, q1, q2, q3), ⟨wf_i64 w0, wf_u8 w1, wf_i64 w2, wf_i64 w3⟩, by rw [a0, e0], by rw [a1, e1], by rw [a2, e2], by rw [a3, e3]⟩)
    refine ⟨some a, ms, cap, by rw [hml]; exact hcs, by omega, hm, fun h0 => ?_, fun q hq => ?_, ?_, .inr ⟨_, _, congrArg Prod.fst hx, by rw [hml]; simp⟩⟩
    · obtain ⟨-, hc0, -⟩ := hmp 0 ms[0] (List.getElem?_eq_getElem h0)
      rw [show a.add (0 * 4) = a by unfold Addr.add; simp] at hc0
      obtain ⟨b, o, rfl⟩ := spot_none hc0
      refine ⟨b, o, rfl, Nat.zero_le _, World.block_lt_of_cell? w _ hc0, fun i q hq => ?_⟩
      obtain ⟨-, c0, c1, c2, c3⟩ := hmp i q hq
      rw [Lib.addr_add] at c0 c1 c2 c3
      refine ⟨c0, ?_, ?_, ?_⟩
      · rw [Nat.add_assoc]; exact c1
      · rw [Nat.add_assoc]; exact c2
      · rw [Nat.add_assoc]; exact c3
    · obtain ⟨i, hi⟩ := List.mem_iff_getElem?.1 hq
      exact (hmp i q hi).1
    · have hd : x.1 = .slice ((List.range len).map Df) ((List.range (m - len)).map fun j => Df (len + j)) := congrArg Prod.fst hx
      rw [hd, hml]
      have := bulkE_slice ((List.range len).map Df) ((List.range (m - len)).map fun j => Df (len + j))
      simp at this
      omega

/-- A config that came in. -/
theorem open_config {H : Type} {enc : TypeId × Value → H} {P : Program} {w : World} {base t e : Nat} {r : Reach} {b0 : Nat} {spare : Nat → Bool} {held : Bool} {v : Value} {d : DataW H} {p : List MemPlace} {f0 f1 g0 g1 g2 g3 : Field}
    (hs : P.underlying t = some (.struct #[f0, f1])) (hone2 : oneCellFields P #[f0, f1] = true) (hC2 : P.cellsOf t = 2) (u0 : P.underlying f0.type = some (.int .i64))
    (ht : P.underlying f1.type = some (.slice e)) (he : P.underlying e = some (.struct #[g0, g1, g2, g3])) (hone : oneCellFields P #[g0, g1, g2, g3] = true) (hC : P.cellsOf e = 4)
    (k0 : P.underlying g0.type = some (.int .i64)) (k1 : P.underlying g1.type = some (.int .u8)) (k2 : P.underlying g2.type = some (.int .i64)) (k3 : P.underlying g3.type = some (.int .i64))
    (hv : Value.okWide P w r b0 t v) (h : DataW.Trod enc P w base spare held t v d p) :
    ∃ (ver : Int) (A : Option Addr) (ms : List Mem) (c : Nat), v = .agg #[.int .i64 ver, .slice A ms.length c] ∧ (-9223372036854775808 ≤ ver ∧ ver ≤ 9223372036854775807) ∧ ms.length ≤ c ∧ c ≤ maxLen ∧ RdM w 0 w.heap.size A ms ∧ (∀ m ∈ ms, MemR m) ∧ ms.length ≤ Rows.uptoBulk d ∧ ∃ x y, d = .agg [x, y] ∧ ((y = .nil ∧ ms = []) ∨ ∃ el sp, y = .slice el sp ∧ el.length = ms.length) := by
  obtain ⟨v0, v1, y0, y1, n, rfl, hd, -, h0, h1⟩ := open_agg2 hs hone2 hC2 hv h
  obtain ⟨ver, e0, -, w0⟩ := DataW.trod_int u0 h0
  obtain ⟨A, ms, c, rfl, hmc, hcm, hr, hm, hb, hform⟩ := open_members ht he hone hC k0 k1 k2 k3 h1
  simp at e0
  refine ⟨ver, A, ms, c, by rw [e0], wf_i64 w0, hmc, hcm, hr, hm, ?_, _, _, hd, hform⟩
  rw [hd]
  exact Nat.le_trans hb (bulkE_agg_mem (by simp))

/-- Numbers that came in. -/
theorem open_numbers {H : Type} {enc : TypeId × Value → H} {P : Program} {w : World} {base t e : Nat} {r : Reach} {b0 : Nat} {spare : Nat → Bool} {held : Bool} {v : Value} {d : DataW H} {p : List MemPlace}
    (ht : P.underlying t = some (.slice e)) (he : P.underlying e = some (.int .i64)) (hC : P.cellsOf e = 1) (hv : Value.okWide P w r b0 t v) (h : DataW.Trod enc P w base spare held t v d p) :
    ∃ (A : Option Addr) (l : List Int) (c : Nat), v = .slice A l.length c ∧ l.length ≤ c ∧ c ≤ maxLen ∧ RdI w 0 w.heap.size A l ∧ (∀ z ∈ l, -9223372036854775808 ≤ z ∧ z ≤ 9223372036854775807) ∧ l.length ≤ Rows.uptoBulk d ∧ ((d = .nil ∧ l = []) ∨ ∃ el sp, d = .slice el sp ∧ el.length = l.length) := by
  obtain ⟨a0, len, cap, rfl⟩ := okWide_slice ht hv
  obtain ⟨fuel, hf⟩ := h
  rcases open_ints ht he hC hf with ⟨hcs, hx⟩ | ⟨x, l, c, zs, hcs, _, hl, hm, hz, hx, hcell, hwz⟩
  · simp [Value.cells] at hcs
    obtain ⟨rfl, rfl, rfl⟩ := hcs
    exact ⟨none, [], 0, rfl, by simp, by unfold maxLen; omega, RdI.nil _ _ _ _, (fun z hz => by cases hz), Nat.zero_le _, .inl ⟨congrArg Prod.fst hx, rfl⟩⟩
  · simp [Value.cells] at hcs
    obtain ⟨rfl, rfl, rfl⟩ := hcs
    have hzl : len ≤ zs.length := by rw [hz]; split <;> omega
    have hlen : (zs.take len).length = len := by simp; omega
    refine ⟨some x, zs.take len, cap, by rw [hlen], by omega, hm, fun h0 => ?_, fun z hz => wf_i64 (hwz z (List.mem_of_mem_take hz)), ?_, .inr ⟨_, _, congrArg Prod.fst hx, by rw [hlen]; simp [lits]; omega⟩⟩
    · rw [hlen] at h0
      have hc0 := hcell 0 (by omega)
      rw [show x.add 0 = x by unfold Addr.add; simp] at hc0
      obtain ⟨b, o, rfl⟩ := spot_none hc0
      refine ⟨b, o, rfl, Nat.zero_le _, World.block_lt_of_cell? w _ hc0, fun i hi => ?_⟩
      rw [hlen] at hi
      have hci := hcell i (by omega)
      rw [Lib.addr_add] at hci
      rw [hci]
      simp [List.getD, hi]
    · have hd : d = .slice (lits .i64 (zs.take len)) (lits .i64 (zs.drop len)) := congrArg Prod.fst hx
      rw [hd, hlen]
      have := bulkE_slice (H := H) (lits .i64 (zs.take len)) (lits .i64 (zs.drop len))
      have e : (lits .i64 (zs.take len) : List (DataW H)).length = len := by simp [lits]; omega
      rw [e] at this
      omega

/-- How many members a config has that came in. -/
theorem sized_config {H : Type} {P : Program} {t e : TypeId} {ts : List TypeId} {ds : List (DataW H)} {f0 f1 : Field} {x y : DataW H} {el sp : List (DataW H)}
    (h : (DataW.weightsEach P (t :: ts) (.agg [x, y] :: ds)).all (· ≤ reachBytes) = true) (hs : P.underlying t = some (.struct #[f0, f1])) (ht : P.underlying f1.type = some (.slice e)) (hy : y = .slice el sp) : (el.length + sp.length) * P.bytesOf e ≤ reachBytes := by
  subst hy
  rw [DataW.weightsEach, List.all_append, Bool.and_eq_true] at h
  have h1 := h.1
  rw [DataW.weights, hs] at h1
  simp only [List.map_cons, List.map_nil, DataW.weightsEach, List.all_append, Bool.and_eq_true, List.append_nil] at h1
  have h2 := h1.2
  rw [DataW.weights, ht] at h2
  simp only [List.all_cons, Bool.and_eq_true, decide_eq_true_eq] at h2
  exact h2.1

end Go.Proofs.YtmlmbahimklfiaaGreatDoor

/- Deeds -/
namespace Go.Proofs.YtmlmbahimklfiaaGreatDoor
open Go.ChangeShapes Go.WideShapes Go.ChangeAt Go.RowKit

theorem bulk_mem {H : Type} {d : DataW H} {l : List (DataW H)} (h : d ∈ l) : Rows.uptoBulk d ≤ Rows.uptoBulkAll l := by
  induction l with
  | nil => cases h
  | cons x l ih =>
    rw [Rows.uptoBulkAll]
    rcases List.mem_cons.1 h with rfl | h
    · omega
    · have := ih h; omega
theorem bulk_len {H : Type} (l : List (DataW H)) : l.length ≤ Rows.uptoBulkAll l := by
  induction l with
  | nil => simp
  | cons x l ih =>
    have : 1 ≤ Rows.uptoBulk x := by
      cases x with
      | lit z => cases z <;> simp [Rows.uptoBulk]
      | _ => simp [Rows.uptoBulk]
    rw [Rows.uptoBulkAll, List.length_cons]
    omega
theorem bulk_slice {H : Type} (a b : List (DataW H)) : a.length + 1 ≤ Rows.uptoBulk (DataW.slice a b) := by
  have := bulk_len a
  rw [Rows.uptoBulk]; omega
theorem bulk_slice_mem {H : Type} {x : DataW H} {a : List (DataW H)} (b : List (DataW H)) (h : x ∈ a) : Rows.uptoBulk x ≤ Rows.uptoBulk (DataW.slice a b) := by
  have := bulk_mem h
  rw [Rows.uptoBulk]; omega
theorem bulk_agg_mem {H : Type} {x : DataW H} {a : List (DataW H)} (h : x ∈ a) : Rows.uptoBulk x ≤ Rows.uptoBulk (DataW.agg a) := by
  have := bulk_mem h
  rw [Rows.uptoBulk]; omega

theorem i64_wf {z : Int} (h : (Lit.int .i64 z).wf = true) : -9223372036854775808 ≤ z ∧ z ≤ 9223372036854775807 := by
  have := bounds_i64 h
  omega

/-- Bytes that a cell holds. -/
theorem open_cell_bytes {H : Type} {enc : TypeId × Value → H} {P : Program} {w : World} {base t e fuel : Nat} {spare : Nat → Bool} {held : Bool} {v : Value} {x : DataW H × List MemPlace}
    (ht : P.underlying t = some (.slice e)) (he : P.underlying e = some (.int .u8)) (hC : P.cellsOf e = 1) (h : DataW.trod enc P w base spare held fuel t [v] = some x) :
    ∃ (B : Option Addr) (l : List UInt8) (c : Nat), v = .slice B l.length c ∧ l.length ≤ c ∧ c ≤ maxLen ∧ l.length ≤ Rows.uptoBulk x.1 ∧ Rd w 0 w.heap.size B l := by
  rcases open_ints ht he hC h with ⟨hcs, hx⟩ | ⟨a, len, cap, zs, hcs, _, hl, hm, hz, hx, hcell, hwz⟩
  · simp at hcs
    exact ⟨none, [], 0, hcs, Nat.le_refl _, by unfold maxLen; omega, by simp, Rd.nil _ _ _ _⟩
  · simp at hcs
    have hzl : len ≤ zs.length := by rw [hz]; split <;> omega
    have hlen : ((zs.take len).map fun z => UInt8.ofNat z.toNat).length = len := by simp; omega
    refine ⟨some a, (zs.take len).map fun z => UInt8.ofNat z.toNat, cap, by rw [hlen, hcs], by omega, hm, ?_, ?_⟩
    · rw [hlen, hx]
      have := bulk_slice (H := H) (lits .u8 (zs.take len)) (lits .u8 (zs.drop len))
      have e : (lits .u8 (zs.take len) : List (DataW H)).length = len := by simp [lits]; omega
      rw [e] at this
      exact Nat.le_trans (Nat.le_succ _) this
    · intro h0
      rw [hlen] at h0
      have hc0 := hcell 0 (by omega)
      rw [show a.add 0 = a by unfold Addr.add; simp] at hc0
      obtain ⟨b, o, rfl⟩ := spot_none hc0
      refine ⟨b, o, rfl, Nat.zero_le _, World.block_lt_of_cell? w _ hc0, fun i hi => ?_⟩
      rw [hlen] at hi
      have hci := hcell i (by omega)
      rw [Lib.addr_add] at hci
      rw [hci]
      have hiz : i < zs.length := by omega
      have e1 : ((zs.take len).map fun z => UInt8.ofNat z.toNat).getD i 0 = UInt8.ofNat (zs.getD i 0).toNat := by
        simp [List.getD, hi, hiz]
      rw [e1]
      have hw := hwz (zs.getD i 0) (by simp [List.getD, hiz])
      rw [u8_wf hw]

/-- The things' cells: a sort, a number and bytes in each. -/
def Dfs (w : World) (A : Option Addr) (n lim : Nat) : Prop :=
  0 < n → ∃ b o, A = some ⟨b, o, none⟩ ∧ b < w.heap.size ∧ ∀ i, i < n → ∃ (s m : Int) (B : Option Addr) (l : List UInt8) (c : Nat), (-9223372036854775808 ≤ m ∧ m ≤ 9223372036854775807) ∧ l.length ≤ lim ∧ l.length ≤ c ∧ c ≤ maxLen ∧ Rd w 0 w.heap.size B l ∧
    w.cell? ⟨b, o + i * 3, none⟩ = some (.int .i64 s) ∧ w.cell? ⟨b, o + i * 3 + 1, none⟩ = some (.int .i64 m) ∧ w.cell? ⟨b, o + i * 3 + 2, none⟩ = some (.slice B l.length c)
theorem Dfs.wide {w : World} {A : Option Addr} {n lim lim' : Nat} (h : Dfs w A n lim) (hl : lim ≤ lim') : Dfs w A n lim' := fun h0 => by
  obtain ⟨b, o, hA, hb, hi⟩ := h h0
  refine ⟨b, o, hA, hb, fun i hin => ?_⟩
  obtain ⟨s, m, B, l, c, z1, z2, z⟩ := hi i hin
  exact ⟨s, m, B, l, c, z1, Nat.le_trans z2 hl, z⟩

theorem open_things {H : Type} {enc : TypeId × Value → H} {P : Program} {w : World} {base t e e8 : Nat} {r : Reach} {b0 : Nat} {spare : Nat → Bool} {held : Bool} {v : Value} {d : DataW H} {p : List MemPlace} {f0 f1 f2 : Field}
    (ht : P.underlying t = some (.slice e)) (he : P.underlying e = some (.struct #[f0, f1, f2])) (o0 : f0.offset = 0) (o1 : f1.offset = 1) (o2 : f2.offset = 2) (c0 : P.cellsOf f0.type = 1) (c1 : P.cellsOf f1.type = 1) (c2 : P.cellsOf f2.type = 1) (u0 : P.underlying f0.type = some (.int .i64)) (u1 : P.underlying f1.type = some (.int .i64)) (u2 : P.underlying f2.type = some (.slice e8)) (h8 : P.underlying e8 = some (.int .u8)) (h81 : P.cellsOf e8 = 1) (hC : P.cellsOf e = 3)
    (hv : Value.okWide P w r b0 t v) (h : DataW.Trod enc P w base spare held t v d p) : ∃ (D : Option Addr) (n k : Nat), v = .slice D n k ∧ n ≤ k ∧ k ≤ maxLen ∧ Dfs w D n (Rows.uptoBulk d) := by
  obtain ⟨a0, len, cap, rfl⟩ := okWide_slice ht hv
  obtain ⟨fuel, hf⟩ := h
  rcases Go.Deep.open_slice ht hf with ⟨hcs, -⟩ | ⟨a, len', cap', m, n, Df, Pl, hcs, -, hl, hm, hmm, hx, hi⟩
  · simp [Value.cells] at hcs
    obtain ⟨rfl, rfl, rfl⟩ := hcs
    exact ⟨none, 0, 0, rfl, Nat.le_refl _, by unfold maxLen; omega, fun h0 => absurd h0 (by omega)⟩
  · simp [Value.cells] at hcs
    obtain ⟨rfl, rfl, rfl⟩ := hcs
    have hlm : len ≤ m := by rw [hmm]; split <;> omega
    have key : ∀ i, i < len → ∃ (s q : Int) (B : Option Addr) (l : List UInt8) (c : Nat), (-9223372036854775808 ≤ q ∧ q ≤ 9223372036854775807) ∧ l.length ≤ Rows.uptoBulk d ∧ l.length ≤ c ∧ c ≤ maxLen ∧ Rd w 0 w.heap.size B l ∧
        w.cell? (a.add (i * 3)) = some (.int .i64 s) ∧ w.cell? (a.add (i * 3 + 1)) = some (.int .i64 q) ∧ w.cell? (a.add (i * 3 + 2)) = some (.slice B l.length c) := by
      intro i hil
      obtain ⟨cs', hc, htr⟩ := hi i (by omega)
      rw [hC] at hc
      obtain ⟨_, hcl, hat⟩ := World.cells?_some hc
      obtain ⟨y0, y1, y2, n', hxa, -, h0, h1, h2⟩ := Go.Deep.trod_struct3 he htr
      rw [o0, c0] at h0
      rw [o1, c1] at h1
      rw [o2, c2] at h2
      match cs', hcl with
      | [x0, x1, x2], _ =>
        obtain ⟨s, hs, -⟩ := DataW.trod_int u0 h0
        obtain ⟨q, hq, -, hqw⟩ := DataW.trod_int u1 h1
        obtain ⟨B, l, c, hb, hlc, hcm, hbk, hr⟩ := open_cell_bytes u2 h8 h81 (v := x2) h2
        have e0 := hat 0 (by omega)
        have e1 := hat 1 (by omega)
        have e2 := hat 2 (by omega)
        rw [Go.Deep.add_add] at e0 e1 e2
        simp at hs hq e0 e1 e2
        refine ⟨s, q, B, l, c, i64_wf hqw, ?_, hlc, hcm, hr, ?_, ?_, ?_⟩
        · have ha : Df i = .agg [y0.1, y1.1, y2.1] := congrArg Prod.fst hxa
          have k1 : Rows.uptoBulk y2.1 ≤ Rows.uptoBulk (Df i) := by rw [ha]; exact bulk_agg_mem (by simp)
          have hd : d = .slice ((List.range len).map Df) ((List.range (m - len)).map fun j => Df (len + j)) := congrArg Prod.fst hx
          have k2 : Rows.uptoBulk (Df i) ≤ Rows.uptoBulk d := by rw [hd]; exact bulk_slice_mem _ (List.mem_map.2 ⟨i, by simp [hil], rfl⟩)
          omega
        · rw [e0, hs]
        · rw [e1, hq]
        · rw [e2, hb]
    refine ⟨some a, len, cap, rfl, hl, hm, fun h0 => ?_⟩
    obtain ⟨s, q, B, l, c, -, -, -, -, -, hc0, -⟩ := key 0 h0
    rw [show a.add (0 * 3) = a by unfold Addr.add; simp] at hc0
    obtain ⟨b, o, rfl⟩ := spot_none hc0
    refine ⟨b, o, rfl, World.block_lt_of_cell? w _ hc0, fun i hil => ?_⟩
    obtain ⟨s, q, B, l, c, z1, z2, z3, z4, z5, k0, k1, k2⟩ := key i hil
    rw [Lib.addr_add] at k0 k1 k2
    exact ⟨s, q, B, l, c, z1, z2, z3, z4, z5, k0, by rw [Nat.add_assoc]; exact k1, by rw [Nat.add_assoc]; exact k2⟩

end Go.Proofs.YtmlmbahimklfiaaGreatDoor

/- Dop -/
namespace Go.Proofs.YtmlmbahimklfiaaGreatDoor
open Go.ChangeShapes Go.WideShapes Go.ChangeAt Go.RowKit Go.Deep Go.Joins

theorem wl_slice {H : Type} {P : Program} {t e : TypeId} {el sp : List (DataW H)} (ht : P.underlying t = some (.slice e)) (h : ((DataW.slice el sp).weights P t).all (· ≤ reachBytes) = true) : el.length * P.bytesOf e ≤ reachBytes ∧ ∀ x ∈ el, (x.weights P e).all (· ≤ reachBytes) = true := by
  rw [DataW.weights, ht] at h
  simp only [List.all_cons, List.all_append, Bool.and_eq_true, decide_eq_true_eq] at h
  refine ⟨Nat.le_trans (Nat.mul_le_mul_right _ (Nat.le_add_right _ _)) h.1, ?_⟩
  have h2 := h.2.1
  clear h
  induction el with
  | nil => intro x hx; cases hx
  | cons y l ih =>
    rw [DataW.weightsAll, List.all_append, Bool.and_eq_true] at h2
    intro x hx
    rcases List.mem_cons.1 hx with rfl | hx
    · exact h2.1
    · exact ih h2.2 x hx
theorem wl_each {H : Type} {P : Program} {ts : List TypeId} {ds : List (DataW H)} (h : (DataW.weightsEach P ts ds).all (· ≤ reachBytes) = true) : ∀ (i : Nat) (t : TypeId) (d : DataW H), ts[i]? = some t → ds[i]? = some d → (d.weights P t).all (· ≤ reachBytes) = true := by
  induction ts generalizing ds with
  | nil => intro i t d ht; simp at ht
  | cons t0 ts ih =>
    cases ds with
    | nil => intro i t d _ hd; simp at hd
    | cons d0 ds =>
      rw [DataW.weightsEach, List.all_append, Bool.and_eq_true] at h
      intro i t d ht hd
      cases i with
      | zero => cases ht; cases hd; exact h.1
      | succ i => exact ih h.2 i t d (by simpa using ht) (by simpa using hd)
theorem reach_eq : reachBytes = 140737488351232 := by decide
theorem lit_string {H : Type} {P : Program} {t : TypeId} {l : List UInt8} (h : ((DataW.lit (.string l) : DataW H).weights P t).all (· ≤ reachBytes) = true) : l.length ≤ 140737488351232 := by
  rw [DataW.weights] at h
  have := reach_eq
  simp only [List.all_cons, List.all_nil, Bool.and_true, decide_eq_true_eq] at h
  omega
/-- Bytes in one cell, and how many. -/
theorem open_cell_data {H : Type} {enc : TypeId × Value → H} {w : World} {base fuel : Nat} {spare : Nat → Bool} {held : Bool} {v : Value} {x : DataW H × List MemPlace}
    (h : DataW.trod enc Tryz.prog w base spare held fuel 24 [v] = some x) (hw : (x.1.weights Tryz.prog 24).all (· ≤ reachBytes) = true) :
    ∃ (B : Option Addr) (l : List UInt8) (c : Nat), v = .slice B l.length c ∧ l.length ≤ 140737488355328 ∧ Rd w 0 w.heap.size B l := by
  obtain ⟨B, l, c, rfl, -, -, -, hr⟩ := open_cell_bytes Tryz.underlying24 Tryz.underlying5 (by kernel_rfl) h
  refine ⟨B, l, c, rfl, ?_, hr⟩
  rcases DataW.trod_slice Tryz.underlying24 h with ⟨hcs, -⟩ | ⟨a, len, cap, el, rest, n, -, hcs, hx, -, -, -, hel, -⟩
  · simp at hcs; rw [hcs.2.1]; simp
  · simp at hcs
    rw [hx] at hw
    have h2 := (wl_slice Tryz.underlying24 hw).1
    rw [show Tryz.prog.bytesOf 5 = 1 by kernel_rfl] at h2
    have := reach_eq
    simp at h2
    omega
theorem open_cell_members {H : Type} {enc : TypeId × Value → H} {w : World} {base fuel : Nat} {spare : Nat → Bool} {held : Bool} {v : Value} {x : DataW H × List MemPlace}
    (h : DataW.trod enc Tryz.prog w base spare held fuel 26 [v] = some x) (hw : (x.1.weights Tryz.prog 26).all (· ≤ reachBytes) = true) :
    ∃ (B : Option Addr) (ms : List Mem) (c : Nat), v = .slice B ms.length c ∧ ms.length ≤ 4398046510976 ∧ RdM w 0 w.heap.size B ms := by
  obtain ⟨B, ms, c, rfl, -, -, hr, -, -, hf⟩ := open_members Tryz.underlying26 Tryz.underlying173 (by kernel_rfl) (by kernel_rfl) Tryz.underlying3 Tryz.underlying171 Tryz.underlying3 Tryz.underlying3 h
  refine ⟨B, ms, c, rfl, ?_, hr⟩
  rcases hf with ⟨-, rfl⟩ | ⟨el, sp, hx, hel⟩
  · simp
  · rw [hx] at hw
    have h2 := (wl_slice Tryz.underlying26 hw).1
    rw [show Tryz.prog.bytesOf 173 = 32 by kernel_rfl] at h2
    have := reach_eq
    omega
set_option maxRecDepth 8000 in
/-- A deed's cells, as a value that came in lays them. -/
theorem open_fields {H : Type} {enc : TypeId × Value → H} {w : World} {base fuel : Nat} {spare : Nat → Bool} {held : Bool} {cs : List Value} {x : DataW H × List MemPlace}
    (h : DataW.trod enc Tryz.prog w base spare held fuel 31 cs = some x) (hw : (x.1.weights Tryz.prog 31).all (· ≤ reachBytes) = true) :
    ∃ (f : Fd) (pl : Pl) (np n : Nat) (y : DataW H × List MemPlace), cs = (dcells f pl np).toList ∧ f.Ok ∧ Rd w 0 w.heap.size pl.A f.data ∧ RdM w 0 w.heap.size pl.B f.c.2 ∧ DataW.trod enc Tryz.prog w base spare held n 29 [.slice pl.P np pl.e] = some y ∧ (y.1.weights Tryz.prog 29).all (· ≤ reachBytes) = true := by
  obtain ⟨xs, n, rfl, hx, hcl, hxl, hat⟩ := DataW.trod_struct Tryz.underlying31 h
  rw [show Tryz.prog.cellsOf 31 = 16 by kernel_rfl] at hcl
  have hxl : xs.length = 15 := hxl
  rw [hx, DataW.weights, Tryz.underlying31] at hw
  simp only at hw
  have hww := wl_each hw
  clear hw h hx
  match cs, hcl, xs, hxl with
  | [c0, c1, c2, c3, c4, c5, c6, c7, c8, c9, c10, c11, c12, c13, c14, c15], _, [y0, y1, y2, y3, y4, y5, y6, y7, y8, y9, y10, y11, y12, y13, y14], _ =>
    have h0 : DataW.trod enc Tryz.prog w base spare held n 22 (([c0, c1, c2, c3, c4, c5, c6, c7, c8, c9, c10, c11, c12, c13, c14, c15].drop 0).take (Tryz.prog.cellsOf 22)) = some y0 := hat 0 _ rfl
    rw [show Tryz.prog.cellsOf 22 = 1 by kernel_rfl] at h0
    have h0 : DataW.trod enc Tryz.prog w base spare held n 22 [c0] = some y0 := h0
    have h1 : DataW.trod enc Tryz.prog w base spare held n 23 (([c0, c1, c2, c3, c4, c5, c6, c7, c8, c9, c10, c11, c12, c13, c14, c15].drop 1).take (Tryz.prog.cellsOf 23)) = some y1 := hat 1 _ rfl
    rw [show Tryz.prog.cellsOf 23 = 1 by kernel_rfl] at h1
    have h1 : DataW.trod enc Tryz.prog w base spare held n 23 [c1] = some y1 := h1
    have h2 : DataW.trod enc Tryz.prog w base spare held n 2 (([c0, c1, c2, c3, c4, c5, c6, c7, c8, c9, c10, c11, c12, c13, c14, c15].drop 2).take (Tryz.prog.cellsOf 2)) = some y2 := hat 2 _ rfl
    rw [show Tryz.prog.cellsOf 2 = 1 by kernel_rfl] at h2
    have h2 : DataW.trod enc Tryz.prog w base spare held n 2 [c2] = some y2 := h2
    have h3 : DataW.trod enc Tryz.prog w base spare held n 3 (([c0, c1, c2, c3, c4, c5, c6, c7, c8, c9, c10, c11, c12, c13, c14, c15].drop 3).take (Tryz.prog.cellsOf 3)) = some y3 := hat 3 _ rfl
    rw [show Tryz.prog.cellsOf 3 = 1 by kernel_rfl] at h3
    have h3 : DataW.trod enc Tryz.prog w base spare held n 3 [c3] = some y3 := h3
    have h4 : DataW.trod enc Tryz.prog w base spare held n 3 (([c0, c1, c2, c3, c4, c5, c6, c7, c8, c9, c10, c11, c12, c13, c14, c15].drop 4).take (Tryz.prog.cellsOf 3)) = some y4 := hat 4 _ rfl
    rw [show Tryz.prog.cellsOf 3 = 1 by kernel_rfl] at h4
    have h4 : DataW.trod enc Tryz.prog w base spare held n 3 [c4] = some y4 := h4
    have h5 : DataW.trod enc Tryz.prog w base spare held n 2 (([c0, c1, c2, c3, c4, c5, c6, c7, c8, c9, c10, c11, c12, c13, c14, c15].drop 5).take (Tryz.prog.cellsOf 2)) = some y5 := hat 5 _ rfl
    rw [show Tryz.prog.cellsOf 2 = 1 by kernel_rfl] at h5
    have h5 : DataW.trod enc Tryz.prog w base spare held n 2 [c5] = some y5 := h5
    have h6 : DataW.trod enc Tryz.prog w base spare held n 9 (([c0, c1, c2, c3, c4, c5, c6, c7, c8, c9, c10, c11, c12, c13, c14, c15].drop 6).take (Tryz.prog.cellsOf 9)) = some y6 := hat 6 _ rfl
    rw [show Tryz.prog.cellsOf 9 = 1 by kernel_rfl] at h6
    have h6 : DataW.trod enc Tryz.prog w base spare held n 9 [c6] = some y6 := h6
    have h7 : DataW.trod enc Tryz.prog w base spare held n 24 (([c0, c1, c2, c3, c4, c5, c6, c7, c8, c9, c10, c11, c12, c13, c14, c15].drop 7).take (Tryz.prog.cellsOf 24)) = some y7 := hat 7 _ rfl
    rw [show Tryz.prog.cellsOf 24 = 1 by kernel_rfl] at h7
    have h7 : DataW.trod enc Tryz.prog w base spare held n 24 [c7] = some y7 := h7
    have h8 : DataW.trod enc Tryz.prog w base spare held n 2 (([c0, c1, c2, c3, c4, c5, c6, c7, c8, c9, c10, c11, c12, c13, c14, c15].drop 8).take (Tryz.prog.cellsOf 2)) = some y8 := hat 8 _ rfl
    rw [show Tryz.prog.cellsOf 2 = 1 by kernel_rfl] at h8
    have h8 : DataW.trod enc Tryz.prog w base spare held n 2 [c8] = some y8 := h8
    have h9 : DataW.trod enc Tryz.prog w base spare held n 3 (([c0, c1, c2, c3, c4, c5, c6, c7, c8, c9, c10, c11, c12, c13, c14, c15].drop 9).take (Tryz.prog.cellsOf 3)) = some y9 := hat 9 _ rfl
    rw [show Tryz.prog.cellsOf 3 = 1 by kernel_rfl] at h9
    have h9 : DataW.trod enc Tryz.prog w base spare held n 3 [c9] = some y9 := h9
    have h10 : DataW.trod enc Tryz.prog w base spare held n 3 (([c0, c1, c2, c3, c4, c5, c6, c7, c8, c9, c10, c11, c12, c13, c14, c15].drop 10).take (Tryz.prog.cellsOf 3)) = some y10 := hat 10 _ rfl
    rw [show Tryz.prog.cellsOf 3 = 1 by kernel_rfl] at h10
    have h10 : DataW.trod enc Tryz.prog w base spare held n 3 [c10] = some y10 := h10
    have h11 : DataW.trod enc Tryz.prog w base spare held n 3 (([c0, c1, c2, c3, c4, c5, c6, c7, c8, c9, c10, c11, c12, c13, c14, c15].drop 11).take (Tryz.prog.cellsOf 3)) = some y11 := hat 11 _ rfl
    rw [show Tryz.prog.cellsOf 3 = 1 by kernel_rfl] at h11
    have h11 : DataW.trod enc Tryz.prog w base spare held n 3 [c11] = some y11 := h11
    have h12 : DataW.trod enc Tryz.prog w base spare held n 25 (([c0, c1, c2, c3, c4, c5, c6, c7, c8, c9, c10, c11, c12, c13, c14, c15].drop 12).take (Tryz.prog.cellsOf 25)) = some y12 := hat 12 _ rfl
    rw [show Tryz.prog.cellsOf 25 = 1 by kernel_rfl] at h12
    have h12 : DataW.trod enc Tryz.prog w base spare held n 25 [c12] = some y12 := h12
    have h13 : DataW.trod enc Tryz.prog w base spare held n 28 (([c0, c1, c2, c3, c4, c5, c6, c7, c8, c9, c10, c11, c12, c13, c14, c15].drop 13).take (Tryz.prog.cellsOf 28)) = some y13 := hat 13 _ rfl
    rw [show Tryz.prog.cellsOf 28 = 2 by kernel_rfl] at h13
    have h13 : DataW.trod enc Tryz.prog w base spare held n 28 [c13, c14] = some y13 := h13
    have h14 : DataW.trod enc Tryz.prog w base spare held n 29 (([c0, c1, c2, c3, c4, c5, c6, c7, c8, c9, c10, c11, c12, c13, c14, c15].drop 15).take (Tryz.prog.cellsOf 29)) = some y14 := hat 14 _ rfl
    rw [show Tryz.prog.cellsOf 29 = 1 by kernel_rfl] at h14
    have h14 : DataW.trod enc Tryz.prog w base spare held n 29 [c15] = some y14 := h14
    clear hat
    obtain ⟨z0, q0, -, w0⟩ := DataW.trod_int Tryz.underlying22 h0
    simp only [List.cons.injEq, and_true] at q0
    obtain ⟨z1, q1, -, w1⟩ := DataW.trod_int Tryz.underlying23 h1
    simp only [List.cons.injEq, and_true] at q1
    obtain ⟨z2, q2, -, w2⟩ := DataW.trod_int Tryz.underlying2 h2
    simp only [List.cons.injEq, and_true] at q2
    obtain ⟨z3, q3, -, w3⟩ := DataW.trod_int Tryz.underlying3 h3
    simp only [List.cons.injEq, and_true] at q3
    obtain ⟨z4, q4, -, w4⟩ := DataW.trod_int Tryz.underlying3 h4
    simp only [List.cons.injEq, and_true] at q4
    obtain ⟨z5, q5, -, w5⟩ := DataW.trod_int Tryz.underlying2 h5
    simp only [List.cons.injEq, and_true] at q5
    obtain ⟨z8, q8, -, w8⟩ := DataW.trod_int Tryz.underlying2 h8
    simp only [List.cons.injEq, and_true] at q8
    obtain ⟨z9, q9, -, w9⟩ := DataW.trod_int Tryz.underlying3 h9
    simp only [List.cons.injEq, and_true] at q9
    obtain ⟨z10, q10, -, w10⟩ := DataW.trod_int Tryz.underlying3 h10
    simp only [List.cons.injEq, and_true] at q10
    obtain ⟨z11, q11, -, w11⟩ := DataW.trod_int Tryz.underlying3 h11
    simp only [List.cons.injEq, and_true] at q11
    obtain ⟨z12, q12, -, w12⟩ := DataW.trod_int Tryz.underlying25 h12
    simp only [List.cons.injEq, and_true] at q12
    obtain ⟨S, q6, x6, -⟩ := DataW.trod_string Tryz.underlying9 h6
    simp only [List.cons.injEq, and_true] at q6
    have s6 := hww 6 9 y6.1 rfl rfl
    rw [x6] at s6
    have s6 := lit_string s6
    obtain ⟨PA, data, pc, q7, l7, r7⟩ := open_cell_data h7 (hww 7 24 y7.1 rfl rfl)
    have s13 := hww 13 28 y13.1 rfl rfl
    obtain ⟨v0, v1, n', hx13, -, g0, g1⟩ := trod_struct2 Tryz.underlying28 h13
    have g0 : DataW.trod enc Tryz.prog w base spare held n' 22 (([c13, c14].drop 0).take (Tryz.prog.cellsOf 22)) = some v0 := g0
    have g1 : DataW.trod enc Tryz.prog w base spare held n' 26 (([c13, c14].drop 1).take (Tryz.prog.cellsOf 26)) = some v1 := g1
    rw [show Tryz.prog.cellsOf 22 = 1 by kernel_rfl] at g0
    rw [show Tryz.prog.cellsOf 26 = 1 by kernel_rfl] at g1
    have g0 : DataW.trod enc Tryz.prog w base spare held n' 22 [c13] = some v0 := g0
    have g1 : DataW.trod enc Tryz.prog w base spare held n' 26 [c14] = some v1 := g1
    obtain ⟨z13, q13, -, w13⟩ := DataW.trod_int Tryz.underlying22 g0
    simp only [List.cons.injEq, and_true] at q13
    rw [hx13, DataW.weights, Tryz.underlying28] at s13
    obtain ⟨PB, ms, pd, q14, l14, r14⟩ := open_cell_members g1 (wl_each s13 1 26 v1.1 rfl rfl)
    have h15 : ∃ (PP : Option Addr) (np pe : Nat), c15 = .slice PP np pe := by
      rcases DataW.trod_slice Tryz.underlying29 h14 with ⟨hcs, -⟩ | ⟨a, len, cap, el, rest, n2, -, hcs, -⟩
      · simp only [List.cons.injEq, and_true] at hcs; exact ⟨_, _, _, hcs⟩
      · simp only [List.cons.injEq, and_true] at hcs; exact ⟨_, _, _, hcs⟩
    obtain ⟨PP, np, pe, rfl⟩ := h15
    refine ⟨⟨z0, z1, z2, z3, z4, z5, S.data.toList, data, z8, z9, z10, z11, z12, (z13, ms)⟩, ⟨PA, pc, PB, pd, PP, pe⟩, np, n, y14, ?_, ?_, r7, r14, h14, hww 14 29 y14.1 rfl rfl⟩
    · rw [q0, q1, q2, q3, q4, q5, q6, q7, q8, q9, q10, q11, q12, q13, q14]
      simp [dcells]
    · exact ⟨wf_i64 w0, wf_u8 w1, wf_i64 w2, wf_i64 w3, wf_i64 w4, wf_i64 w5, wf_i64 w8, wf_i64 w9, wf_i64 w10, wf_i64 w11, wf_i64 w12, wf_i64 w13, by simp only; omega, by simp only; omega, l14⟩
theorem np_bound {H : Type} {enc : TypeId × Value → H} {w : World} {base fuel : Nat} {spare : Nat → Bool} {held : Bool} {A : Option Addr} {np e : Nat} {x : DataW H × List MemPlace}
    (h : DataW.trod enc Tryz.prog w base spare held fuel 29 [.slice A np e] = some x) (hw : (x.1.weights Tryz.prog 29).all (· ≤ reachBytes) = true) : np ≤ 140737488355328 := by
  rcases DataW.trod_slice Tryz.underlying29 h with ⟨hcs, -⟩ | ⟨a, len, cap, el, rest, n, -, hcs, hx, -, -, -, hel, -⟩
  · simp at hcs; omega
  · simp at hcs
    rw [hx] at hw
    have h2 := (wl_slice Tryz.underlying29 hw).1
    rw [show Tryz.prog.bytesOf 31 = 184 by kernel_rfl] at h2
    have := reach_eq
    simp at h2
    omega
/-- Parts that came in. -/
theorem open_parts {H : Type} {enc : TypeId × Value → H} {w : World} {base fuel : Nat} {spare : Nat → Bool} {held : Bool} {A : Option Addr} {np e : Nat} {x : DataW H × List MemPlace}
    (h : DataW.trod enc Tryz.prog w base spare held fuel 29 [.slice A np e] = some x) (hw : (x.1.weights Tryz.prog 29).all (· ≤ reachBytes) = true) :
    ∃ l : List (Fd × Nat), l.length = np ∧ RdP w 0 w.heap.size A l ∧ ∀ q ∈ l, q.1.Ok ∧ q.2 ≤ 140737488355328 := by
  rcases Go.Deep.open_slice Tryz.underlying29 h with ⟨hcs, -⟩ | ⟨a, len, cap, m, n, Df, Pl2, hcs, -, hlc, -, hmm, hx, hi⟩
  · simp at hcs
    obtain ⟨rfl, rfl, -⟩ := hcs
    exact ⟨[], rfl, RdP.nil _ _ _ _, fun q hq => absurd hq (by simp)⟩
  · simp at hcs
    obtain ⟨rfl, rfl, rfl⟩ := hcs
    have hlm : np ≤ m := by rw [hmm]; split <;> omega
    rw [hx] at hw
    have hww := (wl_slice Tryz.underlying29 hw).2
    obtain ⟨l, hll, hlp⟩ := list_of_at (α := Fd × Nat) np (fun i q => (q.1.Ok ∧ q.2 ≤ 140737488355328) ∧ ∃ pl : Pl, (∀ j v, (dcells q.1 pl q.2)[j]? = some v → w.cell? (a.add (i * 16 + j)) = some v) ∧ Rd w 0 w.heap.size pl.A q.1.data ∧ RdM w 0 w.heap.size pl.B q.1.c.2) (fun i hil => by
      obtain ⟨cs', hc, htr⟩ := hi i (by omega)
      rw [show Tryz.prog.cellsOf 31 = 16 by kernel_rfl] at hc
      obtain ⟨_, hcl, hat⟩ := World.cells?_some hc
      obtain ⟨f, pl, k, n2, y, rfl, hok, hrd, hrm, htp, hwp⟩ := open_fields htr (hww (Df i) (List.mem_map.2 ⟨i, by simp; exact hil, rfl⟩))
      refine ⟨(f, k), ⟨hok, np_bound htp hwp⟩, pl, fun j v hv => ?_, hrd, hrm⟩
      have hj : j < 16 := by
        have := (Array.getElem?_eq_some_iff.1 hv).1
        simpa [dcells] using this
      have h2 := hat j (by omega)
      rw [Go.Deep.add_add] at h2
      rw [h2]
      simpa using hv)
    refine ⟨l, hll, fun h0 => ?_, fun q hq => ?_⟩
    · obtain ⟨-, pl, hc, -⟩ := hlp 0 l[0] (List.getElem?_eq_getElem h0)
      have hc0 := hc 0 _ rfl
      rw [show a.add (0 * 16 + 0) = a by unfold Addr.add; simp] at hc0
      obtain ⟨b, o, rfl⟩ := spot_none hc0
      refine ⟨b, o, rfl, Nat.zero_le _, World.block_lt_of_cell? w _ hc0, fun i q hq => ?_⟩
      obtain ⟨-, pl, hc, hrd, hrm⟩ := hlp i q hq
      refine ⟨pl, fun j v hv => ?_, hrd, hrm⟩
      have h2 := hc j v hv
      rw [Lib.addr_add] at h2
      rw [Nat.add_assoc]
      exact h2
    · obtain ⟨i, hi⟩ := List.mem_iff_getElem?.1 hq
      exact (hlp i q hi).1
set_option maxRecDepth 8000 in
/-- A deed that came in. -/
theorem open_deed {H : Type} {enc : TypeId × Value → H} {w : World} {base : Nat} {r : Reach} {b0 : Nat} {spare : Nat → Bool} {held : Bool} {v : Value} {d : DataW H} {p : List MemPlace}
    (hv : Value.okWide Tryz.prog w r b0 31 v) (h : DataW.Trod enc Tryz.prog w base spare held 31 v d p) (hw : (d.weights Tryz.prog 31).all (· ≤ reachBytes) = true) :
    ∃ (f : Fd) (pl : Pl) (l : List (Fd × Nat)), v = dval f pl l.length ∧ f.Ok ∧ l.length ≤ 140737488355328 ∧ RdD w 0 w.heap.size f pl l ∧ ∀ q ∈ l, q.1.Ok ∧ q.2 ≤ 140737488355328 := by
  obtain ⟨cs, rfl, hsz⟩ := okWide_struct Tryz.underlying31 hv
  obtain ⟨fuel, hf⟩ := h
  have hf2 : DataW.trod enc Tryz.prog w base spare held fuel 31 cs.toList = some (d, p) := by simpa [Value.cells] using hf
  obtain ⟨f, pl, np, n, y, hcs, hok, hrd, hrm, htp, hwp⟩ := open_fields hf2 hw
  obtain ⟨l, hl, hrp, hlo⟩ := open_parts htp hwp
  have hnb := np_bound htp hwp
  refine ⟨f, pl, l, ?_, hok, by omega, ⟨hrd, hrm, hrp⟩, hlo⟩
  rw [hl, dval]
  congr 1
  exact Array.toList_inj.1 hcs
theorem weights_first {H : Type} {P : Program} {t : TypeId} {ts : List TypeId} {d : DataW H} {ds : List (DataW H)} (h : (DataW.weightsEach P (t :: ts) (d :: ds)).all (· ≤ reachBytes) = true) : (d.weights P t).all (· ≤ reachBytes) = true := by
  rw [DataW.weightsEach, List.all_append, Bool.and_eq_true] at h
  exact h.1
end Go.Proofs.YtmlmbahimklfiaaGreatDoor

/-
  Deeds: the things that came in, each a sort, a number and bytes; and how long the bytes are where the input's bulk is bound.
-/
import Derived.Test.YtmklmjggichfhaaDoorRows
import Derived.Test.YtmklmjggichfhaaDoorOpen
import Derived.Deep.Slices
import Derived.Deep.Strs
namespace Go.Proofs.YtmklmjggichfhaaDoor
open Go.ChangeShapes Go.WideShapes Go.ChangeAt Go.RowKit

theorem bulk_mem {H : Type} {d : DataW H} {l : List (DataW H)} (h : d ∈ l) : Rows.uptoBulk d ≤ Rows.uptoBulkAll l := by
  induction l with
  | nil => cases h
  | cons x l ih =>
    rw [Rows.uptoBulkAll]
    rcases List.mem_cons.1 h with rfl | h
    · omega
    · have := ih h; omega
theorem bulk_len {H : Type} (l : List (DataW H)) : l.length ≤ Rows.uptoBulkAll l := by
  induction l with
  | nil => simp
  | cons x l ih =>
    have : 1 ≤ Rows.uptoBulk x := by
      cases x with
      | lit z => cases z <;> simp [Rows.uptoBulk]
      | _ => simp [Rows.uptoBulk]
    rw [Rows.uptoBulkAll, List.length_cons]
    omega
theorem bulk_slice {H : Type} (a b : List (DataW H)) : a.length + 1 ≤ Rows.uptoBulk (DataW.slice a b) := by
  have := bulk_len a
  rw [Rows.uptoBulk]; omega
theorem bulk_slice_mem {H : Type} {x : DataW H} {a : List (DataW H)} (b : List (DataW H)) (h : x ∈ a) : Rows.uptoBulk x ≤ Rows.uptoBulk (DataW.slice a b) := by
  have := bulk_mem h
  rw [Rows.uptoBulk]; omega
theorem bulk_agg_mem {H : Type} {x : DataW H} {a : List (DataW H)} (h : x ∈ a) : Rows.uptoBulk x ≤ Rows.uptoBulk (DataW.agg a) := by
  have := bulk_mem h
  rw [Rows.uptoBulk]; omega

theorem i64_wf {z : Int} (h : (Lit.int .i64 z).wf = true) : -9223372036854775808 ≤ z ∧ z ≤ 9223372036854775807 := by
  have := bounds_i64 h
  omega

/-- Bytes that a cell holds. -/
theorem open_cell_bytes {H : Type} {enc : TypeId × Value → H} {P : Program} {w : World} {base t e fuel : Nat} {spare : Nat → Bool} {held : Bool} {v : Value} {x : DataW H × List MemPlace}
    (ht : P.underlying t = some (.slice e)) (he : P.underlying e = some (.int .u8)) (hC : P.cellsOf e = 1) (h : DataW.trod enc P w base spare held fuel t [v] = some x) :
    ∃ (B : Option Addr) (l : List UInt8) (c : Nat), v = .slice B l.length c ∧ l.length ≤ c ∧ c ≤ maxLen ∧ l.length ≤ Rows.uptoBulk x.1 ∧ Rd w 0 w.heap.size B l := by
  rcases open_ints ht he hC h with ⟨hcs, hx⟩ | ⟨a, len, cap, zs, hcs, _, hl, hm, hz, hx, hcell, hwz⟩
  · simp at hcs
    exact ⟨none, [], 0, hcs, Nat.le_refl _, by unfold maxLen; omega, by simp, Rd.nil _ _ _ _⟩
  · simp at hcs
    have hzl : len ≤ zs.length := by rw [hz]; split <;> omega
    have hlen : ((zs.take len).map fun z => UInt8.ofNat z.toNat).length = len := by simp; omega
    refine ⟨some a, (zs.take len).map fun z => UInt8.ofNat z.toNat, cap, by rw [hlen, hcs], by omega, hm, ?_, ?_⟩
    · rw [hlen, hx]
      have := bulk_slice (H := H) (lits .u8 (zs.take len)) (lits .u8 (zs.drop len))
      have e : (lits .u8 (zs.take len) : List (DataW H)).length = len := by simp [lits]; omega
      rw [e] at this
      exact Nat.le_trans (Nat.le_succ _) this
    · intro h0
      rw [hlen] at h0
      have hc0 := hcell 0 (by omega)
      rw [show a.add 0 = a by unfold Addr.add; simp] at hc0
      obtain ⟨b, o, rfl⟩ := spot_none hc0
      refine ⟨b, o, rfl, Nat.zero_le _, World.block_lt_of_cell? w _ hc0, fun i hi => ?_⟩
      rw [hlen] at hi
      have hci := hcell i (by omega)
      rw [Lib.addr_add] at hci
      rw [hci]
      have hiz : i < zs.length := by omega
      have e1 : ((zs.take len).map fun z => UInt8.ofNat z.toNat).getD i 0 = UInt8.ofNat (zs.getD i 0).toNat := by
        simp [List.getD, hi, hiz]
      rw [e1]
      have hw := hwz (zs.getD i 0) (by simp [List.getD, hiz])
      rw [u8_wf hw]

/-- The things' cells: a sort, a number and bytes in each. -/
def Dfs (w : World) (A : Option Addr) (n lim : Nat) : Prop :=
  0 < n → ∃ b o, A = some ⟨b, o, none⟩ ∧ b < w.heap.size ∧ ∀ i, i < n → ∃ (s m : Int) (B : Option Addr) (l : List UInt8) (c : Nat), (-9223372036854775808 ≤ m ∧ m ≤ 9223372036854775807) ∧ l.length ≤ lim ∧ l.length ≤ c ∧ c ≤ maxLen ∧ Rd w 0 w.heap.size B l ∧
    w.cell? ⟨b, o + i * 3, none⟩ = some (.int .i64 s) ∧ w.cell? ⟨b, o + i * 3 + 1, none⟩ = some (.int .i64 m) ∧ w.cell? ⟨b, o + i * 3 + 2, none⟩ = some (.slice B l.length c)
theorem Dfs.wide {w : World} {A : Option Addr} {n lim lim' : Nat} (h : Dfs w A n lim) (hl : lim ≤ lim') : Dfs w A n lim' := fun h0 => by
  obtain ⟨b, o, hA, hb, hi⟩ := h h0
  refine ⟨b, o, hA, hb, fun i hin => ?_⟩
  obtain ⟨s, m, B, l, c, z1, z2, z⟩ := hi i hin
  exact ⟨s, m, B, l, c, z1, Nat.le_trans z2 hl, z⟩

theorem open_things {H : Type} {enc : TypeId × Value → H} {P : Program} {w : World} {base t e e8 : Nat} {r : Reach} {b0 : Nat} {spare : Nat → Bool} {held : Bool} {v : Value} {d : DataW H} {p : List MemPlace} {f0 f1 f2 : Field}
    (ht : P.underlying t = some (.slice e)) (he : P.underlying e = some (.struct #[f0, f1, f2])) (o0 : f0.offset = 0) (o1 : f1.offset = 1) (o2 : f2.offset = 2) (c0 : P.cellsOf f0.type = 1) (c1 : P.cellsOf f1.type = 1) (c2 : P.cellsOf f2.type = 1) (u0 : P.underlying f0.type = some (.int .i64)) (u1 : P.underlying f1.type = some (.int .i64)) (u2 : P.underlying f2.type = some (.slice e8)) (h8 : P.underlying e8 = some (.int .u8)) (h81 : P.cellsOf e8 = 1) (hC : P.cellsOf e = 3)
    (hv : Value.okWide P w r b0 t v) (h : DataW.Trod enc P w base spare held t v d p) : ∃ (D : Option Addr) (n k : Nat), v = .slice D n k ∧ n ≤ k ∧ k ≤ maxLen ∧ Dfs w D n (Rows.uptoBulk d) := by
  obtain ⟨a0, len, cap, rfl⟩ := okWide_slice ht hv
  obtain ⟨fuel, hf⟩ := h
  rcases Go.Deep.open_slice ht hf with ⟨hcs, -⟩ | ⟨a, len', cap', m, n, Df, Pl, hcs, -, hl, hm, hmm, hx, hi⟩
  · simp [Value.cells] at hcs
    obtain ⟨rfl, rfl, rfl⟩ := hcs
    exact ⟨none, 0, 0, rfl, Nat.le_refl _, by unfold maxLen; omega, fun h0 => absurd h0 (by omega)⟩
  · simp [Value.cells] at hcs
    obtain ⟨rfl, rfl, rfl⟩ := hcs
    have hlm : len ≤ m := by rw [hmm]; split <;> omega
    have key : ∀ i, i < len → ∃ (s q : Int) (B : Option Addr) (l : List UInt8) (c : Nat), (-9223372036854775808 ≤ q ∧ q ≤ 9223372036854775807) ∧ l.length ≤ Rows.uptoBulk d ∧ l.length ≤ c ∧ c ≤ maxLen ∧ Rd w 0 w.heap.size B l ∧
        w.cell? (a.add (i * 3)) = some (.int .i64 s) ∧ w.cell? (a.add (i * 3 + 1)) = some (.int .i64 q) ∧ w.cell? (a.add (i * 3 + 2)) = some (.slice B l.length c) := by
      intro i hil
      obtain ⟨cs', hc, htr⟩ := hi i (by omega)
      rw [hC] at hc
      obtain ⟨_, hcl, hat⟩ := World.cells?_some hc
      obtain ⟨y0, y1, y2, n', hxa, -, h0, h1, h2⟩ := Go.Deep.trod_struct3 he htr
      rw [o0, c0] at h0
      rw [o1, c1] at h1
      rw [o2, c2] at h2
      match cs', hcl with
      | [x0, x1, x2], _ =>
        obtain ⟨s, hs, -⟩ := DataW.trod_int u0 h0
        obtain ⟨q, hq, -, hqw⟩ := DataW.trod_int u1 h1
        obtain ⟨B, l, c, hb, hlc, hcm, hbk, hr⟩ := open_cell_bytes u2 h8 h81 (v := x2) h2
        have e0 := hat 0 (by omega)
        have e1 := hat 1 (by omega)
        have e2 := hat 2 (by omega)
        rw [Go.Deep.add_add] at e0 e1 e2
        simp at hs hq e0 e1 e2
        refine ⟨s, q, B, l, c, i64_wf hqw, ?_, hlc, hcm, hr, ?_, ?_, ?_⟩
        · have ha : Df i = .agg [y0.1, y1.1, y2.1] := congrArg Prod.fst hxa
          have k1 : Rows.uptoBulk y2.1 ≤ Rows.uptoBulk (Df i) := by rw [ha]; exact bulk_agg_mem (by simp)
          have hd : d = .slice ((List.range len).map Df) ((List.range (m - len)).map fun j => Df (len + j)) := congrArg Prod.fst hx
          have k2 : Rows.uptoBulk (Df i) ≤ Rows.uptoBulk d := by rw [hd]; exact bulk_slice_mem _ (List.mem_map.2 ⟨i, by simp [hil], rfl⟩)
          omega
        · rw [e0, hs]
        · rw [e1, hq]
        · rw [e2, hb]
    refine ⟨some a, len, cap, rfl, hl, hm, fun h0 => ?_⟩
    obtain ⟨s, q, B, l, c, -, -, -, -, -, hc0, -⟩ := key 0 h0
    rw [show a.add (0 * 3) = a by unfold Addr.add; simp] at hc0
    obtain ⟨b, o, rfl⟩ := spot_none hc0
    refine ⟨b, o, rfl, World.block_lt_of_cell? w _ hc0, fun i hil => ?_⟩
    obtain ⟨s, q, B, l, c, z1, z2, z3, z4, z5, k0, k1, k2⟩ := key i hil
    rw [Lib.addr_add] at k0 k1 k2
    exact ⟨s, q, B, l, c, z1, z2, z3, z4, z5, k0, by rw [Nat.add_assoc]; exact k1, by rw [Nat.add_assoc]; exact k2⟩

end Go.Proofs.YtmklmjggichfhaaDoor

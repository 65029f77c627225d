/-
  Kps: WireKeeps's walk.
-/
import Derived.Test.YtmklmjggichfhaaGreatDoorOvr
import Derived.Test.YtmklmjggichfhaaGreatDoorApw
import Derived.Test.YtmklmjggichfhaaGreatDoorFrn
import Derived.Test.YtmklmjggichfhaaGreatDoorRfh
import Derived.Test.YtmklmjggichfhaaGreatDoorRfs
import Derived.Test.YtmklmjggichfhaaGreatDoorRfw
namespace Go.Proofs.YtmklmjggichfhaaGreatDoor
open Go.RowKit

/-- What Unframe answers of bytes, or nothing. -/
def unfB (b : List UInt8) : List UInt8 := (unframe b).getD []
theorem unframed_row {b : List UInt8} {w w' : World} {e : Ending} (h : Unframed b w e w') : ∃ (A : Option Addr) (c : Nat) (z1 z2 : Int), e = .returned (.tuple #[.slice A (unfB b).length c, .int .i64 z1, .int .i64 z2]) ∧ w'.ownsRow w.heap.size 5 1 (.slice A (unfB b).length c) (unfB b).length (bv (unfB b)) ∧ Fr NoB w w' := by
  obtain ⟨h1, h2⟩ := h
  unfold unfB
  cases hu : unframe b with
  | none =>
    rw [hu] at h1
    exact ⟨none, 0, _, _, h1, World.ownsRow_nil _ _ _ _, h2⟩
  | some x =>
    rw [hu] at h1
    obtain ⟨v, h1, ho⟩ := h1
    obtain ⟨A, c, rfl, -, -⟩ := own_form4 ho
    exact ⟨A, c, _, _, h1, ho, h2⟩
theorem framed_row {b : List UInt8} {w w' : World} {e : Ending} (h : Framed b w e w') : ∃ (A : Option Addr) (c : Nat), e = .returned (.tuple #[.slice A (frameB b).length c, .int .i64 0]) ∧ w'.ownsRow w.heap.size 5 1 (.slice A (frameB b).length c) (frameB b).length (bv (frameB b)) ∧ Fr NoB w w' := by
  obtain ⟨v, h1, ho, h2⟩ := h
  obtain ⟨A, c, rfl, -, -⟩ := own_form4 ho
  exact ⟨A, c, h1, ho, h2⟩
/-- A row of the call's own in a part of memory of its own. -/
structure Rw (w : World) (lo hi : Nat) (A : Option Addr) (c : Nat) (l : List UInt8) : Prop where
  own : w.ownsRow lo 5 1 (.slice A l.length c) l.length (bv l)
  hi : ∀ g, (Value.slice A l.length c).ownBlock = some g → g < hi
theorem Rw.new {w w' : World} {A : Option Addr} {c : Nat} {l : List UInt8} (h : w'.ownsRow w.heap.size 5 1 (.slice A l.length c) l.length (bv l)) : Rw w' w.heap.size w'.heap.size A c l := ⟨h, fun g hg => (h.lt g hg).2⟩
theorem Rw.fr {M : Nat → Prop} {w w' : World} {lo hi : Nat} {A : Option Addr} {c : Nat} {l : List UInt8} (h : Rw w lo hi A c l) (f : Fr M w w') (hm : ∀ g, lo ≤ g → g < hi → ¬ M g) : Rw w' lo hi A c l :=
  ⟨own_keep h.own fun g hg => f.block g (h.own.lt g hg).2 (hm g (h.own.lt g hg).1 (h.hi g hg)), h.hi⟩
theorem Rw.no {w w' : World} {lo hi : Nat} {A : Option Addr} {c : Nat} {l : List UInt8} (h : Rw w lo hi A c l) (f : Fr NoB w w') : Rw w' lo hi A c l := h.fr f fun _ _ _ x => x
theorem Rw.rd {w : World} {lo hi : Nat} {A : Option Addr} {c : Nat} {l : List UInt8} (h : Rw w lo hi A c l) : Rd w lo w.heap.size A l := own_rd h.own
theorem Rd.pre {w : World} {lo hi : Nat} {A : Option Addr} {a b : List UInt8} (h : Rd w lo hi A (a ++ b)) : Rd w lo hi A a := by
  have := h.take (n := a.length)
  rwa [List.take_left' rfl] at this
theorem Rd.narrow {w : World} {lo hi hi' c : Nat} {A : Option Addr} {l : List UInt8} {m : Nat} (h : Rd w lo hi A l) (hh : ∀ g, (Value.slice A m c).ownBlock = some g → g < hi') : Rd w lo hi' A l := fun hl => by
  obtain ⟨b, o, rfl, h1, h2, hc⟩ := h hl
  exact ⟨b, o, rfl, h1, hh b rfl, hc⟩
theorem frameB_len2 (l : List UInt8) : (frameB l).length = 8 + l.length := by simp [frameB, fourB]; omega
theorem unfB_len (b : List UInt8) : (unfB b).length ≤ b.length := by
  unfold unfB unframe
  split
  · simp
  · split
    · simp
    · split
      · simp; omega
      · simp
theorem rBytes_short (b : List UInt8) (m : Int) : (rBytes (some b) m).1.length ≤ b.length := by
  unfold rBytes rCount rInt
  cases hn : numAt 0 0 b with
  | none => simp only [hn]; split <;> simp [tk]
  | some x =>
    obtain ⟨u, r⟩ := x
    have h1 := numAt_len hn
    simp only [hn]
    split
    · simp [tk]
    · simp only [tk]
      split
      · simp; omega
      · simp
theorem Rw.apart {w : World} {lo hi lo' hi' c c' : Nat} {A A' : Option Addr} {l l' : List UInt8} (h : Rw w lo hi A c l) (h' : Rw w lo' hi' A' c' l') (hh : hi ≤ lo' ∨ hi' ≤ lo) : ∀ g, (Value.slice A l.length c).ownBlock = some g → (Value.slice A' l'.length c').ownBlock ≠ some g := fun g hg hg' => by
  have h1 := (h.own.lt g hg).1
  have h2 := h.hi g hg
  have h3 := (h'.own.lt g hg').1
  have h4 := h'.hi g hg'
  omega
set_option maxHeartbeats 1600000 in
theorem apart7 {y : World} {A0 A1 A2 A3 A4 A5 A6 : Option Addr} {c0 c1 c2 c3 c4 c5 c6 : Nat} {l0 l1 l2 l3 l4 l5 l6 : List UInt8} {a0 b0 a1 b1 a2 b2 a3 b3 a4 b4 a5 b5 a6 b6 : Nat} (w : World) (h0 : Rw y a0 b0 A0 c0 l0) (h1 : Rw y a1 b1 A1 c1 l1) (h2 : Rw y a2 b2 A2 c2 l2) (h3 : Rw y a3 b3 A3 c3 l3) (h4 : Rw y a4 b4 A4 c4 l4) (h5 : Rw y a5 b5 A5 c5 l5) (h6 : Rw y a6 b6 A6 c6 l6) (F : Fr NoB w y) (hB : w.heap.size ≤ a2) (e2 : a2 ≤ b2) (e3 : b2 ≤ a3) (e4 : a3 ≤ b3) (e5 : b3 ≤ a4) (e6 : a4 ≤ b4) (e7 : b4 ≤ a5) (e8 : a5 ≤ b5) (e9 : b5 ≤ a0) (e10 : a0 ≤ b0) (e11 : b0 ≤ a1) (e12 : a1 ≤ b1) (e13 : b1 ≤ a6) (q0 : l0.length ≤ 100000) (q1 : l1.length ≤ 100000) (q2 : l2.length ≤ 100000) (q3 : l3.length ≤ 100000) (q4 : l4.length ≤ 100000) (q5 : l5.length ≤ 100000) (q6 : l6.length ≤ 100000) :
    Calls Tryz.prog 25 #[.slice (some ⟨y.heap.size, 0, none⟩) 7 7] (y.alloc (.cells #[.slice A0 l0.length c0, .slice A1 l1.length c1, .slice A2 l2.length c2, .slice A3 l3.length c3, .slice A4 l4.length c4, .slice A5 l5.length c5, .slice A6 l6.length c6] 22)) fun e w' => e = .returned (.bool true) ∧ Fr NoB w w' := by
  have hfa := (Fr.refl NoB y).alloc (.cells #[.slice A0 l0.length c0, .slice A1 l1.length c1, .slice A2 l2.length c2, .slice A3 l3.length c3, .slice A4 l4.length c4, .slice A5 l5.length c5, .slice A6 l6.length c6] 22)
  have hcell := heap_alloc_new y (.cells #[.slice A0 l0.length c0, .slice A1 l1.length c1, .slice A2 l2.length c2, .slice A3 l3.length c3, .slice A4 l4.length c4, .slice A5 l5.length c5, .slice A6 l6.length c6] 22)
  have hap := apartb_calls (some ⟨y.heap.size, 0, none⟩) 7 7 w.heap.size (fun k => ([.slice A0 l0.length c0, .slice A1 l1.length c1, .slice A2 l2.length c2, .slice A3 l3.length c3, .slice A4 l4.length c4, .slice A5 l5.length c5, .slice A6 l6.length c6] : List Value).getD k (.slice none 0 0)) (fun k => (([l0, l1, l2, l3, l4, l5, l6] : List (List UInt8)).getD k []).length) (fun k => ([l0, l1, l2, l3, l4, l5, l6] : List (List UInt8)).getD k []) (y.alloc (.cells #[.slice A0 l0.length c0, .slice A1 l1.length c1, .slice A2 l2.length c2, .slice A3 l3.length c3, .slice A4 l4.length c4, .slice A5 l5.length c5, .slice A6 l6.length c6] 22))
    ⟨_, 0, rfl, by simp, fun k hk => by
      rcases (show k = 0 ∨ k = 1 ∨ k = 2 ∨ k = 3 ∨ k = 4 ∨ k = 5 ∨ k = 6 by omega) with rfl | rfl | rfl | rfl | rfl | rfl | rfl
      · exact Lib.cell_of_heap hcell 0
      · exact Lib.cell_of_heap hcell 1
      · exact Lib.cell_of_heap hcell 2
      · exact Lib.cell_of_heap hcell 3
      · exact Lib.cell_of_heap hcell 4
      · exact Lib.cell_of_heap hcell 5
      · exact Lib.cell_of_heap hcell 6⟩
    (fun k hk => by
      rcases (show k = 0 ∨ k = 1 ∨ k = 2 ∨ k = 3 ∨ k = 4 ∨ k = 5 ∨ k = 6 by omega) with rfl | rfl | rfl | rfl | rfl | rfl | rfl
      · exact own_keep (own_base h0.own (by omega)) fun g hg => hfa.block g (h0.own.lt g hg).2 (fun x => x)
      · exact own_keep (own_base h1.own (by omega)) fun g hg => hfa.block g (h1.own.lt g hg).2 (fun x => x)
      · exact own_keep (own_base h2.own (by omega)) fun g hg => hfa.block g (h2.own.lt g hg).2 (fun x => x)
      · exact own_keep (own_base h3.own (by omega)) fun g hg => hfa.block g (h3.own.lt g hg).2 (fun x => x)
      · exact own_keep (own_base h4.own (by omega)) fun g hg => hfa.block g (h4.own.lt g hg).2 (fun x => x)
      · exact own_keep (own_base h5.own (by omega)) fun g hg => hfa.block g (h5.own.lt g hg).2 (fun x => x)
      · exact own_keep (own_base h6.own (by omega)) fun g hg => hfa.block g (h6.own.lt g hg).2 (fun x => x))
    (fun i j hi hj hij => by
      rcases (show i = 0 ∨ i = 1 ∨ i = 2 ∨ i = 3 ∨ i = 4 ∨ i = 5 ∨ i = 6 by omega) with rfl | rfl | rfl | rfl | rfl | rfl | rfl
      · rcases (show j = 0 ∨ j = 1 ∨ j = 2 ∨ j = 3 ∨ j = 4 ∨ j = 5 ∨ j = 6 by omega) with rfl | rfl | rfl | rfl | rfl | rfl | rfl
        · exact absurd rfl hij
        · exact h0.apart h1 (by omega)
        · exact h0.apart h2 (by omega)
        · exact h0.apart h3 (by omega)
        · exact h0.apart h4 (by omega)
        · exact h0.apart h5 (by omega)
        · exact h0.apart h6 (by omega)
      · rcases (show j = 0 ∨ j = 1 ∨ j = 2 ∨ j = 3 ∨ j = 4 ∨ j = 5 ∨ j = 6 by omega) with rfl | rfl | rfl | rfl | rfl | rfl | rfl
        · exact h1.apart h0 (by omega)
        · exact absurd rfl hij
        · exact h1.apart h2 (by omega)
        · exact h1.apart h3 (by omega)
        · exact h1.apart h4 (by omega)
        · exact h1.apart h5 (by omega)
        · exact h1.apart h6 (by omega)
      · rcases (show j = 0 ∨ j = 1 ∨ j = 2 ∨ j = 3 ∨ j = 4 ∨ j = 5 ∨ j = 6 by omega) with rfl | rfl | rfl | rfl | rfl | rfl | rfl
        · exact h2.apart h0 (by omega)
        · exact h2.apart h1 (by omega)
        · exact absurd rfl hij
        · exact h2.apart h3 (by omega)
        · exact h2.apart h4 (by omega)
        · exact h2.apart h5 (by omega)
        · exact h2.apart h6 (by omega)
      · rcases (show j = 0 ∨ j = 1 ∨ j = 2 ∨ j = 3 ∨ j = 4 ∨ j = 5 ∨ j = 6 by omega) with rfl | rfl | rfl | rfl | rfl | rfl | rfl
        · exact h3.apart h0 (by omega)
        · exact h3.apart h1 (by omega)
        · exact h3.apart h2 (by omega)
        · exact absurd rfl hij
        · exact h3.apart h4 (by omega)
        · exact h3.apart h5 (by omega)
        · exact h3.apart h6 (by omega)
      · rcases (show j = 0 ∨ j = 1 ∨ j = 2 ∨ j = 3 ∨ j = 4 ∨ j = 5 ∨ j = 6 by omega) with rfl | rfl | rfl | rfl | rfl | rfl | rfl
        · exact h4.apart h0 (by omega)
        · exact h4.apart h1 (by omega)
        · exact h4.apart h2 (by omega)
        · exact h4.apart h3 (by omega)
        · exact absurd rfl hij
        · exact h4.apart h5 (by omega)
        · exact h4.apart h6 (by omega)
      · rcases (show j = 0 ∨ j = 1 ∨ j = 2 ∨ j = 3 ∨ j = 4 ∨ j = 5 ∨ j = 6 by omega) with rfl | rfl | rfl | rfl | rfl | rfl | rfl
        · exact h5.apart h0 (by omega)
        · exact h5.apart h1 (by omega)
        · exact h5.apart h2 (by omega)
        · exact h5.apart h3 (by omega)
        · exact h5.apart h4 (by omega)
        · exact absurd rfl hij
        · exact h5.apart h6 (by omega)
      · rcases (show j = 0 ∨ j = 1 ∨ j = 2 ∨ j = 3 ∨ j = 4 ∨ j = 5 ∨ j = 6 by omega) with rfl | rfl | rfl | rfl | rfl | rfl | rfl
        · exact h6.apart h0 (by omega)
        · exact h6.apart h1 (by omega)
        · exact h6.apart h2 (by omega)
        · exact h6.apart h3 (by omega)
        · exact h6.apart h4 (by omega)
        · exact h6.apart h5 (by omega)
        · exact absurd rfl hij)
    (Nat.le_trans F.size hfa.size) (by decide) (by decide) (fun k hk => by
      rcases (show k = 0 ∨ k = 1 ∨ k = 2 ∨ k = 3 ∨ k = 4 ∨ k = 5 ∨ k = 6 by omega) with rfl | rfl | rfl | rfl | rfl | rfl | rfl
      · exact Nat.le_trans q0 (by decide)
      · exact Nat.le_trans q1 (by decide)
      · exact Nat.le_trans q2 (by decide)
      · exact Nat.le_trans q3 (by decide)
      · exact Nat.le_trans q4 (by decide)
      · exact Nat.le_trans q5 (by decide)
      · exact Nat.le_trans q6 (by decide))
  refine hap.mono ?_
  rintro e w' ⟨rfl, f⟩
  refine ⟨rfl, (F.then hfa).upE f (fun g hg => ?_)⟩
  obtain ⟨k, hk, hx⟩ := hg
  rcases (show k = 0 ∨ k = 1 ∨ k = 2 ∨ k = 3 ∨ k = 4 ∨ k = 5 ∨ k = 6 by omega) with rfl | rfl | rfl | rfl | rfl | rfl | rfl
  · have := (h0.own.lt g hx).1; omega
  · have := (h1.own.lt g hx).1; omega
  · have := (h2.own.lt g hx).1; omega
  · have := (h3.own.lt g hx).1; omega
  · have := (h4.own.lt g hx).1; omega
  · have := (h5.own.lt g hx).1; omega
  · have := (h6.own.lt g hx).1; omega
/- WALK -/
theorem wf_lt {w : World} {p : Nat} {G : Option Nat} {l : List UInt8} (h : Wtr w p G l) {k : Nat} (hk : WF p G k) : k < w.heap.size := h.lt hk

set_option maxRecDepth 12000 in
set_option maxHeartbeats 12800000 in
theorem keeps_walk (A : Option Addr) (b : List UInt8) (c : Nat) (n : Int) (w : World) (h : Rd w 0 w.heap.size A b) (hl : b.length ≤ 140737488355328) (hc : b.length ≤ c) (hcm : c ≤ maxLen) (hn1 : -9223372036854775808 ≤ n) (hn2 : n ≤ 9223372036854775807) :
    Calls Tryz.prog 3 #[.slice A b.length c, .int .i64 n] w fun e w' => e = .returned (.bool true) ∧ Fr NoB w w' := by
  have hll : (b.length : Int) ≤ 140737488355328 := by omega
  have HB := Lib.hid h
  have HC := Lib.hid hc
  have HCM := Lib.hid hcm
  clear h hc hcm
  go_enter Tryz.func3, Tryz.ntmps3
  by_cases hbig : 4000 < b.length
  · have hi : (4000 : Int) < (b.length : Int) := by omega
    clear hbig
    go_wp2_with (fail)
    refine (awake_calls _).mono ?_
    rintro e w1 ⟨rfl, f1⟩
    have F1 := Lib.hid f1
    clear f1
    go_wp2
    go_ret
    exact ⟨rfl, F1.out⟩
  · have hi : (b.length : Int) ≤ 4000 := by omega
    have hlb : b.length ≤ 4000 := by omega
    clear hbig
    go_wp2_with (fail)
    refine (lentb_own A b c 0 w.heap.size w HB.out (Nat.le_refl _) (by omega)).mono ?_
    rintro e w1 ⟨J, ic, rfl, hic, hicm, o1, f1⟩
    have hJl : (b ++ mksB 12).length = b.length + 12 := by simp
    have I1 := Lib.hid (show Rw w1 w.heap.size w1.heap.size J ic (b ++ mksB 12) from Rw.new (by rw [hJl]; exact o1))
    have T1 := Lib.hid f1
    have Z1 := Lib.hid f1.size
    have HIC := Lib.hid hic
    have HICM := Lib.hid hicm
    clear o1 f1 hic hicm hJl
    go_wp2_with (fail)
    refine (wNew _).mono ?_
    rintro e w2 ⟨rfl, a2, f2, -⟩
    have T1z := Lib.hid (show w.heap.size ≤ w1.heap.size from T1.out.size)
    have I2 := Lib.hid (I1.out.no f2)
    clear I1
    have T2 := Lib.hid (T1.out.then f2)
    clear T1
    have Z2 := Lib.hid f2.size
    have W2 := Lib.hid a2
    clear a2 f2
    have HPlt := Lib.hid (wf_lt W2.out (k := w1.heap.size) (.inl rfl))
    generalize hpp : w1.heap.size = p at W2 HPlt I2
    have HPP := Lib.hid hpp
    clear hpp
    go_wp2_with (fail)
    refine (wBytes p none [] b J ic w.heap.size p w2 W2.out (by simp; omega) (I2.out.rd.pre.narrow I2.out.hi) (Nat.le_of_lt HPlt.out) (fun k h1 h2 hk => by rcases hk with rfl | hk <;> first | omega | cases hk)).mono ?_
    rintro e w3 ⟨rfl, G, a3, f3, g3⟩
    rw [List.nil_append] at a3
    have W3 := Lib.hid a3
    have I3 := Lib.hid (I2.out.fr f3 (fun g h1 h2 hk => by rcases hk with rfl | hk <;> first | omega | cases hk))
    have T3 := Lib.hid (T2.out.upE f3 (fun k hk => by rcases hk with rfl | hk <;> first | (have := HPP.out; have := T1z.out; omega) | cases hk))
    have Z3 := Lib.hid f3.size
    have HWG := Lib.hid (fun k (hk : WF p G k) => (show p ≤ k from by
      rcases g3 k hk with hx | hx
      · rcases hx with rfl | hx <;> first | exact Nat.le_refl _ | cases hx
      · have := HPlt.out; omega))
    have HW3 := Lib.hid (fun k (hk : WF p G k) => wf_lt W3.out hk)
    clear a3 f3 g3 W2 I2 T2
    go_wp2_with (fail)
    refine (rNew_calls J b ic w.heap.size p w3 (I3.out.rd.pre.narrow I3.out.hi) (by omega)).mono ?_
    rintro e w4 ⟨pr, rfl, h1, a4, f4, -⟩
    have HRL := Lib.hid h1
    have I4 := Lib.hid (I3.out.no f4)
    clear I3
    have T4 := Lib.hid (T3.out.then f4)
    clear T3
    have W4 := Lib.hid (W3.out.fr f4 (fun _ _ x => x))
    clear W3
    have Z4 := Lib.hid f4.size
    have R4 := Lib.hid a4
    have HRlt := Lib.hid a4.lt
    clear a4 f4 h1
    have HPS : Hid (p ≤ w3.heap.size) := by have h1 := HPlt.out; have h2 := Z3.out; show p ≤ w3.heap.size; omega
    have LO3 : Hid (w3.heap.size ≤ w3.heap.size) := Nat.le_refl _
    have LO4 : Hid (w3.heap.size ≤ w4.heap.size) := Z4.out
    go_wp2_with (fail)
    refine (frame_calls J b ic w.heap.size p w4 (I4.out.rd.pre.narrow I4.out.hi) (Nat.le_trans HPS.out LO4.out) (by omega)).mono ?_
    rintro e w5 hfr
    obtain ⟨BrF, crF, rfl, o5, f5⟩ := framed_row hfr
    clear hfr
    have I5 := Lib.hid (I4.out.no f5)
    clear I4
    have T5 := Lib.hid (T4.out.then f5)
    clear T4
    have W5 := Lib.hid (W4.out.fr f5 (fun _ _ x => x))
    clear W4
    have R5 := Lib.hid (R4.out.fr f5 (fun _ _ _ x => x) HRL.out)
    clear R4
    have Z5 := Lib.hid f5.size
    have rF5 := Lib.hid (Rw.new o5)
    clear o5 f5
    have LO5 : Hid (w3.heap.size ≤ w5.heap.size) := Nat.le_trans LO4.out Z5.out
    go_wp2_with (fail)
    refine (frame_calls J b ic w.heap.size p w5 (I5.out.rd.pre.narrow I5.out.hi) (Nat.le_trans HPS.out LO5.out) (by omega)).mono ?_
    rintro e w6 hfr
    obtain ⟨BrG, crG, rfl, o6, f6⟩ := framed_row hfr
    clear hfr
    have I6 := Lib.hid (I5.out.no f6)
    clear I5
    have T6 := Lib.hid (T5.out.then f6)
    clear T5
    have W6 := Lib.hid (W5.out.fr f6 (fun _ _ x => x))
    clear W5
    have R6 := Lib.hid (R5.out.fr f6 (fun _ _ _ x => x) HRL.out)
    clear R5
    have rF6 := Lib.hid (rF5.out.no f6)
    clear rF5
    have Z6 := Lib.hid f6.size
    have rG6 := Lib.hid (Rw.new o6)
    clear o6 f6
    have LO6 : Hid (w3.heap.size ≤ w6.heap.size) := Nat.le_trans LO5.out Z6.out
    go_wp2_with (fail)
    refine (unframe_calls J b ic w.heap.size p w6 (I6.out.rd.pre.narrow I6.out.hi) (Nat.le_trans HPS.out LO6.out) (by have := HIC.out; omega) HICM.out (by omega)).mono ?_
    rintro e w7 hfr
    obtain ⟨BrX, crX, z7a, z7b, rfl, o7, f7⟩ := unframed_row hfr
    clear hfr
    have I7 := Lib.hid (I6.out.no f7)
    clear I6
    have T7 := Lib.hid (T6.out.then f7)
    clear T6
    have W7 := Lib.hid (W6.out.fr f7 (fun _ _ x => x))
    clear W6
    have R7 := Lib.hid (R6.out.fr f7 (fun _ _ _ x => x) HRL.out)
    clear R6
    have rF7 := Lib.hid (rF6.out.no f7)
    clear rF6
    have rG7 := Lib.hid (rG6.out.no f7)
    clear rG6
    have Z7 := Lib.hid f7.size
    have rX7 := Lib.hid (Rw.new o7)
    clear o7 f7
    have LO7 : Hid (w3.heap.size ≤ w7.heap.size) := Nat.le_trans LO6.out Z7.out
    go_wp2_with (fail)
    refine (unframe_calls J b ic w.heap.size p w7 (I7.out.rd.pre.narrow I7.out.hi) (Nat.le_trans HPS.out LO7.out) (by have := HIC.out; omega) HICM.out (by omega)).mono ?_
    rintro e w8 hfr
    obtain ⟨BrY, crY, z8a, z8b, rfl, o8, f8⟩ := unframed_row hfr
    clear hfr
    have I8 := Lib.hid (I7.out.no f8)
    clear I7
    have T8 := Lib.hid (T7.out.then f8)
    clear T7
    have W8 := Lib.hid (W7.out.fr f8 (fun _ _ x => x))
    clear W7
    have R8 := Lib.hid (R7.out.fr f8 (fun _ _ _ x => x) HRL.out)
    clear R7
    have rF8 := Lib.hid (rF7.out.no f8)
    clear rF7
    have rG8 := Lib.hid (rG7.out.no f8)
    clear rG7
    have rX8 := Lib.hid (rX7.out.no f8)
    clear rX7
    have Z8 := Lib.hid f8.size
    have rY8 := Lib.hid (Rw.new o8)
    clear o8 f8
    have LO8 : Hid (w3.heap.size ≤ w8.heap.size) := Nat.le_trans LO7.out Z8.out
    go_wp2_with (fail)
    refine (sum_calls J b ic w.heap.size p w8 (I8.out.rd.pre.narrow I8.out.hi) (Nat.le_trans HPS.out LO8.out) (by omega)).mono ?_
    rintro e w9 ⟨rfl, f9⟩
    have I9 := Lib.hid (I8.out.no f9)
    clear I8
    have T9 := Lib.hid (T8.out.then f9)
    clear T8
    have W9 := Lib.hid (W8.out.fr f9 (fun _ _ x => x))
    clear W8
    have R9 := Lib.hid (R8.out.fr f9 (fun _ _ _ x => x) HRL.out)
    clear R8
    have rF9 := Lib.hid (rF8.out.no f9)
    clear rF8
    have rG9 := Lib.hid (rG8.out.no f9)
    clear rG8
    have rX9 := Lib.hid (rX8.out.no f9)
    clear rX8
    have rY9 := Lib.hid (rY8.out.no f9)
    clear rY8
    have Z9 := Lib.hid f9.size
    clear f9
    go_wp2_with (fail)
    refine (keptb_calls A J b c ic 0 w.heap.size w.heap.size p w9 (I9.out.rd.narrow I9.out.hi) (Nat.le_trans HPS.out (Nat.le_trans LO8.out Z9.out)) (HB.out.fr T9.out (Nat.le_refl _) (fun _ _ _ x => x)) T9.out.size (by omega) HIC.out).mono ?_
    rintro e w10 ⟨rfl, f10⟩
    have I10 := Lib.hid (I9.out.no f10)
    clear I9
    have T10 := Lib.hid (T9.out.then f10)
    clear T9
    have W10 := Lib.hid (W9.out.fr f10 (fun _ _ x => x))
    clear W9
    have R10 := Lib.hid (R9.out.fr f10 (fun _ _ _ x => x) HRL.out)
    clear R9
    have rF10 := Lib.hid (rF9.out.no f10)
    clear rF9
    have rG10 := Lib.hid (rG9.out.no f10)
    clear rG9
    have rX10 := Lib.hid (rX9.out.no f10)
    clear rX9
    have rY10 := Lib.hid (rY9.out.no f10)
    clear rY9
    have Z10 := Lib.hid f10.size
    clear f10
    go_wp2_with (fail)
    refine (overb_calls w.heap.size b.length ic J (bv (b ++ mksB 12)) w10 (by have h := I10.out.own; rw [show (b ++ mksB 12).length = b.length + 12 by simp] at h; exact h) (by omega) HIC.out HICM.out).mono ?_
    rintro e w11 ⟨rfl, f11⟩
    have hIh : ∀ g, (Value.slice J (b.length + 12) ic).ownBlock = some g → w.heap.size ≤ g ∧ g < p := fun g hg => by
      have h1 := I10.out.own
      have h2 := I10.out.hi
      rw [show (b ++ mksB 12).length = b.length + 12 by simp] at h1 h2
      exact ⟨(h1.lt g hg).1, h2 g hg⟩
    clear I10
    have T11 := Lib.hid (T10.out.upE f11 (fun k hk => (hIh k hk).1))
    clear T10
    have W11 := Lib.hid (W10.out.fr f11 (fun k hk hx => by have h3 := (hIh k hx).2; have h4 := HWG.out k hk; omega))
    clear W10
    have R11 := Lib.hid (R10.out.fr f11 (fun k h1 h2 hx => by have h3 := (hIh k hx).2; have := HPS.out; omega) HRL.out)
    clear R10
    have rF11 := Lib.hid (rF10.out.fr f11 (fun g h1 h2 hx => by have h3 := (hIh g hx).2; have := HPS.out; have := LO4.out; omega))
    clear rF10
    have rG11 := Lib.hid (rG10.out.fr f11 (fun g h1 h2 hx => by have h3 := (hIh g hx).2; have := HPS.out; have := LO5.out; omega))
    clear rG10
    have rX11 := Lib.hid (rX10.out.fr f11 (fun g h1 h2 hx => by have h3 := (hIh g hx).2; have := HPS.out; have := LO6.out; omega))
    clear rX10
    have rY11 := Lib.hid (rY10.out.fr f11 (fun g h1 h2 hx => by have h3 := (hIh g hx).2; have := HPS.out; have := LO7.out; omega))
    clear rY10
    have Z11 := Lib.hid f11.size
    clear f11 hIh
    go_wp2_with (fail)
    refine (rwNew _).mono ?_
    rintro e w12 ⟨rfl, a12, f12, -⟩
    have HWlt := Lib.hid (fun k (hk : WF p G k) => wf_lt W11.out hk)
    have T12 := Lib.hid (T11.out.then f12)
    clear T11
    have W12 := Lib.hid (W11.out.fr f12 (fun _ _ x => x))
    clear W11
    have R12 := Lib.hid (R11.out.fr f12 (fun _ _ _ x => x) HRL.out)
    clear R11
    have rF12 := Lib.hid (rF11.out.no f12)
    clear rF11
    have rG12 := Lib.hid (rG11.out.no f12)
    clear rG11
    have rX12 := Lib.hid (rX11.out.no f12)
    clear rX11
    have rY12 := Lib.hid (rY11.out.no f12)
    clear rY11
    have Z12 := Lib.hid f12.size
    have V12 := Lib.hid a12
    have HQ0lt := Lib.hid (V12.out.lt (k := w11.heap.size) (.inl rfl))
    clear a12 f12
    have HQW : Hid (∀ k, WF p G k → k < w11.heap.size) := HWlt.out
    generalize hqq : w11.heap.size = q0 at V12 HQ0lt HQW
    have HQQ := Lib.hid hqq
    clear hqq HWlt
    go_wp2_with (fail)
    refine (rwBytes q0 none [] b A c 0 w.heap.size w12 V12.out (by simp; omega) (HB.out.fr T12.out (Nat.le_refl _) (fun _ _ _ x => x))).mono ?_
    rintro e w13 ⟨rfl, G2, a13, f13, g13⟩
    rw [List.nil_append] at a13
    have T13 := Lib.hid (T12.out.upE f13 (fun k hx => by have z1 := Z1.out; have z2 := Z2.out; have z3 := Z3.out; have z4 := Z4.out; have z5 := Z5.out; have z6 := Z6.out; have z7 := Z7.out; have z8 := Z8.out; have z9 := Z9.out; have z10 := Z10.out; have z11 := Z11.out; have hps := HPS.out; have hpl := HPlt.out; have hrl := HRL.out; have hrlt := HRlt.out; have hpp := HPP.out; have hq := HQQ.out; rcases hx with rfl | hx <;> first | omega | cases hx))
    clear T12
    have W13 := Lib.hid (W12.out.fr f13 (fun k hk hx => by have h3 := HQW.out k hk; rcases hx with rfl | hx <;> first | omega | cases hx))
    clear W12
    have R13 := Lib.hid (R12.out.fr f13 (fun k h1 h2 hx => by have z1 := Z1.out; have z2 := Z2.out; have z3 := Z3.out; have z4 := Z4.out; have z5 := Z5.out; have z6 := Z6.out; have z7 := Z7.out; have z8 := Z8.out; have z9 := Z9.out; have z10 := Z10.out; have z11 := Z11.out; have hps := HPS.out; have hpl := HPlt.out; have hrl := HRL.out; have hrlt := HRlt.out; have hpp := HPP.out; have hq := HQQ.out; rcases hx with rfl | hx <;> first | omega | cases hx) HRL.out)
    clear R12
    have rF13 := Lib.hid (rF12.out.fr f13 (fun g h1 h2 hx => by have z1 := Z1.out; have z2 := Z2.out; have z3 := Z3.out; have z4 := Z4.out; have z5 := Z5.out; have z6 := Z6.out; have z7 := Z7.out; have z8 := Z8.out; have z9 := Z9.out; have z10 := Z10.out; have z11 := Z11.out; have hps := HPS.out; have hpl := HPlt.out; have hrl := HRL.out; have hrlt := HRlt.out; have hpp := HPP.out; have hq := HQQ.out; rcases hx with rfl | hx <;> first | omega | cases hx))
    clear rF12
    have rG13 := Lib.hid (rG12.out.fr f13 (fun g h1 h2 hx => by have z1 := Z1.out; have z2 := Z2.out; have z3 := Z3.out; have z4 := Z4.out; have z5 := Z5.out; have z6 := Z6.out; have z7 := Z7.out; have z8 := Z8.out; have z9 := Z9.out; have z10 := Z10.out; have z11 := Z11.out; have hps := HPS.out; have hpl := HPlt.out; have hrl := HRL.out; have hrlt := HRlt.out; have hpp := HPP.out; have hq := HQQ.out; rcases hx with rfl | hx <;> first | omega | cases hx))
    clear rG12
    have rX13 := Lib.hid (rX12.out.fr f13 (fun g h1 h2 hx => by have z1 := Z1.out; have z2 := Z2.out; have z3 := Z3.out; have z4 := Z4.out; have z5 := Z5.out; have z6 := Z6.out; have z7 := Z7.out; have z8 := Z8.out; have z9 := Z9.out; have z10 := Z10.out; have z11 := Z11.out; have hps := HPS.out; have hpl := HPlt.out; have hrl := HRL.out; have hrlt := HRlt.out; have hpp := HPP.out; have hq := HQQ.out; rcases hx with rfl | hx <;> first | omega | cases hx))
    clear rX12
    have rY13 := Lib.hid (rY12.out.fr f13 (fun g h1 h2 hx => by have z1 := Z1.out; have z2 := Z2.out; have z3 := Z3.out; have z4 := Z4.out; have z5 := Z5.out; have z6 := Z6.out; have z7 := Z7.out; have z8 := Z8.out; have z9 := Z9.out; have z10 := Z10.out; have z11 := Z11.out; have hps := HPS.out; have hpl := HPlt.out; have hrl := HRL.out; have hrlt := HRlt.out; have hpp := HPP.out; have hq := HQQ.out; rcases hx with rfl | hx <;> first | omega | cases hx))
    clear rY12
    have V13 := Lib.hid a13
    have Z13 := Lib.hid f13.size
    have HVG := Lib.hid (fun k (hk : WF q0 G2 k) => (show q0 ≤ k from by
      have hq := HQ0lt.out
      rcases g13 k hk with hx | hx
      · rcases hx with rfl | hx <;> first | exact Nat.le_refl _ | cases hx
      · omega))
    have HVlt := Lib.hid (fun k (hk : WF q0 G2 k) => V13.out.lt hk)
    clear a13 f13 g13 V12
    go_wp2_with (fail)
    refine (wDone p G (textB b) w13 W13.out (by have := textB_len b; omega)).mono ?_
    rintro e w14 ⟨v14, rfl, o14, b14⟩
    obtain ⟨BrO, crO, rfl, -, -⟩ := own_form4 o14
    have f14 : Fr NoB w13 w14 := Fr.ofBelow b14
    have T14 := Lib.hid (T13.out.then f14)
    clear T13
    have W14 := Lib.hid (W13.out.fr f14 (fun _ _ x => x))
    clear W13
    have R14 := Lib.hid (R13.out.fr f14 (fun _ _ _ x => x) HRL.out)
    clear R13
    have rF14 := Lib.hid (rF13.out.no f14)
    clear rF13
    have rG14 := Lib.hid (rG13.out.no f14)
    clear rG13
    have rX14 := Lib.hid (rX13.out.no f14)
    clear rX13
    have rY14 := Lib.hid (rY13.out.no f14)
    clear rY13
    have V14 := Lib.hid (V13.out.fr f14 (fun _ _ x => x))
    clear V13
    have Z14 := Lib.hid f14.size
    have rO14 := Lib.hid (Rw.new o14)
    clear o14 f14 b14
    go_wp2_with (fail)
    refine (wDone p G (textB b) w14 W14.out (by have := textB_len b; omega)).mono ?_
    rintro e w15 ⟨v15, rfl, o15, b15⟩
    obtain ⟨BrT, crT, rfl, -, -⟩ := own_form4 o15
    have f15 : Fr NoB w14 w15 := Fr.ofBelow b15
    have T15 := Lib.hid (T14.out.then f15)
    clear T14
    have W15 := Lib.hid (W14.out.fr f15 (fun _ _ x => x))
    clear W14
    have R15 := Lib.hid (R14.out.fr f15 (fun _ _ _ x => x) HRL.out)
    clear R14
    have rF15 := Lib.hid (rF14.out.no f15)
    clear rF14
    have rG15 := Lib.hid (rG14.out.no f15)
    clear rG14
    have rX15 := Lib.hid (rX14.out.no f15)
    clear rX14
    have rY15 := Lib.hid (rY14.out.no f15)
    clear rY14
    have V15 := Lib.hid (V14.out.fr f15 (fun _ _ x => x))
    clear V14
    have rO15 := Lib.hid (rO14.out.no f15)
    clear rO14
    have Z15 := Lib.hid f15.size
    have rT15 := Lib.hid (Rw.new o15)
    clear o15 f15 b15
    go_wp2_with (fail)
    refine (wInt p G (textB b) n w15 hn1 hn2 W15.out (by have := textB_len b; omega)).mono ?_
    rintro e w16 ⟨rfl, G3, -, f16, -⟩
    have T16 := Lib.hid (T15.out.upE f16 (fun k hx => by have z1 := Z1.out; have z2 := Z2.out; have z3 := Z3.out; have z4 := Z4.out; have z5 := Z5.out; have z6 := Z6.out; have z7 := Z7.out; have z8 := Z8.out; have z9 := Z9.out; have z10 := Z10.out; have z11 := Z11.out; have hps := HPS.out; have hpl := HPlt.out; have hrl := HRL.out; have hrlt := HRlt.out; have hpp := HPP.out; have h3 := HWG.out k hx; omega))
    clear T15
    clear W15
    have R16 := Lib.hid (R15.out.fr f16 (fun k h1 h2 hx => by have h3 := HW3.out k hx; omega) HRL.out)
    clear R15
    have rF16 := Lib.hid (rF15.out.fr f16 (fun g h1 h2 hx => by have z1 := Z1.out; have z2 := Z2.out; have z3 := Z3.out; have z4 := Z4.out; have z5 := Z5.out; have z6 := Z6.out; have z7 := Z7.out; have z8 := Z8.out; have z9 := Z9.out; have z10 := Z10.out; have z11 := Z11.out; have hps := HPS.out; have hpl := HPlt.out; have hrl := HRL.out; have hrlt := HRlt.out; have hpp := HPP.out; have z12 := Z12.out; have z13 := Z13.out; have z14 := Z14.out; have z15 := Z15.out; have hq := HQQ.out; have h3 := HW3.out g hx; omega))
    clear rF15
    have rG16 := Lib.hid (rG15.out.fr f16 (fun g h1 h2 hx => by have z1 := Z1.out; have z2 := Z2.out; have z3 := Z3.out; have z4 := Z4.out; have z5 := Z5.out; have z6 := Z6.out; have z7 := Z7.out; have z8 := Z8.out; have z9 := Z9.out; have z10 := Z10.out; have z11 := Z11.out; have hps := HPS.out; have hpl := HPlt.out; have hrl := HRL.out; have hrlt := HRlt.out; have hpp := HPP.out; have z12 := Z12.out; have z13 := Z13.out; have z14 := Z14.out; have z15 := Z15.out; have hq := HQQ.out; have h3 := HW3.out g hx; omega))
    clear rG15
    have rX16 := Lib.hid (rX15.out.fr f16 (fun g h1 h2 hx => by have z1 := Z1.out; have z2 := Z2.out; have z3 := Z3.out; have z4 := Z4.out; have z5 := Z5.out; have z6 := Z6.out; have z7 := Z7.out; have z8 := Z8.out; have z9 := Z9.out; have z10 := Z10.out; have z11 := Z11.out; have hps := HPS.out; have hpl := HPlt.out; have hrl := HRL.out; have hrlt := HRlt.out; have hpp := HPP.out; have z12 := Z12.out; have z13 := Z13.out; have z14 := Z14.out; have z15 := Z15.out; have hq := HQQ.out; have h3 := HW3.out g hx; omega))
    clear rX15
    have rY16 := Lib.hid (rY15.out.fr f16 (fun g h1 h2 hx => by have z1 := Z1.out; have z2 := Z2.out; have z3 := Z3.out; have z4 := Z4.out; have z5 := Z5.out; have z6 := Z6.out; have z7 := Z7.out; have z8 := Z8.out; have z9 := Z9.out; have z10 := Z10.out; have z11 := Z11.out; have hps := HPS.out; have hpl := HPlt.out; have hrl := HRL.out; have hrlt := HRlt.out; have hpp := HPP.out; have z12 := Z12.out; have z13 := Z13.out; have z14 := Z14.out; have z15 := Z15.out; have hq := HQQ.out; have h3 := HW3.out g hx; omega))
    clear rY15
    have V16 := Lib.hid (V15.out.fr f16 (fun k hk hx => by have z1 := Z1.out; have z2 := Z2.out; have z3 := Z3.out; have z4 := Z4.out; have z5 := Z5.out; have z6 := Z6.out; have z7 := Z7.out; have z8 := Z8.out; have z9 := Z9.out; have z10 := Z10.out; have z11 := Z11.out; have hps := HPS.out; have hpl := HPlt.out; have hrl := HRL.out; have hrlt := HRlt.out; have hpp := HPP.out; have hq := HQQ.out; have h3 := HW3.out k hx; have h4 := HVG.out k hk; omega))
    clear V15
    have rO16 := Lib.hid (rO15.out.fr f16 (fun g h1 h2 hx => by have z1 := Z1.out; have z2 := Z2.out; have z3 := Z3.out; have z4 := Z4.out; have z5 := Z5.out; have z6 := Z6.out; have z7 := Z7.out; have z8 := Z8.out; have z9 := Z9.out; have z10 := Z10.out; have z11 := Z11.out; have hps := HPS.out; have hpl := HPlt.out; have hrl := HRL.out; have hrlt := HRlt.out; have hpp := HPP.out; have z12 := Z12.out; have z13 := Z13.out; have z14 := Z14.out; have z15 := Z15.out; have hq := HQQ.out; have h3 := HW3.out g hx; omega))
    clear rO15
    have rT16 := Lib.hid (rT15.out.fr f16 (fun g h1 h2 hx => by have z1 := Z1.out; have z2 := Z2.out; have z3 := Z3.out; have z4 := Z4.out; have z5 := Z5.out; have z6 := Z6.out; have z7 := Z7.out; have z8 := Z8.out; have z9 := Z9.out; have z10 := Z10.out; have z11 := Z11.out; have hps := HPS.out; have hpl := HPlt.out; have hrl := HRL.out; have hrlt := HRlt.out; have hpp := HPP.out; have z12 := Z12.out; have z13 := Z13.out; have z14 := Z14.out; have z15 := Z15.out; have hq := HQQ.out; have h3 := HW3.out g hx; omega))
    clear rT15
    have Z16 := Lib.hid f16.size
    clear f16
    go_wp2_with (fail)
    refine (rrNew A b c 0 w.heap.size w16 (HB.out.fr T16.out (Nat.le_refl _) (fun _ _ _ x => x)) T16.out.size (by omega)).mono ?_
    rintro e w17 ⟨qr, rfl, h17, a17, f17, -⟩
    have HQL := Lib.hid h17
    have T17 := Lib.hid (T16.out.then f17)
    clear T16
    have R17 := Lib.hid (R16.out.fr f17 (fun _ _ _ x => x) HRL.out)
    clear R16
    have rF17 := Lib.hid (rF16.out.no f17)
    clear rF16
    have rG17 := Lib.hid (rG16.out.no f17)
    clear rG16
    have rX17 := Lib.hid (rX16.out.no f17)
    clear rX16
    have rY17 := Lib.hid (rY16.out.no f17)
    clear rY16
    have V17 := Lib.hid (V16.out.fr f17 (fun _ _ x => x))
    clear V16
    have rO17 := Lib.hid (rO16.out.no f17)
    clear rO16
    have rT17 := Lib.hid (rT16.out.no f17)
    clear rT16
    have Z17 := Lib.hid f17.size
    have Q17 := Lib.hid a17
    have HQlt := Lib.hid a17.lt
    clear a17 f17 h17
    go_wp2_with (fail)
    refine (rBytes_calls w3.heap.size pr (some b) 1099511627776 w17 R17.out HRL.out (show b.length ≤ 140737488355328 by omega)).mono ?_
    rintro e w18 ⟨v18, rfl, o18, -, f18⟩
    have HPB := Lib.hid (rBytes_short b 1099511627776)
    have hqb := fun W (Q : RRd W w16.heap.size qr (some b)) => rrBytes w16.heap.size qr (some b) 1099511627776 W Q HQL.out (show b.length ≤ 140737488355328 by omega)
    generalize (rBytes (some b) 1099511627776).1 = pb at o18 HPB hqb
    generalize (rBytes (some b) 1099511627776).2 = pst at hqb
    have HQB := Lib.hid hqb
    clear hqb
    obtain ⟨BrP, crP, rfl, -, -⟩ := own_form4 o18
    have T18 := Lib.hid (T17.out.upE f18 (fun k hx => by have z1 := Z1.out; have z2 := Z2.out; have z3 := Z3.out; have z4 := Z4.out; have z5 := Z5.out; have z6 := Z6.out; have z7 := Z7.out; have z8 := Z8.out; have z9 := Z9.out; have z10 := Z10.out; have z11 := Z11.out; have hps := HPS.out; have hpl := HPlt.out; have hrl := HRL.out; have hrlt := HRlt.out; have hpp := HPP.out; simp only [OneB] at hx; omega))
    clear T17
    clear R17
    have rF18 := Lib.hid (rF17.out.fr f18 (fun g h1 h2 hx => by have z1 := Z1.out; have z2 := Z2.out; have z3 := Z3.out; have z4 := Z4.out; have z5 := Z5.out; have z6 := Z6.out; have z7 := Z7.out; have z8 := Z8.out; have z9 := Z9.out; have z10 := Z10.out; have z11 := Z11.out; have hps := HPS.out; have hpl := HPlt.out; have hrl := HRL.out; have hrlt := HRlt.out; have hpp := HPP.out; have z12 := Z12.out; have z13 := Z13.out; have z14 := Z14.out; have z15 := Z15.out; have z16 := Z16.out; have z17 := Z17.out; simp only [OneB] at hx; omega))
    clear rF17
    have rG18 := Lib.hid (rG17.out.fr f18 (fun g h1 h2 hx => by have z1 := Z1.out; have z2 := Z2.out; have z3 := Z3.out; have z4 := Z4.out; have z5 := Z5.out; have z6 := Z6.out; have z7 := Z7.out; have z8 := Z8.out; have z9 := Z9.out; have z10 := Z10.out; have z11 := Z11.out; have hps := HPS.out; have hpl := HPlt.out; have hrl := HRL.out; have hrlt := HRlt.out; have hpp := HPP.out; have z12 := Z12.out; have z13 := Z13.out; have z14 := Z14.out; have z15 := Z15.out; have z16 := Z16.out; have z17 := Z17.out; simp only [OneB] at hx; omega))
    clear rG17
    have rX18 := Lib.hid (rX17.out.fr f18 (fun g h1 h2 hx => by have z1 := Z1.out; have z2 := Z2.out; have z3 := Z3.out; have z4 := Z4.out; have z5 := Z5.out; have z6 := Z6.out; have z7 := Z7.out; have z8 := Z8.out; have z9 := Z9.out; have z10 := Z10.out; have z11 := Z11.out; have hps := HPS.out; have hpl := HPlt.out; have hrl := HRL.out; have hrlt := HRlt.out; have hpp := HPP.out; have z12 := Z12.out; have z13 := Z13.out; have z14 := Z14.out; have z15 := Z15.out; have z16 := Z16.out; have z17 := Z17.out; simp only [OneB] at hx; omega))
    clear rX17
    have rY18 := Lib.hid (rY17.out.fr f18 (fun g h1 h2 hx => by have z1 := Z1.out; have z2 := Z2.out; have z3 := Z3.out; have z4 := Z4.out; have z5 := Z5.out; have z6 := Z6.out; have z7 := Z7.out; have z8 := Z8.out; have z9 := Z9.out; have z10 := Z10.out; have z11 := Z11.out; have hps := HPS.out; have hpl := HPlt.out; have hrl := HRL.out; have hrlt := HRlt.out; have hpp := HPP.out; have z12 := Z12.out; have z13 := Z13.out; have z14 := Z14.out; have z15 := Z15.out; have z16 := Z16.out; have z17 := Z17.out; simp only [OneB] at hx; omega))
    clear rY17
    have V18 := Lib.hid (V17.out.fr f18 (fun k hk hx => by have z1 := Z1.out; have z2 := Z2.out; have z3 := Z3.out; have z4 := Z4.out; have z5 := Z5.out; have z6 := Z6.out; have z7 := Z7.out; have z8 := Z8.out; have z9 := Z9.out; have z10 := Z10.out; have z11 := Z11.out; have hps := HPS.out; have hpl := HPlt.out; have hrl := HRL.out; have hrlt := HRlt.out; have hpp := HPP.out; have hq := HQQ.out; have h4 := HVG.out k hk; simp only [OneB] at hx; omega))
    clear V17
    have rO18 := Lib.hid (rO17.out.fr f18 (fun g h1 h2 hx => by have z1 := Z1.out; have z2 := Z2.out; have z3 := Z3.out; have z4 := Z4.out; have z5 := Z5.out; have z6 := Z6.out; have z7 := Z7.out; have z8 := Z8.out; have z9 := Z9.out; have z10 := Z10.out; have z11 := Z11.out; have hps := HPS.out; have hpl := HPlt.out; have hrl := HRL.out; have hrlt := HRlt.out; have hpp := HPP.out; have z12 := Z12.out; have z13 := Z13.out; have z14 := Z14.out; have z15 := Z15.out; have z16 := Z16.out; have z17 := Z17.out; simp only [OneB] at hx; omega))
    clear rO17
    have rT18 := Lib.hid (rT17.out.fr f18 (fun g h1 h2 hx => by have z1 := Z1.out; have z2 := Z2.out; have z3 := Z3.out; have z4 := Z4.out; have z5 := Z5.out; have z6 := Z6.out; have z7 := Z7.out; have z8 := Z8.out; have z9 := Z9.out; have z10 := Z10.out; have z11 := Z11.out; have hps := HPS.out; have hpl := HPlt.out; have hrl := HRL.out; have hrlt := HRlt.out; have hpp := HPP.out; have z12 := Z12.out; have z13 := Z13.out; have z14 := Z14.out; have z15 := Z15.out; have z16 := Z16.out; have z17 := Z17.out; simp only [OneB] at hx; omega))
    clear rT17
    have Q18 := Lib.hid (Q17.out.fr f18 (fun k h1 h2 hx => by have z1 := Z1.out; have z2 := Z2.out; have z3 := Z3.out; have z4 := Z4.out; have z5 := Z5.out; have z6 := Z6.out; have z7 := Z7.out; have z8 := Z8.out; have z9 := Z9.out; have z10 := Z10.out; have z11 := Z11.out; have hps := HPS.out; have hpl := HPlt.out; have hrl := HRL.out; have hrlt := HRlt.out; have hpp := HPP.out; have z12 := Z12.out; have z13 := Z13.out; have z14 := Z14.out; have z15 := Z15.out; have z16 := Z16.out; simp only [OneB] at hx; omega) HQL.out)
    clear Q17
    have rP18 := Lib.hid (Rw.new o18)
    have Z18 := Lib.hid f18.size
    clear o18 f18
    go_wp2_with (fail)
    refine (HQB.out w18 Q18.out).mono ?_
    rintro e w19 ⟨BQ, cQ, rfl, -, -, r19, -, f19⟩
    have T19 := Lib.hid (T18.out.upE f19 (fun k hx => by have z1 := Z1.out; have z2 := Z2.out; have z3 := Z3.out; have z4 := Z4.out; have z5 := Z5.out; have z6 := Z6.out; have z7 := Z7.out; have z8 := Z8.out; have z9 := Z9.out; have z10 := Z10.out; have z11 := Z11.out; have hps := HPS.out; have hpl := HPlt.out; have hrl := HRL.out; have hrlt := HRlt.out; have hpp := HPP.out; have z12 := Z12.out; have z13 := Z13.out; have z14 := Z14.out; have z15 := Z15.out; have z16 := Z16.out; have hx1 := HQL.out; simp only [OneB] at hx; omega))
    clear T18
    have rF19 := Lib.hid (rF18.out.fr f19 (fun g h1 h2 hx => by have z1 := Z1.out; have z2 := Z2.out; have z3 := Z3.out; have z4 := Z4.out; have z5 := Z5.out; have z6 := Z6.out; have z7 := Z7.out; have z8 := Z8.out; have z9 := Z9.out; have z10 := Z10.out; have z11 := Z11.out; have hps := HPS.out; have hpl := HPlt.out; have hrl := HRL.out; have hrlt := HRlt.out; have hpp := HPP.out; have z12 := Z12.out; have z13 := Z13.out; have z14 := Z14.out; have z15 := Z15.out; have z16 := Z16.out; have hx1 := HQL.out; simp only [OneB] at hx; omega))
    clear rF18
    have rG19 := Lib.hid (rG18.out.fr f19 (fun g h1 h2 hx => by have z1 := Z1.out; have z2 := Z2.out; have z3 := Z3.out; have z4 := Z4.out; have z5 := Z5.out; have z6 := Z6.out; have z7 := Z7.out; have z8 := Z8.out; have z9 := Z9.out; have z10 := Z10.out; have z11 := Z11.out; have hps := HPS.out; have hpl := HPlt.out; have hrl := HRL.out; have hrlt := HRlt.out; have hpp := HPP.out; have z12 := Z12.out; have z13 := Z13.out; have z14 := Z14.out; have z15 := Z15.out; have z16 := Z16.out; have hx1 := HQL.out; simp only [OneB] at hx; omega))
    clear rG18
    have rX19 := Lib.hid (rX18.out.fr f19 (fun g h1 h2 hx => by have z1 := Z1.out; have z2 := Z2.out; have z3 := Z3.out; have z4 := Z4.out; have z5 := Z5.out; have z6 := Z6.out; have z7 := Z7.out; have z8 := Z8.out; have z9 := Z9.out; have z10 := Z10.out; have z11 := Z11.out; have hps := HPS.out; have hpl := HPlt.out; have hrl := HRL.out; have hrlt := HRlt.out; have hpp := HPP.out; have z12 := Z12.out; have z13 := Z13.out; have z14 := Z14.out; have z15 := Z15.out; have z16 := Z16.out; have hx1 := HQL.out; simp only [OneB] at hx; omega))
    clear rX18
    have rY19 := Lib.hid (rY18.out.fr f19 (fun g h1 h2 hx => by have z1 := Z1.out; have z2 := Z2.out; have z3 := Z3.out; have z4 := Z4.out; have z5 := Z5.out; have z6 := Z6.out; have z7 := Z7.out; have z8 := Z8.out; have z9 := Z9.out; have z10 := Z10.out; have z11 := Z11.out; have hps := HPS.out; have hpl := HPlt.out; have hrl := HRL.out; have hrlt := HRlt.out; have hpp := HPP.out; have z12 := Z12.out; have z13 := Z13.out; have z14 := Z14.out; have z15 := Z15.out; have z16 := Z16.out; have hx1 := HQL.out; simp only [OneB] at hx; omega))
    clear rY18
    have V19 := Lib.hid (V18.out.fr f19 (fun k hk hx => by have z1 := Z1.out; have z2 := Z2.out; have z3 := Z3.out; have z4 := Z4.out; have z5 := Z5.out; have z6 := Z6.out; have z7 := Z7.out; have z8 := Z8.out; have z9 := Z9.out; have z10 := Z10.out; have z11 := Z11.out; have hps := HPS.out; have hpl := HPlt.out; have hrl := HRL.out; have hrlt := HRlt.out; have hpp := HPP.out; have z12 := Z12.out; have z13 := Z13.out; have z14 := Z14.out; have z15 := Z15.out; have z16 := Z16.out; have hx1 := HQL.out; have h4 := HVlt.out k hk; simp only [OneB] at hx; omega))
    clear V18
    have rO19 := Lib.hid (rO18.out.fr f19 (fun g h1 h2 hx => by have z1 := Z1.out; have z2 := Z2.out; have z3 := Z3.out; have z4 := Z4.out; have z5 := Z5.out; have z6 := Z6.out; have z7 := Z7.out; have z8 := Z8.out; have z9 := Z9.out; have z10 := Z10.out; have z11 := Z11.out; have hps := HPS.out; have hpl := HPlt.out; have hrl := HRL.out; have hrlt := HRlt.out; have hpp := HPP.out; have z12 := Z12.out; have z13 := Z13.out; have z14 := Z14.out; have z15 := Z15.out; have z16 := Z16.out; have hx1 := HQL.out; simp only [OneB] at hx; omega))
    clear rO18
    have rT19 := Lib.hid (rT18.out.fr f19 (fun g h1 h2 hx => by have z1 := Z1.out; have z2 := Z2.out; have z3 := Z3.out; have z4 := Z4.out; have z5 := Z5.out; have z6 := Z6.out; have z7 := Z7.out; have z8 := Z8.out; have z9 := Z9.out; have z10 := Z10.out; have z11 := Z11.out; have hps := HPS.out; have hpl := HPlt.out; have hrl := HRL.out; have hrlt := HRlt.out; have hpp := HPP.out; have z12 := Z12.out; have z13 := Z13.out; have z14 := Z14.out; have z15 := Z15.out; have z16 := Z16.out; have hx1 := HQL.out; simp only [OneB] at hx; omega))
    clear rT18
    clear Q18
    have rP19 := Lib.hid (rP18.out.fr f19 (fun g h1 h2 hx => by have hx1 := HQlt.out; simp only [OneB] at hx; omega))
    clear rP18
    have S19 := Lib.hid (r19.wide (lo' := 0) (hi' := w19.heap.size) (Nat.zero_le _) (Nat.le_refl _))
    have Z19 := Lib.hid f19.size
    clear r19 f19 HQB
    go_wp2_with (fail)
    refine (rframe_calls A b c 0 w.heap.size w19 (HB.out.fr T19.out (Nat.le_refl _) (fun _ _ _ x => x)) T19.out.size (by omega)).mono ?_
    rintro e w20 hfr
    obtain ⟨BrM, crM, rfl, o20, f20⟩ := framed_row hfr
    clear hfr
    have T20 := Lib.hid (T19.out.then f20)
    clear T19
    have rF20 := Lib.hid (rF19.out.no f20)
    clear rF19
    have rG20 := Lib.hid (rG19.out.no f20)
    clear rG19
    have rX20 := Lib.hid (rX19.out.no f20)
    clear rX19
    have rY20 := Lib.hid (rY19.out.no f20)
    clear rY19
    have V20 := Lib.hid (V19.out.fr f20 (fun _ _ x => x))
    clear V19
    have rO20 := Lib.hid (rO19.out.no f20)
    clear rO19
    have rT20 := Lib.hid (rT19.out.no f20)
    clear rT19
    have rP20 := Lib.hid (rP19.out.no f20)
    clear rP19
    have Z20 := Lib.hid f20.size
    have S20 := Lib.hid ((S19.out.fr f20 (Nat.le_refl _) (fun _ _ _ x => x)).wide (Nat.le_refl _) f20.size)
    clear S19
    have rM20 := Lib.hid (Rw.new o20)
    clear o20 f20
    go_wp2_with (fail)
    refine (runframe_calls A b c 0 w.heap.size w20 (HB.out.fr T20.out (Nat.le_refl _) (fun _ _ _ x => x)) T20.out.size HC.out HCM.out (by omega)).mono ?_
    rintro e w21 hfr
    obtain ⟨BrN, crN, z21a, z21b, rfl, o21, f21⟩ := unframed_row hfr
    clear hfr
    have T21 := Lib.hid (T20.out.then f21)
    clear T20
    have rF21 := Lib.hid (rF20.out.no f21)
    clear rF20
    have rG21 := Lib.hid (rG20.out.no f21)
    clear rG20
    have rX21 := Lib.hid (rX20.out.no f21)
    clear rX20
    have rY21 := Lib.hid (rY20.out.no f21)
    clear rY20
    have V21 := Lib.hid (V20.out.fr f21 (fun _ _ x => x))
    clear V20
    have rO21 := Lib.hid (rO20.out.no f21)
    clear rO20
    have rT21 := Lib.hid (rT20.out.no f21)
    clear rT20
    have rP21 := Lib.hid (rP20.out.no f21)
    clear rP20
    have rM21 := Lib.hid (rM20.out.no f21)
    clear rM20
    have Z21 := Lib.hid f21.size
    have S21 := Lib.hid ((S20.out.fr f21 (Nat.le_refl _) (fun _ _ _ x => x)).wide (Nat.le_refl _) f21.size)
    clear S20
    have rN21 := Lib.hid (Rw.new o21)
    clear o21 f21
    go_wp2_with (fail)
    refine (rwDone q0 G2 (textB b) w21 V21.out (by have := textB_len b; omega)).mono ?_
    rintro e w22 ⟨v22, rfl, o22, b22⟩
    obtain ⟨BrD, crD, rfl, -, -⟩ := own_form4 o22
    have f22 : Fr NoB w21 w22 := Fr.ofBelow b22
    clear V21
    have T22 := Lib.hid (T21.out.then f22)
    clear T21
    have rF22 := Lib.hid (rF21.out.no f22)
    clear rF21
    have rG22 := Lib.hid (rG21.out.no f22)
    clear rG21
    have rX22 := Lib.hid (rX21.out.no f22)
    clear rX21
    have rY22 := Lib.hid (rY21.out.no f22)
    clear rY21
    have rO22 := Lib.hid (rO21.out.no f22)
    clear rO21
    have rT22 := Lib.hid (rT21.out.no f22)
    clear rT21
    have rP22 := Lib.hid (rP21.out.no f22)
    clear rP21
    have rM22 := Lib.hid (rM21.out.no f22)
    clear rM21
    have rN22 := Lib.hid (rN21.out.no f22)
    clear rN21
    have Z22 := Lib.hid f22.size
    have S22 := Lib.hid ((S21.out.fr f22 (Nat.le_refl _) (fun _ _ _ x => x)).wide (Nat.le_refl _) f22.size)
    clear S21
    have rD22 := Lib.hid (Rw.new o22)
    clear o22 f22 b22
    have K0 := Lib.hid (Fr.refl NoB w22)
    have htl := textB_len b
    have hfl := frameB_len2 b
    have hul := unfB_len b
    have hpl2 := HPB.out
    have HTL := Lib.hid htl
    have HFL := Lib.hid hfl
    have HUL := Lib.hid hul
    have hs1 := fun W (f : Fr NoB w22 W) => same_calls BrO BrD (textB b) (textB b) crO crD w13.heap.size W.heap.size w21.heap.size W.heap.size W (rO22.out.no f).rd (rD22.out.no f).rd (by omega) (by omega)
    have hs2 := fun W (f : Fr NoB w22 W) => same_calls BrT BrO (textB b) (textB b) crT crO w14.heap.size W.heap.size w13.heap.size W.heap.size W (rT22.out.no f).rd (rO22.out.no f).rd (by omega) (by omega)
    have hs3 := fun W (f : Fr NoB w22 W) => same_calls BrP BQ pb pb crP cQ w17.heap.size W.heap.size 0 w22.heap.size W (rP22.out.no f).rd (S22.out.fr f (Nat.le_refl _) (fun _ _ _ x => x)) (by omega) (by omega)
    have hs4 := fun W (f : Fr NoB w22 W) => same_calls BrF BrM (frameB b) (frameB b) crF crM w4.heap.size W.heap.size w19.heap.size W.heap.size W (rF22.out.no f).rd (rM22.out.no f).rd (by omega) (by omega)
    have hs5 := fun W (f : Fr NoB w22 W) => same_calls BrX BrN (unfB b) (unfB b) crX crN w6.heap.size W.heap.size w20.heap.size W.heap.size W (rX22.out.no f).rd (rN22.out.no f).rd (by omega) (by omega)
    rw [show (textB b == textB b) = true by simp] at hs1 hs2
    rw [show (pb == pb) = true by simp] at hs3
    rw [show (frameB b == frameB b) = true by simp] at hs4
    rw [show (unfB b == unfB b) = true by simp] at hs5
    have HS1 := Lib.hid hs1
    have HS2 := Lib.hid hs2
    have HS3 := Lib.hid hs3
    have HS4 := Lib.hid hs4
    have HS5 := Lib.hid hs5
    clear hs1 hs2 hs3 hs4 hs5 htl hfl hul hpl2
    go_wp2_with (fail)
    refine (HS1.out _ K0.out).mono ?_
    rintro e y1 ⟨rfl, n1, rfl⟩
    have K1 := Lib.hid (K0.out.drewN n1)
    generalize World.drewN _ n1 = y1 at K1 ⊢
    go_wp2_with (fail)
    refine (HS2.out _ K1.out).mono ?_
    rintro e y2 ⟨rfl, n2, rfl⟩
    have K2 := Lib.hid (K1.out.drewN n2)
    generalize World.drewN _ n2 = y2 at K2 ⊢
    go_wp2_with (fail)
    refine (HS3.out _ K2.out).mono ?_
    rintro e y3 ⟨rfl, n3, rfl⟩
    have K3 := Lib.hid (K2.out.drewN n3)
    generalize World.drewN _ n3 = y3 at K3 ⊢
    go_wp2_with (fail)
    refine (HS4.out _ K3.out).mono ?_
    rintro e y4 ⟨rfl, n4, rfl⟩
    have K4 := Lib.hid (K3.out.drewN n4)
    generalize World.drewN _ n4 = y4 at K4 ⊢
    go_wp2_with (fail)
    refine (HS5.out _ K4.out).mono ?_
    rintro e y5 ⟨rfl, n5, rfl⟩
    have K5 := Lib.hid (K4.out.drewN n5)
    generalize World.drewN _ n5 = y5 at K5 ⊢
    have RO := Lib.hid (rO22.out.no K5.out)
    have RT := Lib.hid (rT22.out.no K5.out)
    have RF := Lib.hid (rF22.out.no K5.out)
    have RG := Lib.hid (rG22.out.no K5.out)
    have RX := Lib.hid (rX22.out.no K5.out)
    have RY := Lib.hid (rY22.out.no K5.out)
    have RP := Lib.hid (rP22.out.no K5.out)
    have TT := Lib.hid (T22.out.then K5.out)
    have hap := (show Calls _ _ _ _ _ from by
      have z1 := Z1.out; have z2 := Z2.out; have z3 := Z3.out; have z4 := Z4.out; have z5 := Z5.out; have z6 := Z6.out; have z7 := Z7.out; have z8 := Z8.out; have z9 := Z9.out; have z10 := Z10.out; have z11 := Z11.out; have hps := HPS.out; have hpl := HPlt.out; have hrl := HRL.out; have hrlt := HRlt.out; have hpp := HPP.out; have z12 := Z12.out; have z13 := Z13.out; have z14 := Z14.out; have z15 := Z15.out; have z16 := Z16.out; have z17 := Z17.out; have z18 := Z18.out
      have htl := HTL.out; have hfl := HFL.out; have hul := HUL.out; have hpl2 := HPB.out; have t1z := T1z.out
      exact apart7 w RO.out RT.out RF.out RG.out RX.out RY.out RP.out TT.out (by omega) (by omega) (by omega) (by omega) (by omega) (by omega) (by omega) (by omega) (by omega) (by omega) (by omega) (by omega) (by omega) (by omega) (by omega) (by omega) (by omega) (by omega) (by omega) (by omega))
    have HAP := Lib.hid hap
    clear hap
    go_wp2_with (fail)
    refine HAP.out.mono ?_
    rintro e y6 ⟨rfl, f6⟩
    have F6 := Lib.hid f6
    clear f6 HAP
    go_wp2_with (fail)
    refine (awake_calls _).mono ?_
    rintro e y7 ⟨rfl, f7⟩
    have F7 := Lib.hid (F6.out.then f7)
    clear f7
    go_wp2
    go_ret
    exact ⟨rfl, F7.out⟩

end Go.Proofs.YtmklmjggichfhaaGreatDoor

/-
  Rfs: Rfr, Rfs.
-/
import Derived.Test.YtmlmbahimklfiaaGreatDoorRdb
import Derived.Test.YtmlmbahimklfiaaGreatDoorKit
import Derived.Lib.ConvBytes
/- Rfr -/
namespace Go.Proofs.YtmlmbahimklfiaaGreatDoor
open Go.RowKit

/-- Block p is a beadleref03.Reader in the state st; its bytes lie in the blocks from lo on, below p. -/
def RRd (w : World) (lo p : Nat) (st : RSt) : Prop :=
  ∃ A c, w.heap[p]? = some (.cells #[.slice A (st.getD []).length c, .bool (!st.isSome)] 169 (0, 0)) ∧ (st.getD []).length ≤ c ∧ c ≤ maxLen ∧ Rd w lo p A (st.getD [])
theorem RRd.lt {w : World} {lo p : Nat} {st : RSt} (h : RRd w lo p st) : p < w.heap.size := by obtain ⟨A, c, h, _⟩ := h; exact Lib.lt_of_heap h
theorem RRd.fr {M : Nat → Prop} {w w' : World} {lo p : Nat} {st : RSt} (h : RRd w lo p st) (hf : Fr M w w') (hm : ∀ k, lo ≤ k → k ≤ p → ¬ M k) (hlo : lo ≤ p) : RRd w' lo p st := by
  have hlt := h.lt
  obtain ⟨A, c, h, h1, h2, h3⟩ := h
  exact ⟨A, c, (hf.block p hlt (hm p hlo (Nat.le_refl _))).trans h, h1, h2, h3.fr hf (by omega) fun k a b => hm k a (by omega)⟩
/-- What a call of the reference's reader answers. -/
def RRres (lo p : Nat) (v : Value) (st : RSt) (w : World) (e : Ending) (w' : World) : Prop :=
  e = .returned v ∧ RRd w' lo p st ∧ Fr (OneB p) w w' ∧ w'.heap.size = w.heap.size

set_option maxHeartbeats 400000 in
theorem rrGood (lo p : Nat) (st : RSt) (w : World) (h : RRd w lo p st) :
    Calls Tryz.prog 169 #[.pointer (some ⟨p, 0, none⟩)] w fun e w' => e = .returned (.bool (rGood st)) ∧ w = w' := by
  obtain ⟨A, c, hp, _⟩ := h
  have c1 := (cells_of hp 1).1
  simp only [List.getElem?_toArray, List.getElem?_cons_zero, List.getElem?_cons_succ] at c1
  clear hp
  go_enter Tryz.func169, Tryz.ntmps169
  go_wp2
  go_ret
  exact ⟨by cases st <;> rfl, rfl⟩

set_option maxHeartbeats 400000 in
theorem rrWhole (lo p : Nat) (st : RSt) (w : World) (h : RRd w lo p st) :
    Calls Tryz.prog 74 #[.pointer (some ⟨p, 0, none⟩)] w fun e w' => e = .returned (.bool (rWhole st)) ∧ w = w' := by
  obtain ⟨A, c, hp, hl, hc, _⟩ := h
  have c0 := (cells_of hp 0).1
  have c1 := (cells_of hp 1).1
  simp only [List.getElem?_toArray, List.getElem?_cons_zero, List.getElem?_cons_succ] at c0 c1
  unfold maxLen at hc
  clear hp
  cases st with
  | none =>
    simp only [Option.isSome_none, Bool.not_false] at c1
    go_enter Tryz.func74, Tryz.ntmps74
    go_wp2
    go_ret
    exact ⟨rfl, rfl⟩
  | some l =>
    simp only [Option.isSome_some, Bool.not_true, Option.getD_some] at c0 c1
    have HR : Hid (rWhole (some l) = ((l.length : Int) == 0)) := by
      show _ = _
      cases l with
      | nil => rfl
      | cons x l => simp [rWhole]; omega
    go_enter Tryz.func74, Tryz.ntmps74
    go_wp2
    go_ret
    exact ⟨by rw [HR.out]; rfl, rfl⟩

set_option maxHeartbeats 400000 in
theorem rrFail (lo p : Nat) (st : RSt) (w : World) (h : RRd w lo p st) :
    Calls Tryz.prog 129 #[.pointer (some ⟨p, 0, none⟩)] w (RRres lo p (.tuple #[]) none w) := by
  obtain ⟨A, c, hp, _⟩ := h
  have c0 := (cells_of hp 0).1
  have c1 := (cells_of hp 1).1
  have f0 := (cells_of hp 0).2
  have f1 := (cells_of hp 1).2
  simp only [List.getElem?_toArray, List.getElem?_cons_zero, List.getElem?_cons_succ] at c0 c1
  have q : RRd ((w.setCell ⟨p, 1, none⟩ (.bool true)).setCell ⟨p, 0, none⟩ (.slice none 0 0)) lo p none := by
    refine ⟨none, 0, ?_, by simp, by unfold maxLen; omega, Rd.nil _ _ _ _⟩
    rw [heap_set (heap_set hp _)]; rfl
  clear hp
  go_enter Tryz.func129, Tryz.ntmps129
  go_wp2
  go_end0
  exact ⟨rfl, q, ((Fr.refl (OneB p) w).setCell (p := ⟨p, 1, none⟩) (fun _ => rfl) _).setCell (p := ⟨p, 0, none⟩) (fun _ => rfl) _, by simp [World.setCell]⟩

/-- The reader's bytes cut behind n. -/
theorem rr_cut {w : World} {lo p n c c' : Nat} {A A' : Option Addr} {l : List UInt8} {b : Bool} (hp : w.heap[p]? = some (.cells #[.slice A l.length c, .bool b] 169 (0, 0))) (hc : c ≤ maxLen)
    (hc1 : l.length - n ≤ c') (hc2 : c' ≤ c) (hr' : Rd w lo p A' (l.drop n)) (st : RSt) (hst : st.getD [] = l.drop n) (hb : b = !st.isSome) :
    RRd (w.setCell ⟨p, 0, none⟩ (.slice A' (l.length - n) c')) lo p st ∧ Fr (OneB p) w (w.setCell ⟨p, 0, none⟩ (.slice A' (l.length - n) c')) ∧ (w.setCell ⟨p, 0, none⟩ (.slice A' (l.length - n) c')).heap.size = w.heap.size := by
  have hF : Fr (OneB p) w (w.setCell ⟨p, 0, none⟩ (.slice A' (l.length - n) c')) := (Fr.refl (OneB p) w).setCell (p := ⟨p, 0, none⟩) (fun _ => rfl) _
  have hlt := Lib.lt_of_heap hp
  have e2 : (l.drop n).length = l.length - n := by simp
  refine ⟨⟨A', c', ?_, by rw [hst]; omega, by omega, ?_⟩, hF, by simp [World.setCell]⟩
  · rw [hst, e2, heap_set hp, ← hb]; rfl
  · rw [hst]; exact hr'.fr hF (by omega) (fun k _ h => by simp [OneB]; omega)

set_option maxHeartbeats 800000 in
theorem rrByte (lo p : Nat) (st : RSt) (w : World) (h : RRd w lo p st) :
    Calls Tryz.prog 71 #[.pointer (some ⟨p, 0, none⟩)] w (RRres lo p (.int .u8 (rByte st).1.toNat) (rByte st).2 w) := by
  obtain ⟨A, c, hp, hl, hc, hr⟩ := id h
  have c0 := (cells_of hp 0).1
  have f0 := (cells_of hp 0).2
  simp only [List.getElem?_toArray, List.getElem?_cons_zero] at c0
  have hc' := hc
  unfold maxLen at hc'
  by_cases he : st.getD [] = []
  · have hres : rByte st = (0, none) := by
      cases st with
      | none => rfl
      | some l => simp at he; subst he; rfl
    rw [he] at c0 hl
    have HR := Lib.hid hres
    clear hres hp hr he
    go_enter Tryz.func71, Tryz.ntmps71
    go_wp2_with (go_at_call 129; refine (rrFail lo p st _ h).mono ?_; rintro e w1 ⟨rfl, q1, q2, q3⟩; have Q3 := Lib.hid q3; clear q3)
    go_ret
    refine ⟨?_, ?_, q2, Q3⟩ <;> rw [HR.out]
    · rfl
    · exact q1
  · obtain ⟨x, l, rfl⟩ : ∃ x l, st = some (x :: l) := by
      cases st with
      | none => simp at he
      | some l => cases l with
        | nil => simp at he
        | cons x l => exact ⟨x, l, rfl⟩
    simp only [Option.getD_some] at c0 hl hr hp
    obtain ⟨b, o, rfl, _, _, hcell0⟩ := hr (by simp)
    have hcell := hcell0 0 (by simp)
    clear hcell0
    simp only [List.getD_cons_zero, Nat.add_zero] at hcell
    have hd := Rd.drop (n := 1) hr (by simp) hl
    have hcut := fun A' c' a b hr' => rr_cut (lo := lo) (n := 1) (A' := A') (c' := c') hp hc a b hr' (some l) rfl rfl
    have HCUT := Lib.hid hcut
    have HD := Lib.hid hd
    have hn0 : ¬ (((x :: l).length : Int) = 0) := by simp; omega
    simp only [List.length_cons] at c0 hl
    clear hcut hp hr hd he
    go_enter Tryz.func71, Tryz.ntmps71
    go_wp2
    all_goals go_ret
    · exact ⟨rfl, HCUT.out (some ⟨b, o, none⟩) 0 (by have := hl; simp only [List.length_cons]; omega) (by omega) (by have := HD.out; rw [if_pos (by assumption)] at this; exact this)⟩
    · exact ⟨rfl, HCUT.out (some ⟨b, o + 1, none⟩) (c - 1) (by simp; omega) (by omega) (by have := HD.out; rw [if_neg (by assumption)] at this; simpa [Lib.addr_add] using this)⟩

theorem shr_step (acc V k : Nat) (hk : k ≤ 8) (ha : acc < 128 ^ k) (hV : V < 128) : acc + V * 128 ^ k < 18446744073709551616 := by
  have hp : (128 : Nat) ^ k ≤ 128 ^ 8 := Nat.pow_le_pow_right (by omega) hk
  have := Nat.mul_le_mul (show V ≤ 127 by omega) hp
  omega

theorem rr_bits (a v k : Nat) (h : a + v * 128 ^ k < 18446744073709551616) : IntKind.u64.wrap ((a : Int) + IntKind.u64.wrap ((v : Int) * 2 ^ (7 * k))) = ((a + v * 128 ^ k : Nat) : Int) := by
  have e : ((v : Int) * 2 ^ (7 * k)) = ((v * 128 ^ k : Nat) : Int) := by rw [pow_128, Int.natCast_mul, Int.natCast_pow]; rfl
  rw [e, IntKind.wrap_u64, IntKind.wrap_u64]
  omega

set_option maxHeartbeats 3200000 in
theorem rrInt (lo p : Nat) (st : RSt) (w : World) (h : RRd w lo p st) :
    Calls Tryz.prog 72 #[.pointer (some ⟨p, 0, none⟩)] w (RRres lo p (.int .i64 (rInt st).1) (rInt st).2 w) := by
  obtain ⟨A, c, hp, hl, hc, hr⟩ := id h
  have c0 := (cells_of hp 0).1
  have f0 := (cells_of hp 0).2
  simp only [List.getElem?_toArray, List.getElem?_cons_zero] at c0
  have hc' := hc
  unfold maxLen at hc'
  have hfail : rInt (some (st.getD [])) = (0, none) → rInt st = (0, none) := by
    intro hh
    cases st with
    | none => rfl
    | some l => exact hh
  have HP := Lib.hid hp
  clear hp
  generalize hL : st.getD [] = l at *
  have hlm : l.length ≤ 9223372036854775807 := by omega
  have HF := Lib.hid hfail
  have HL := Lib.hid hL
  clear hfail hL
  go_enter Tryz.func72, Tryz.ntmps72
  go_wp2
  go_loop [3, 4] (fun u i => ∃ (k : Nat) (acc : Int), u = .int .u64 acc ∧ i = .int .i64 (k : Int) ∧ k ≤ l.length ∧ k ≤ 10 ∧ (k = 10 → numAt 0 0 l = none) ∧ (k < 10 → ∃ a : Nat, acc = (a : Int) ∧ a < 128 ^ k ∧ numAt k a (l.drop k) = numAt 0 0 l)) (fun _ i => l.length - (intOf i).toNat)
  case atStart => exact ⟨0, 0, rfl, rfl, Nat.zero_le _, by omega, by omega, fun _ => ⟨0, rfl, by simp, rfl⟩⟩
  case round =>
    obtain ⟨k, acc, rfl, rfl, hk, hk10, h10, hlt10⟩ := hrel
    have H10 := Lib.hid h10
    have HLT := Lib.hid hlt10
    clear h10 hlt10
    by_cases hkl : k < l.length
    · by_cases hk9 : k < 10
      · obtain ⟨a, hacc, ha, hn⟩ := HLT.out hk9
        have HACC := Lib.hid hacc
        clear hacc
        obtain ⟨b, o, rfl, -, -, hcell0⟩ := hr (by omega)
        have hcell := hcell0 k hkl
        have hV := (l.getD k 0).toNat_lt
        have HC := Lib.hid (show l.drop k = l.getD k 0 :: l.drop (k + 1) by rw [List.drop_eq_getElem_cons hkl]; simp [List.getD, hkl])
        have HN := Lib.hid hn
        have HA := Lib.hid ha
        have HR := Lib.hid hr
        clear hn ha hr hcell0 HLT H10
        generalize l.getD k 0 = x at hcell hV HC
        obtain ⟨V, hcV⟩ : ∃ V : Int, (x.toNat : Int) = V := ⟨_, rfl⟩
        rw [hcV] at hcell
        have hV0 : 0 ≤ V := by omega
        have hV1 : V ≤ 255 := by omega
        have HcV := Lib.hid hcV
        clear hcV hV
        by_cases h128 : 128 ≤ V
        · go_wp2
          go_round
          case rel =>
            have hVn : (V - 128) = ((x.toNat - 128 : Nat) : Int) := by have := HcV.out; omega
            have hx := x.toNat_lt
            by_cases hk8 : k < 9
            · have hb := shr_step a (x.toNat - 128) k (by omega) HA.out (by have := HcV.out; omega)
              refine ⟨k + 1, _, rfl, by go_num, by omega, by omega, by omega, fun _ => ⟨a + (x.toNat - 128) * 128 ^ k, ?_, ?_, ?_⟩⟩
              · rw [HACC.out, hVn]; exact rr_bits _ _ _ hb
              · have := HA.out
                have hm : x.toNat - 128 ≤ 127 := by omega
                have := Nat.mul_le_mul_right (128 ^ k) hm
                rw [Nat.pow_succ]; omega
              · rw [← HN.out, HC.out, numAt, if_pos ⟨by have := HcV.out; omega, hk8⟩]
            · refine ⟨k + 1, _, rfl, by go_num, by omega, by omega, fun _ => ?_, by omega⟩
              rw [← HN.out, HC.out, numAt, if_neg (by omega), if_pos (.inr ⟨by have := HcV.out; omega, by omega⟩)]
          case measure => simp [intOf]; omega
        · have hkc : ((k : Int) == 10) = false := by rw [beq_eq_false_iff_ne]; omega
          have hkd : decide ((l.length : Int) ≤ (k : Int)) = false := by rw [decide_eq_false_iff_not]; omega
          by_cases hbad : (V = 0 ∧ 0 < k) ∨ (1 < V ∧ k = 9)
          · have hres : rInt st = (0, none) := HF.out (by
              have : numAt 0 0 l = none := by rw [← HN.out, HC.out, numAt, if_neg (by have := HcV.out; omega), if_pos (by have := HcV.out; omega)]
              simp only [rInt, this])
            have HRR := Lib.hid hres
            clear hres
            have hp0 : decide (0 < k) = true ∨ k = 9 := by
              by_cases h9 : k = 9
              · exact .inr h9
              · exact .inl (by rw [decide_eq_true_iff]; omega)
            by_cases hk99 : k = 9
            · have b1 : ((k : Int) == 9) = true := by rw [beq_iff_eq]; omega
              have b3 : decide (0 < k) = true := by rw [decide_eq_true_iff]; omega
              clear hp0 hk99
              by_cases hV1 : 1 < V
              · have b2 : decide (1 < V) = true := by rw [decide_eq_true_iff]; omega
                clear hbad
                go_wp2_with (go_at_call 129; refine (rrFail lo p st _ h).mono ?_; rintro e w1 ⟨rfl, q1, q2, q3⟩; have Q3 := Lib.hid q3; clear q3)
                go_ret
                refine ⟨?_, ?_, q2, Q3⟩ <;> rw [HRR.out]
                · rfl
                · exact q1
              · have b2 : decide (1 < V) = false := by rw [decide_eq_false_iff_not]; omega
                obtain rfl : V = 0 := by omega
                clear hbad
                go_wp2_with (go_at_call 129; refine (rrFail lo p st _ h).mono ?_; rintro e w1 ⟨rfl, q1, q2, q3⟩; have Q3 := Lib.hid q3; clear q3)
                go_ret
                refine ⟨?_, ?_, q2, Q3⟩ <;> rw [HRR.out]
                · rfl
                · exact q1
            · have b1 : ((k : Int) == 9) = false := by rw [beq_eq_false_iff_ne]; omega
              obtain rfl : V = 0 := by omega
              have b3 : decide (0 < k) = true := by rw [decide_eq_true_iff]; omega
              clear hp0 hk99 hbad
              go_wp2_with (go_at_call 129; refine (rrFail lo p st _ h).mono ?_; rintro e w1 ⟨rfl, q1, q2, q3⟩; have Q3 := Lib.hid q3; clear q3)
              go_ret
              refine ⟨?_, ?_, q2, Q3⟩ <;> rw [HRR.out]
              · rfl
              · exact q1
          · have hU : a + x.toNat * 128 ^ k < 18446744073709551616 := by
              have hx9 : k = 9 → x.toNat ≤ 1 := by have := HcV.out; omega
              have := rd_bound a x.toNat k (by omega) HA.out hx9
              rwa [show x.toNat % 128 = x.toNat by have := HcV.out; omega] at this
            have hres : rInt (some l) = (unzig (a + x.toNat * 128 ^ k), some (l.drop (k + 1))) := by
              have : numAt 0 0 l = some (a + x.toNat * 128 ^ k, l.drop (k + 1)) := by
                rw [← HN.out, HC.out, numAt, if_neg (by have := HcV.out; omega), if_neg (by have := HcV.out; omega)]
              simp only [rInt, this]
            obtain rfl : st = some l := by
              have := HL.out
              cases st with
              | none => simp at this; subst this; simp at hkl
              | some l' => simp at this; rw [this]
            obtain ⟨U, hUe⟩ : ∃ U : Int, ((a + x.toNat * 128 ^ k : Nat) : Int) = U := ⟨_, rfl⟩
            have hU0 : 0 ≤ U := by omega
            have hU1 : U ≤ 18446744073709551615 := by omega
            have hst : IntKind.u64.wrap (acc + IntKind.u64.wrap (V * 2 ^ (7 * k))) = U := by
              rw [HACC.out, ← HcV.out, ← hUe]; exact rr_bits _ _ _ hU
            have HU2 : Hid (unzig (a + x.toNat * 128 ^ k) = if U % 2 = 1 then -(U / 2) - 1 else U / 2) := by
              show _ = _
              unfold unzig
              split <;> split <;> omega
            have HR2 : Hid (rInt (some l) = (unzig (a + x.toNat * 128 ^ k), some (l.drop (k + 1)))) := hres
            have hcut := fun A' c' p1 p2 hr' => rr_cut (lo := lo) (n := k + 1) (A' := A') (c' := c') HP.out hc p1 p2 hr' (some (l.drop (k + 1))) rfl rfl
            have HCUT := Lib.hid hcut
            have HD := Lib.hid (Rd.drop (n := k + 1) HR.out (by omega) hl)
            clear hres hcut hU hUe HP HN HC HA HF HL HACC HR h
            by_cases hk99 : k = 9
            · have b1 : ((k : Int) == 9) = true := by rw [beq_iff_eq]; omega
              have b2 : decide (1 < V) = false := by rw [decide_eq_false_iff_not]; omega
              have b3 : decide (0 < k) = true := by rw [decide_eq_true_iff]; omega
              have b4 : (V == 0) = false := by rw [beq_eq_false_iff_ne]; omega
              clear hk99 hbad
              by_cases hpar : U % 2 = 1
              · have hpb : (U % 2 == 1) = true := by rw [beq_iff_eq]; exact hpar
                have hpar' := Lib.hid hpar
                clear hpar
                go_wp2
                all_goals go_ret
                · refine ⟨?_, ?_⟩ <;> rw [HR2.out]
                  · have := HU2.out
                    rw [if_pos hpar'.out] at this
                    exact ret_int this.symm
                  · exact HCUT.out (some ⟨b, o, none⟩) 0 (by omega) (by omega) (by have := HD.out; rw [if_pos (by assumption)] at this; exact this)
                · refine ⟨?_, ?_⟩ <;> rw [HR2.out]
                  · have := HU2.out
                    rw [if_pos hpar'.out] at this
                    exact ret_int this.symm
                  · exact HCUT.out (some ⟨b, o + (k + 1), none⟩) (c - (k + 1)) (by omega) (by omega) (by have := HD.out; rw [if_neg (by assumption)] at this; simpa [Lib.addr_add] using this)
              · have hpb : (U % 2 == 1) = false := by rw [beq_eq_false_iff_ne]; exact hpar
                have hpar' := Lib.hid hpar
                clear hpar
                go_wp2
                all_goals go_ret
                · refine ⟨?_, ?_⟩ <;> rw [HR2.out]
                  · have := HU2.out
                    rw [if_neg hpar'.out] at this
                    exact ret_int this.symm
                  · exact HCUT.out (some ⟨b, o, none⟩) 0 (by omega) (by omega) (by have := HD.out; rw [if_pos (by assumption)] at this; exact this)
                · refine ⟨?_, ?_⟩ <;> rw [HR2.out]
                  · have := HU2.out
                    rw [if_neg hpar'.out] at this
                    exact ret_int this.symm
                  · exact HCUT.out (some ⟨b, o + (k + 1), none⟩) (c - (k + 1)) (by omega) (by omega) (by have := HD.out; rw [if_neg (by assumption)] at this; simpa [Lib.addr_add] using this)
            · have b1 : ((k : Int) == 9) = false := by rw [beq_eq_false_iff_ne]; omega
              by_cases hk0 : 0 < k
              · have b3 : decide (0 < k) = true := by rw [decide_eq_true_iff]; omega
                have b4 : (V == 0) = false := by rw [beq_eq_false_iff_ne]; omega
                clear hk99 hbad hk0
                by_cases hpar : U % 2 = 1
                · have hpb : (U % 2 == 1) = true := by rw [beq_iff_eq]; exact hpar
                  have hpar' := Lib.hid hpar
                  clear hpar
                  go_wp2
                  all_goals go_ret
                  · refine ⟨?_, ?_⟩ <;> rw [HR2.out]
                    · have := HU2.out
                      rw [if_pos hpar'.out] at this
                      exact ret_int this.symm
                    · exact HCUT.out (some ⟨b, o, none⟩) 0 (by omega) (by omega) (by have := HD.out; rw [if_pos (by assumption)] at this; exact this)
                  · refine ⟨?_, ?_⟩ <;> rw [HR2.out]
                    · have := HU2.out
                      rw [if_pos hpar'.out] at this
                      exact ret_int this.symm
                    · exact HCUT.out (some ⟨b, o + (k + 1), none⟩) (c - (k + 1)) (by omega) (by omega) (by have := HD.out; rw [if_neg (by assumption)] at this; simpa [Lib.addr_add] using this)
                · have hpb : (U % 2 == 1) = false := by rw [beq_eq_false_iff_ne]; exact hpar
                  have hpar' := Lib.hid hpar
                  clear hpar
                  go_wp2
                  all_goals go_ret
                  · refine ⟨?_, ?_⟩ <;> rw [HR2.out]
                    · have := HU2.out
                      rw [if_neg hpar'.out] at this
                      exact ret_int this.symm
                    · exact HCUT.out (some ⟨b, o, none⟩) 0 (by omega) (by omega) (by have := HD.out; rw [if_pos (by assumption)] at this; exact this)
                  · refine ⟨?_, ?_⟩ <;> rw [HR2.out]
                    · have := HU2.out
                      rw [if_neg hpar'.out] at this
                      exact ret_int this.symm
                    · exact HCUT.out (some ⟨b, o + (k + 1), none⟩) (c - (k + 1)) (by omega) (by omega) (by have := HD.out; rw [if_neg (by assumption)] at this; simpa [Lib.addr_add] using this)
              · have b3 : decide (0 < k) = false := by rw [decide_eq_false_iff_not]; omega
                clear hk99 hbad hk0
                by_cases hpar : U % 2 = 1
                · have hpb : (U % 2 == 1) = true := by rw [beq_iff_eq]; exact hpar
                  have hpar' := Lib.hid hpar
                  clear hpar
                  go_wp2
                  all_goals go_ret
                  · refine ⟨?_, ?_⟩ <;> rw [HR2.out]
                    · have := HU2.out
                      rw [if_pos hpar'.out] at this
                      exact ret_int this.symm
                    · exact HCUT.out (some ⟨b, o, none⟩) 0 (by omega) (by omega) (by have := HD.out; rw [if_pos (by assumption)] at this; exact this)
                  · refine ⟨?_, ?_⟩ <;> rw [HR2.out]
                    · have := HU2.out
                      rw [if_pos hpar'.out] at this
                      exact ret_int this.symm
                    · exact HCUT.out (some ⟨b, o + (k + 1), none⟩) (c - (k + 1)) (by omega) (by omega) (by have := HD.out; rw [if_neg (by assumption)] at this; simpa [Lib.addr_add] using this)
                · have hpb : (U % 2 == 1) = false := by rw [beq_eq_false_iff_ne]; exact hpar
                  have hpar' := Lib.hid hpar
                  clear hpar
                  go_wp2
                  all_goals go_ret
                  · refine ⟨?_, ?_⟩ <;> rw [HR2.out]
                    · have := HU2.out
                      rw [if_neg hpar'.out] at this
                      exact ret_int this.symm
                    · exact HCUT.out (some ⟨b, o, none⟩) 0 (by omega) (by omega) (by have := HD.out; rw [if_pos (by assumption)] at this; exact this)
                  · refine ⟨?_, ?_⟩ <;> rw [HR2.out]
                    · have := HU2.out
                      rw [if_neg hpar'.out] at this
                      exact ret_int this.symm
                    · exact HCUT.out (some ⟨b, o + (k + 1), none⟩) (c - (k + 1)) (by omega) (by omega) (by have := HD.out; rw [if_neg (by assumption)] at this; simpa [Lib.addr_add] using this)
      · obtain rfl : k = 10 := by omega
        have hres : rInt st = (0, none) := HF.out (by simp only [rInt, H10.out rfl])
        have HRR := Lib.hid hres
        clear hres HLT H10
        go_wp2_with (go_at_call 129; refine (rrFail lo p st _ h).mono ?_; rintro e w1 ⟨rfl, q1, q2, q3⟩; have Q3 := Lib.hid q3; clear q3)
        go_ret
        refine ⟨?_, ?_, q2, Q3⟩ <;> rw [HRR.out]
        · rfl
        · exact q1
    · have hres : rInt st = (0, none) := HF.out (by
        have : numAt 0 0 l = none := by
          by_cases hk9 : k < 10
          · obtain ⟨a, _, _, hn⟩ := HLT.out hk9
            rw [← hn, List.drop_eq_nil_of_le (by omega)]; rfl
          · exact H10.out (by omega)
        simp only [rInt, this])
      have HRR := Lib.hid hres
      have hkd : decide ((l.length : Int) ≤ (k : Int)) = true := by rw [decide_eq_true_iff]; omega
      clear hres HLT H10
      go_wp2_with (go_at_call 129; refine (rrFail lo p st _ h).mono ?_; rintro e w1 ⟨rfl, q1, q2, q3⟩; have Q3 := Lib.hid q3; clear q3)
      go_ret
      refine ⟨?_, ?_, q2, Q3⟩ <;> rw [HRR.out]
      · rfl
      · exact q1

end Go.Proofs.YtmlmbahimklfiaaGreatDoor

/- Rfs -/
namespace Go.Proofs.YtmlmbahimklfiaaGreatDoor
open Go.RowKit

/-- '[]byte(s)': new memory that reads as the string's bytes. -/
theorem conv_bytes {P : Program} {src dst e : TypeId} {u : TypeDesc} (hs : P.underlying src = some u) (hd : P.underlying dst = some (.slice e)) (he : P.underlying e = some (.int .u8)) (w : World) (s : ByteArray) (hm : s.size ≤ maxLen) :
    ∃ A c w', (convert src dst (.string s)).run P w = .ok (.slice A s.size c) w' ∧ s.size ≤ c ∧ c ≤ maxLen ∧ Rd w' w.heap.size w'.heap.size A s.data.toList ∧ Fr NoB w w' := by
  refine ⟨_, _, _, Lib.run_convert_string_bytes w src dst e s hs hd he, grownCap_ge w _ 0 e, grownCap_le_maxLen w _ 0 e hm, fun _ => ⟨w.heap.size, 0, rfl, Nat.le_refl _, by rw [Lib.bytesWorld_size]; omega, fun i hi => ?_⟩, ?_⟩
  · rw [Nat.zero_add]
    exact Lib.bytesWorld_cell w e s i (by rw [Array.length_toList] at hi; exact hi)
  · exact ⟨rfl, rfl, rfl, by rw [Lib.bytesWorld_size]; omega, fun k hk _ => Lib.bytesWorld_at_old w e s k hk⟩

set_option maxHeartbeats 800000 in
theorem rrCount (lo p : Nat) (st : RSt) (m : Int) (w : World) (h : RRd w lo p st) :
    Calls Tryz.prog 168 #[.pointer (some ⟨p, 0, none⟩), .int .i64 m] w (RRres lo p (.int .i64 (rCount st m).1) (rCount st m).2 w) := by
  generalize hR : rCount st m = R
  have HR := Lib.hid hR
  clear hR
  obtain ⟨n, st', hn⟩ : ∃ n st', rInt st = (n, st') := ⟨_, _, rfl⟩
  have hI := fun W (hW : RRd W lo p st) => rrInt lo p st W hW
  rw [hn] at hI
  have HI := Lib.hid hI
  have HR2 : Hid (R = if n < 0 ∨ m < n then (0, none) else (n, st')) := by show _ = _; rw [← HR.out]; simp only [rCount, hn]
  clear hI hn HR
  by_cases h1 : n < 0
  · go_enter Tryz.func168, Tryz.ntmps168
    go_wp2_with (first | (go_at_call 72; refine (HI.out _ h).mono ?_; rintro e w1 ⟨rfl, q1, q2, q3⟩; have Q3 := Lib.hid q3; clear q3) | (go_at_call 129; refine (rrFail lo p _ _ q1).mono ?_; rintro e w2 ⟨rfl, s1, s2, s3⟩; have S3 := Lib.hid s3; clear s3))
    go_ret
    have e := HR2.out
    rw [if_pos (.inl h1)] at e
    exact ⟨by rw [e]; rfl, by rw [e]; exact s1, q2.then s2, S3.out.trans Q3.out⟩
  · by_cases h2 : m < n
    · have h1' : 0 ≤ n := by omega
      go_enter Tryz.func168, Tryz.ntmps168
      go_wp2_with (first | (go_at_call 72; refine (HI.out _ h).mono ?_; rintro e w1 ⟨rfl, q1, q2, q3⟩; have Q3 := Lib.hid q3; clear q3) | (go_at_call 129; refine (rrFail lo p _ _ q1).mono ?_; rintro e w2 ⟨rfl, s1, s2, s3⟩; have S3 := Lib.hid s3; clear s3))
      go_ret
      have e := HR2.out
      rw [if_pos (.inr h2)] at e
      exact ⟨by rw [e]; rfl, by rw [e]; exact s1, q2.then s2, S3.out.trans Q3.out⟩
    · have h1' : 0 ≤ n := by omega
      have h2' : n ≤ m := by omega
      go_enter Tryz.func168, Tryz.ntmps168
      go_wp2_with (go_at_call 72; refine (HI.out _ h).mono ?_; rintro e w1 ⟨rfl, q1, q2, q3⟩; have Q3 := Lib.hid q3; clear q3)
      go_ret
      have e := HR2.out
      rw [if_neg (by omega)] at e
      exact ⟨by rw [e]; rfl, by rw [e]; exact q1, q2, Q3⟩

theorem rBytes_eq (st : RSt) (m : Int) : rBytes st m = if (rInt st).1 < 0 ∨ m < (rInt st).1 ∨ (((rInt st).2.getD []).length : Int) < (rInt st).1 then ([], none) else (((rInt st).2.getD []).take (rInt st).1.toNat, (rInt st).2.map (·.drop (rInt st).1.toNat)) := by
  simp only [rBytes, rCount]
  obtain ⟨n, st', hn⟩ : ∃ n st', rInt st = (n, st') := ⟨_, _, rfl⟩
  rw [hn]
  by_cases h : n < 0 ∨ m < n
  · have h2 : n < 0 ∨ m < n ∨ ((st'.getD []).length : Int) < n := by omega
    simp only [if_pos h, if_pos h2, tk]
  · simp only [if_neg h]
    cases st' with
    | none =>
      simp only [tk, Option.getD_none, List.length_nil, Option.map_none, List.take_nil]
      split <;> rfl
    | some l =>
      simp only [tk, Option.getD_some, Option.map_some]
      by_cases h3 : (l.length : Int) < n
      · rw [if_neg (by omega), if_pos (by omega)]
      · rw [if_pos (by omega), if_neg (by omega)]

set_option maxHeartbeats 1600000 in
theorem rrText (lo p : Nat) (st : RSt) (m : Int) (w : World) (h : RRd w lo p st) :
    Calls Tryz.prog 130 #[.pointer (some ⟨p, 0, none⟩), .int .i64 m] w (RRres lo p (.string ⟨(rBytes st m).1.toArray⟩) (rBytes st m).2 w) := by
  have HB : Hid _ := rBytes_eq st m
  obtain ⟨n, st', hn⟩ : ∃ n st', rInt st = (n, st') := ⟨_, _, rfl⟩
  have hI := fun W (hW : RRd W lo p st) => rrInt lo p st W hW
  rw [hn] at hI HB
  generalize rBytes st m = R at HB ⊢
  have HI := Lib.hid hI
  clear hI hn
  by_cases hbad : n < 0 ∨ m < n ∨ ((st'.getD []).length : Int) < n
  · have HR : Hid (R = ([], none)) := by have := HB.out; rw [if_pos hbad] at this; exact this
    clear HB
    by_cases h1 : n < 0
    · clear hbad
      go_enter Tryz.func130, Tryz.ntmps130
      go_wp2_with (first | (go_at_call 72; refine (HI.out _ h).mono ?_; rintro e w1 ⟨rfl, q1, q2, q3⟩; have Q3 := Lib.hid q3; clear q3; have hx := q1; obtain ⟨A, c, hp, hl, hc, hr⟩ := hx; have c0 := (cells_of hp 0).1; simp only [List.getElem?_toArray, List.getElem?_cons_zero] at c0; clear hp hr) | (go_at_call 129; refine (rrFail lo p _ _ q1).mono ?_; rintro e w2 ⟨rfl, s1, s2, s3⟩; have S3 := Lib.hid s3; clear s3))
      go_ret
      refine ⟨?_, ?_, q2.then s2, S3.out.trans Q3.out⟩ <;> rw [HR.out]
      · rfl
      · exact s1
    · have h0 : 0 ≤ n := by omega
      by_cases h2 : m < n
      · clear hbad h1
        go_enter Tryz.func130, Tryz.ntmps130
        go_wp2_with (first | (go_at_call 72; refine (HI.out _ h).mono ?_; rintro e w1 ⟨rfl, q1, q2, q3⟩; have Q3 := Lib.hid q3; clear q3; have hx := q1; obtain ⟨A, c, hp, hl, hc, hr⟩ := hx; have c0 := (cells_of hp 0).1; simp only [List.getElem?_toArray, List.getElem?_cons_zero] at c0; clear hp hr) | (go_at_call 129; refine (rrFail lo p _ _ q1).mono ?_; rintro e w2 ⟨rfl, s1, s2, s3⟩; have S3 := Lib.hid s3; clear s3))
        go_ret
        refine ⟨?_, ?_, q2.then s2, S3.out.trans Q3.out⟩ <;> rw [HR.out]
        · rfl
        · exact s1
      · have h3 : ((st'.getD []).length : Int) < n := by omega
        have h2' : n ≤ m := by omega
        clear hbad h1 h2
        go_enter Tryz.func130, Tryz.ntmps130
        go_wp2_with (first | (go_at_call 72; refine (HI.out _ h).mono ?_; rintro e w1 ⟨rfl, q1, q2, q3⟩; have Q3 := Lib.hid q3; clear q3; have hx := q1; obtain ⟨A, c, hp, hl, hc, hr⟩ := hx; have c0 := (cells_of hp 0).1; simp only [List.getElem?_toArray, List.getElem?_cons_zero] at c0; clear hp hr) | (go_at_call 129; refine (rrFail lo p _ _ q1).mono ?_; rintro e w2 ⟨rfl, s1, s2, s3⟩; have S3 := Lib.hid s3; clear s3))
        go_ret
        refine ⟨?_, ?_, q2.then s2, S3.out.trans Q3.out⟩ <;> rw [HR.out]
        · rfl
        · exact s1
  · have HR : Hid (R = ((st'.getD []).take n.toNat, st'.map (·.drop n.toNat))) := by have := HB.out; rw [if_neg hbad] at this; exact this
    clear HB
    obtain ⟨k, rfl⟩ := Int.eq_ofNat_of_zero_le (show 0 ≤ n by omega)
    have h2 : (k : Int) ≤ m := by omega
    have h3 : k ≤ (st'.getD []).length := by omega
    rw [Int.toNat_natCast] at HR
    clear hbad
    have hst2 : (st'.map (·.drop k)).getD [] = (st'.getD []).drop k := by cases st' <;> simp
    have hst3 : (!st'.isSome) = !(st'.map (·.drop k)).isSome := by cases st' <;> rfl
    have HS2 := Lib.hid hst2
    have HS3 := Lib.hid hst3
    clear hst2 hst3
    go_enter Tryz.func130, Tryz.ntmps130
    go_wp2_with (go_at_call 72; refine (HI.out _ h).mono ?_)
    rintro e w1 ⟨rfl, q1, q2, q3⟩
    have Q3 := Lib.hid q3
    clear q3
    obtain ⟨A, c, hp, hl, hc, hr⟩ := q1
    generalize hL : st'.getD [] = l at *
    have HLL := Lib.hid hL
    clear hL
    have c0 := (cells_of hp 0).1
    have f0 := (cells_of hp 0).2
    simp only [List.getElem?_toArray, List.getElem?_cons_zero] at c0
    have htl : (l.take k).length = k := by simp; omega
    have hconv := fun cc => conv_string (P := Tryz.prog) (c := cc) Tryz.underlying24 Tryz.underlying5 Tryz.underlying9 (hr.take (n := k))
    rw [htl] at hconv
    have hcut := fun A' c' p1 p2 hr' => rr_cut (lo := lo) (n := k) (A' := A') (c' := c') hp hc p1 p2 hr' (st'.map (·.drop k)) (by rw [HS2.out]) HS3.out
    have HCUT := Lib.hid hcut
    have HD := Lib.hid (Rd.drop (n := k) hr h3 hl)
    have hc' := hc
    unfold maxLen at hc'
    clear hcut hp hr htl
    go_wp2
    all_goals go_ret
    · refine ⟨?_, ?_⟩ <;> rw [HR.out]
      · rfl
      · have q := HCUT.out A 0 (by omega) (by omega) (by have := HD.out; rw [if_pos (by assumption)] at this; exact this)
        exact ⟨q.1, q2.then q.2.1, q.2.2.trans Q3.out⟩
    · refine ⟨?_, ?_⟩ <;> rw [HR.out]
      · rfl
      · have q := HCUT.out (A.map (·.add k)) (c - k) (by omega) (by omega) (by have := HD.out; rw [if_neg (by assumption)] at this; exact this)
        exact ⟨q.1, q2.then q.2.1, q.2.2.trans Q3.out⟩

/-- What Bytes answers: new memory. -/
def RRresB (lo p : Nat) (l : List UInt8) (st : RSt) (w : World) (e : Ending) (w' : World) : Prop :=
  ∃ A c, e = .returned (.slice A l.length c) ∧ l.length ≤ c ∧ c ≤ maxLen ∧ Rd w' w.heap.size w'.heap.size A l ∧ RRd w' lo p st ∧ Fr (OneB p) w w'

set_option maxHeartbeats 800000 in
theorem rrBytes (lo p : Nat) (st : RSt) (m : Int) (w : World) (h : RRd w lo p st) (hlo : lo ≤ p) (hl : RLim st) :
    Calls Tryz.prog 131 #[.pointer (some ⟨p, 0, none⟩), .int .i64 m] w (RRresB lo p (rBytes st m).1 (rBytes st m).2 w) := by
  have hl2 : (rBytes st m).1.length ≤ 140737488355328 := (tk_lim (n := (rCount st m).1) (rCount_lim (m := m) hl)).2
  obtain ⟨s, hs⟩ : ∃ s : ByteArray, s = ⟨(rBytes st m).1.toArray⟩ := ⟨_, rfl⟩
  have hs1 : s.size = (rBytes st m).1.length := by rw [hs]; rfl
  have hs2 : s.data.toList = (rBytes st m).1 := by rw [hs]
  have hT := fun W (hW : RRd W lo p st) => rrText lo p st m W hW
  rw [← hs] at hT
  have HT := Lib.hid hT
  have HS1 := Lib.hid hs1
  have HS2 := Lib.hid hs2
  clear hT hs hs1 hs2
  generalize rBytes st m = R at *
  go_enter Tryz.func131, Tryz.ntmps131
  go_wp2_with (go_at_call 130; refine (HT.out _ h).mono ?_; rintro e w1 ⟨rfl, q1, q2, q3⟩; have Q3 := Lib.hid q3; clear q3; obtain ⟨A, c, w2, hcv, k1, k2, k3, k4⟩ := conv_bytes (P := Tryz.prog) Tryz.underlying9 Tryz.underlying24 Tryz.underlying5 w1 s (by rw [HS1.out]; unfold maxLen; omega))
  go_ret
  rw [HS1.out] at k1
  rw [HS2.out, Q3.out] at k3
  have q4 : RRd w2 lo p R.2 := q1.fr k4 (fun _ _ _ x => x) hlo
  exact ⟨A, c, by rw [← HS1.out]; rfl, k1, k2, k3, q4, q2.trans k4 fun _ _ x => x.elim⟩

set_option maxHeartbeats 800000 in
theorem rrNew (A : Option Addr) (l : List UInt8) (c lo hi : Nat) (w : World) (hr : Rd w lo hi A l) (hh : hi ≤ w.heap.size) (hlim : l.length ≤ 140737488355328) :
    Calls Tryz.prog 70 #[.slice A l.length c] w fun e w' => ∃ p, e = .returned (.pointer (some ⟨p, 0, none⟩)) ∧ w.heap.size ≤ p ∧ RRd w' w.heap.size p (some l) ∧ Fr NoB w w' ∧ w'.heap.size = p + 1 := by
  obtain ⟨i0, hi0, hz0, hz1, hz2⟩ := info_parts info_byte
  have hr2 : Rd (w.alloc (.cells #[] 5)) lo hi A l := hr.fr ((Fr.refl NoB w).alloc _) hh fun _ _ _ x => x
  have ho2 := World.ownsRow_lit (size := 1) (base := w.heap.size) (e := 5) w #[] 0 (Nat.le_refl _) (by unfold maxLen; omega) rfl
  have HO2 := Lib.hid ho2
  have HS := Lib.hid hr2.srcs
  clear ho2 hr2
  go_enter Tryz.func70, Tryz.ntmps70
  go_wp2_with (at_builtin; refine wpList_append_src _ rfl _ _ 24 rfl w.heap.size 5 i0 (.int .u8 0) 1 1 Tryz.underlying24 hi0 hz0 hz1 hz2 rfl (by decide) _ _ _ rfl HO2.out A l.length c (bv l) rfl (by simp) HS.out (bv_one _) (by unfold maxLen; omega) (by omega) (by simp) ?_)
  intro v' w1 ha
  have f : Fr NoB w w1 := ((Fr.refl NoB w).alloc _).trans ha.fr fun k hk h => by simp only [Value.ownBlock, Option.some.injEq] at h; omega
  obtain ⟨A2, c2, rfl, h1, h2, hr1⟩ := (show App w.heap.size 5 1 _ (0 + l.length) (bv l) _ v' w1 by simpa using ha).rd
  clear ha
  have hr3 : Rd (w1.alloc (.cells #[.slice A2 l.length c2, .bool false] 169)) w.heap.size w1.heap.size A2 l := hr1.keep fun k _ hk => Below.heap_alloc _ _ _ hk
  go_wp2
  go_ret
  exact ⟨_, rfl, f.size, ⟨A2, c2, heap_alloc_new w1 _, h1, h2, hr3⟩, f.alloc _, by simp⟩

end Go.Proofs.YtmlmbahimklfiaaGreatDoor

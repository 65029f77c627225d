/-
  Rfr: the reference's Reader.
-/
import Derived.Test.YtmklmjggichfhaaGreatDoorRdb
import Derived.Test.YtmklmjggichfhaaGreatDoorFrm
namespace Go.Proofs.YtmklmjggichfhaaGreatDoor
open Go.RowKit

/-- Block p is a beadleref03.Reader in the state st; its bytes lie in the blocks from lo on, below p. -/
def RRd (w : World) (lo p : Nat) (st : RSt) : Prop :=
  ∃ A c, w.heap[p]? = some (.cells #[.slice A (st.getD []).length c, .bool (!st.isSome)] 72 (0, 0)) ∧ (st.getD []).length ≤ c ∧ c ≤ maxLen ∧ Rd w lo p A (st.getD [])
theorem RRd.lt {w : World} {lo p : Nat} {st : RSt} (h : RRd w lo p st) : p < w.heap.size := by obtain ⟨A, c, h, _⟩ := h; exact Lib.lt_of_heap h
theorem RRd.fr {M : Nat → Prop} {w w' : World} {lo p : Nat} {st : RSt} (h : RRd w lo p st) (hf : Fr M w w') (hm : ∀ k, lo ≤ k → k ≤ p → ¬ M k) (hlo : lo ≤ p) : RRd w' lo p st := by
  have hlt := h.lt
  obtain ⟨A, c, h, h1, h2, h3⟩ := h
  exact ⟨A, c, (hf.block p hlt (hm p hlo (Nat.le_refl _))).trans h, h1, h2, h3.fr hf (by omega) fun k a b => hm k a (by omega)⟩
/-- What a call of the reference's reader answers. -/
def RRres (lo p : Nat) (v : Value) (st : RSt) (w : World) (e : Ending) (w' : World) : Prop :=
  e = .returned v ∧ RRd w' lo p st ∧ Fr (OneB p) w w' ∧ w'.heap.size = w.heap.size

set_option maxRecDepth 8000 in
set_option maxHeartbeats 400000 in
theorem rrFail (lo p : Nat) (st : RSt) (w : World) (h : RRd w lo p st) :
    Calls Tryz.prog 54 #[.pointer (some ⟨p, 0, none⟩)] w (RRres lo p (.tuple #[]) none w) := by
  obtain ⟨A, c, hp, _⟩ := h
  have c0 := (cells_of hp 0).1
  have c1 := (cells_of hp 1).1
  have f0 := (cells_of hp 0).2
  have f1 := (cells_of hp 1).2
  simp only [List.getElem?_toArray, List.getElem?_cons_zero, List.getElem?_cons_succ] at c0 c1
  have q : RRd ((w.setCell ⟨p, 1, none⟩ (.bool true)).setCell ⟨p, 0, none⟩ (.slice none 0 0)) lo p none := by
    refine ⟨none, 0, ?_, by simp, by unfold maxLen; omega, Rd.nil _ _ _ _⟩
    rw [heap_set (heap_set hp _)]; rfl
  clear hp
  go_enter Tryz.func54, Tryz.ntmps54
  go_wp2
  go_end0
  exact ⟨rfl, q, ((Fr.refl (OneB p) w).setCell (p := ⟨p, 1, none⟩) (fun _ => rfl) _).setCell (p := ⟨p, 0, none⟩) (fun _ => rfl) _, by simp [World.setCell]⟩

/-- The reader's bytes cut behind n. -/
theorem rr_cut {w : World} {lo p n c c' : Nat} {A A' : Option Addr} {l : List UInt8} {b : Bool} (hp : w.heap[p]? = some (.cells #[.slice A l.length c, .bool b] 72 (0, 0))) (hc : c ≤ maxLen)
    (hc1 : l.length - n ≤ c') (hc2 : c' ≤ c) (hr' : Rd w lo p A' (l.drop n)) (st : RSt) (hst : st.getD [] = l.drop n) (hb : b = !st.isSome) :
    RRd (w.setCell ⟨p, 0, none⟩ (.slice A' (l.length - n) c')) lo p st ∧ Fr (OneB p) w (w.setCell ⟨p, 0, none⟩ (.slice A' (l.length - n) c')) ∧ (w.setCell ⟨p, 0, none⟩ (.slice A' (l.length - n) c')).heap.size = w.heap.size := by
  have hF : Fr (OneB p) w (w.setCell ⟨p, 0, none⟩ (.slice A' (l.length - n) c')) := (Fr.refl (OneB p) w).setCell (p := ⟨p, 0, none⟩) (fun _ => rfl) _
  have hlt := Lib.lt_of_heap hp
  have e2 : (l.drop n).length = l.length - n := by simp
  refine ⟨⟨A', c', ?_, by rw [hst]; omega, by omega, ?_⟩, hF, by simp [World.setCell]⟩
  · rw [hst, e2, heap_set hp, ← hb]; rfl
  · rw [hst]; exact hr'.fr hF (by omega) (fun k _ h => by simp [OneB]; omega)

theorem shr_step (acc V k : Nat) (hk : k ≤ 8) (ha : acc < 128 ^ k) (hV : V < 128) : acc + V * 128 ^ k < 18446744073709551616 := by
  have hp : (128 : Nat) ^ k ≤ 128 ^ 8 := Nat.pow_le_pow_right (by omega) hk
  have := Nat.mul_le_mul (show V ≤ 127 by omega) hp
  omega

theorem rr_bits (a v k : Nat) (h : a + v * 128 ^ k < 18446744073709551616) : IntKind.u64.wrap ((a : Int) + IntKind.u64.wrap ((v : Int) * 2 ^ (7 * k))) = ((a + v * 128 ^ k : Nat) : Int) := by
  have e : ((v : Int) * 2 ^ (7 * k)) = ((v * 128 ^ k : Nat) : Int) := by rw [pow_128, Int.natCast_mul, Int.natCast_pow]; rfl
  rw [e, IntKind.wrap_u64, IntKind.wrap_u64]
  omega

set_option maxRecDepth 8000 in
set_option maxHeartbeats 3200000 in
theorem rrInt (lo p : Nat) (st : RSt) (w : World) (h : RRd w lo p st) :
    Calls Tryz.prog 53 #[.pointer (some ⟨p, 0, none⟩)] w (RRres lo p (.int .i64 (rInt st).1) (rInt st).2 w) := by
  obtain ⟨A, c, hp, hl, hc, hr⟩ := id h
  have c0 := (cells_of hp 0).1
  have f0 := (cells_of hp 0).2
  simp only [List.getElem?_toArray, List.getElem?_cons_zero] at c0
  have hc' := hc
  unfold maxLen at hc'
  have hfail : rInt (some (st.getD [])) = (0, none) → rInt st = (0, none) := by
    intro hh
    cases st with
    | none => rfl
    | some l => exact hh
  have HP := Lib.hid hp
  clear hp
  generalize hL : st.getD [] = l at *
  have hlm : l.length ≤ 9223372036854775807 := by omega
  have HF := Lib.hid hfail
  have HL := Lib.hid hL
  clear hfail hL
  go_enter Tryz.func53, Tryz.ntmps53
  go_wp2
  go_loop [3, 4] (fun u i => ∃ (k : Nat) (acc : Int), u = .int .u64 acc ∧ i = .int .i64 (k : Int) ∧ k ≤ l.length ∧ k ≤ 10 ∧ (k = 10 → numAt 0 0 l = none) ∧ (k < 10 → ∃ a : Nat, acc = (a : Int) ∧ a < 128 ^ k ∧ numAt k a (l.drop k) = numAt 0 0 l)) (fun _ i => l.length - (intOf i).toNat)
  case atStart => exact ⟨0, 0, rfl, rfl, Nat.zero_le _, by omega, by omega, fun _ => ⟨0, rfl, by simp, rfl⟩⟩
  case round =>
    obtain ⟨k, acc, rfl, rfl, hk, hk10, h10, hlt10⟩ := hrel
    have H10 := Lib.hid h10
    have HLT := Lib.hid hlt10
    clear h10 hlt10
    by_cases hkl : k < l.length
    · by_cases hk9 : k < 10
      · obtain ⟨a, hacc, ha, hn⟩ := HLT.out hk9
        have HACC := Lib.hid hacc
        clear hacc
        obtain ⟨b, o, rfl, -, -, hcell0⟩ := hr (by omega)
        have hcell := hcell0 k hkl
        have hV := (l.getD k 0).toNat_lt
        have HC := Lib.hid (show l.drop k = l.getD k 0 :: l.drop (k + 1) by rw [List.drop_eq_getElem_cons hkl]; simp [List.getD, hkl])
        have HN := Lib.hid hn
        have HA := Lib.hid ha
        have HR := Lib.hid hr
        clear hn ha hr hcell0 HLT H10
        generalize l.getD k 0 = x at hcell hV HC
        obtain ⟨V, hcV⟩ : ∃ V : Int, (x.toNat : Int) = V := ⟨_, rfl⟩
        rw [hcV] at hcell
        have hV0 : 0 ≤ V := by omega
        have hV1 : V ≤ 255 := by omega
        have HcV := Lib.hid hcV
        clear hcV hV
        by_cases h128 : 128 ≤ V
        · go_wp2
          go_round
          case rel =>
            have hVn : (V - 128) = ((x.toNat - 128 : Nat) : Int) := by have := HcV.out; omega
            have hx := x.toNat_lt
            by_cases hk8 : k < 9
            · have hb := shr_step a (x.toNat - 128) k (by omega) HA.out (by have := HcV.out; omega)
              refine ⟨k + 1, _, rfl, by go_num, by omega, by omega, by omega, fun _ => ⟨a + (x.toNat - 128) * 128 ^ k, ?_, ?_, ?_⟩⟩
              · rw [HACC.out, hVn]; exact rr_bits _ _ _ hb
              · have := HA.out
                have hm : x.toNat - 128 ≤ 127 := by omega
                have := Nat.mul_le_mul_right (128 ^ k) hm
                rw [Nat.pow_succ]; omega
              · rw [← HN.out, HC.out, numAt, if_pos ⟨by have := HcV.out; omega, hk8⟩]
            · refine ⟨k + 1, _, rfl, by go_num, by omega, by omega, fun _ => ?_, by omega⟩
              rw [← HN.out, HC.out, numAt, if_neg (by omega), if_pos (.inr ⟨by have := HcV.out; omega, by omega⟩)]
          case measure => simp [intOf]; omega
        · have hkc : ((k : Int) == 10) = false := by rw [beq_eq_false_iff_ne]; omega
          have hkd : decide ((l.length : Int) ≤ (k : Int)) = false := by rw [decide_eq_false_iff_not]; omega
          by_cases hbad : (V = 0 ∧ 0 < k) ∨ (1 < V ∧ k = 9)
          · have hres : rInt st = (0, none) := HF.out (by
              have : numAt 0 0 l = none := by rw [← HN.out, HC.out, numAt, if_neg (by have := HcV.out; omega), if_pos (by have := HcV.out; omega)]
              simp only [rInt, this])
            have HRR := Lib.hid hres
            clear hres
            have hp0 : decide (0 < k) = true ∨ k = 9 := by
              by_cases h9 : k = 9
              · exact .inr h9
              · exact .inl (by rw [decide_eq_true_iff]; omega)
            by_cases hk99 : k = 9
            · have b1 : ((k : Int) == 9) = true := by rw [beq_iff_eq]; omega
              have b3 : decide (0 < k) = true := by rw [decide_eq_true_iff]; omega
              clear hp0 hk99
              by_cases hV1 : 1 < V
              · have b2 : decide (1 < V) = true := by rw [decide_eq_true_iff]; omega
                clear hbad
                go_wp2_with (go_at_call 54; refine (rrFail lo p st _ h).mono ?_; rintro e w1 ⟨rfl, q1, q2, q3⟩; have Q3 := Lib.hid q3; clear q3)
                go_ret
                refine ⟨?_, ?_, q2, Q3⟩ <;> rw [HRR.out]
                · rfl
                · exact q1
              · have b2 : decide (1 < V) = false := by rw [decide_eq_false_iff_not]; omega
                obtain rfl : V = 0 := by omega
                clear hbad
                go_wp2_with (go_at_call 54; refine (rrFail lo p st _ h).mono ?_; rintro e w1 ⟨rfl, q1, q2, q3⟩; have Q3 := Lib.hid q3; clear q3)
                go_ret
                refine ⟨?_, ?_, q2, Q3⟩ <;> rw [HRR.out]
                · rfl
                · exact q1
            · have b1 : ((k : Int) == 9) = false := by rw [beq_eq_false_iff_ne]; omega
              obtain rfl : V = 0 := by omega
              have b3 : decide (0 < k) = true := by rw [decide_eq_true_iff]; omega
              clear hp0 hk99 hbad
              go_wp2_with (go_at_call 54; refine (rrFail lo p st _ h).mono ?_; rintro e w1 ⟨rfl, q1, q2, q3⟩; have Q3 := Lib.hid q3; clear q3)
              go_ret
              refine ⟨?_, ?_, q2, Q3⟩ <;> rw [HRR.out]
              · rfl
              · exact q1
          · have hU : a + x.toNat * 128 ^ k < 18446744073709551616 := by
              have hx9 : k = 9 → x.toNat ≤ 1 := by have := HcV.out; omega
              have := rd_bound a x.toNat k (by omega) HA.out hx9
              rwa [show x.toNat % 128 = x.toNat by have := HcV.out; omega] at this
            have hres : rInt (some l) = (unzig (a + x.toNat * 128 ^ k), some (l.drop (k + 1))) := by
              have : numAt 0 0 l = some (a + x.toNat * 128 ^ k, l.drop (k + 1)) := by
                rw [← HN.out, HC.out, numAt, if_neg (by have := HcV.out; omega), if_neg (by have := HcV.out; omega)]
              simp only [rInt, this]
            obtain rfl : st = some l := by
              have := HL.out
              cases st with
              | none => simp at this; subst this; simp at hkl
              | some l' => simp at this; rw [this]
            obtain ⟨U, hUe⟩ : ∃ U : Int, ((a + x.toNat * 128 ^ k : Nat) : Int) = U := ⟨_, rfl⟩
            have hU0 : 0 ≤ U := by omega
            have hU1 : U ≤ 18446744073709551615 := by omega
            have hst : IntKind.u64.wrap (acc + IntKind.u64.wrap (V * 2 ^ (7 * k))) = U := by
              rw [HACC.out, ← HcV.out, ← hUe]; exact rr_bits _ _ _ hU
            have HU2 : Hid (unzig (a + x.toNat * 128 ^ k) = if U % 2 = 1 then -(U / 2) - 1 else U / 2) := by
              show _ = _
              unfold unzig
              split <;> split <;> omega
            have HR2 : Hid (rInt (some l) = (unzig (a + x.toNat * 128 ^ k), some (l.drop (k + 1)))) := hres
            have hcut := fun A' c' p1 p2 hr' => rr_cut (lo := lo) (n := k + 1) (A' := A') (c' := c') HP.out hc p1 p2 hr' (some (l.drop (k + 1))) rfl rfl
            have HCUT := Lib.hid hcut
            have HD := Lib.hid (Rd.drop (n := k + 1) HR.out (by omega) hl)
            clear hres hcut hU hUe HP HN HC HA HF HL HACC HR h
            by_cases hk99 : k = 9
            · have b1 : ((k : Int) == 9) = true := by rw [beq_iff_eq]; omega
              have b2 : decide (1 < V) = false := by rw [decide_eq_false_iff_not]; omega
              have b3 : decide (0 < k) = true := by rw [decide_eq_true_iff]; omega
              have b4 : (V == 0) = false := by rw [beq_eq_false_iff_ne]; omega
              clear hk99 hbad
              by_cases hpar : U % 2 = 1
              · have hpb : (U % 2 == 1) = true := by rw [beq_iff_eq]; exact hpar
                have hpar' := Lib.hid hpar
                clear hpar
                go_wp2
                all_goals go_ret
                · refine ⟨?_, ?_⟩ <;> rw [HR2.out]
                  · have := HU2.out
                    rw [if_pos hpar'.out] at this
                    exact ret_int this.symm
                  · exact HCUT.out (some ⟨b, o, none⟩) 0 (by omega) (by omega) (by have := HD.out; rw [if_pos (by assumption)] at this; exact this)
                · refine ⟨?_, ?_⟩ <;> rw [HR2.out]
                  · have := HU2.out
                    rw [if_pos hpar'.out] at this
                    exact ret_int this.symm
                  · exact HCUT.out (some ⟨b, o + (k + 1), none⟩) (c - (k + 1)) (by omega) (by omega) (by have := HD.out; rw [if_neg (by assumption)] at this; simpa [Lib.addr_add] using this)
              · have hpb : (U % 2 == 1) = false := by rw [beq_eq_false_iff_ne]; exact hpar
                have hpar' := Lib.hid hpar
                clear hpar
                go_wp2
                all_goals go_ret
                · refine ⟨?_, ?_⟩ <;> rw [HR2.out]
                  · have := HU2.out
                    rw [if_neg hpar'.out] at this
                    exact ret_int this.symm
                  · exact HCUT.out (some ⟨b, o, none⟩) 0 (by omega) (by omega) (by have := HD.out; rw [if_pos (by assumption)] at this; exact this)
                · refine ⟨?_, ?_⟩ <;> rw [HR2.out]
                  · have := HU2.out
                    rw [if_neg hpar'.out] at this
                    exact ret_int this.symm
                  · exact HCUT.out (some ⟨b, o + (k + 1), none⟩) (c - (k + 1)) (by omega) (by omega) (by have := HD.out; rw [if_neg (by assumption)] at this; simpa [Lib.addr_add] using this)
            · have b1 : ((k : Int) == 9) = false := by rw [beq_eq_false_iff_ne]; omega
              by_cases hk0 : 0 < k
              · have b3 : decide (0 < k) = true := by rw [decide_eq_true_iff]; omega
                have b4 : (V == 0) = false := by rw [beq_eq_false_iff_ne]; omega
                clear hk99 hbad hk0
                by_cases hpar : U % 2 = 1
                · have hpb : (U % 2 == 1) = true := by rw [beq_iff_eq]; exact hpar
                  have hpar' := Lib.hid hpar
                  clear hpar
                  go_wp2
                  all_goals go_ret
                  · refine ⟨?_, ?_⟩ <;> rw [HR2.out]
                    · have := HU2.out
                      rw [if_pos hpar'.out] at this
                      exact ret_int this.symm
                    · exact HCUT.out (some ⟨b, o, none⟩) 0 (by omega) (by omega) (by have := HD.out; rw [if_pos (by assumption)] at this; exact this)
                  · refine ⟨?_, ?_⟩ <;> rw [HR2.out]
                    · have := HU2.out
                      rw [if_pos hpar'.out] at this
                      exact ret_int this.symm
                    · exact HCUT.out (some ⟨b, o + (k + 1), none⟩) (c - (k + 1)) (by omega) (by omega) (by have := HD.out; rw [if_neg (by assumption)] at this; simpa [Lib.addr_add] using this)
                · have hpb : (U % 2 == 1) = false := by rw [beq_eq_false_iff_ne]; exact hpar
                  have hpar' := Lib.hid hpar
                  clear hpar
                  go_wp2
                  all_goals go_ret
                  · refine ⟨?_, ?_⟩ <;> rw [HR2.out]
                    · have := HU2.out
                      rw [if_neg hpar'.out] at this
                      exact ret_int this.symm
                    · exact HCUT.out (some ⟨b, o, none⟩) 0 (by omega) (by omega) (by have := HD.out; rw [if_pos (by assumption)] at this; exact this)
                  · refine ⟨?_, ?_⟩ <;> rw [HR2.out]
                    · have := HU2.out
                      rw [if_neg hpar'.out] at this
                      exact ret_int this.symm
                    · exact HCUT.out (some ⟨b, o + (k + 1), none⟩) (c - (k + 1)) (by omega) (by omega) (by have := HD.out; rw [if_neg (by assumption)] at this; simpa [Lib.addr_add] using this)
              · have b3 : decide (0 < k) = false := by rw [decide_eq_false_iff_not]; omega
                clear hk99 hbad hk0
                by_cases hpar : U % 2 = 1
                · have hpb : (U % 2 == 1) = true := by rw [beq_iff_eq]; exact hpar
                  have hpar' := Lib.hid hpar
                  clear hpar
                  go_wp2
                  all_goals go_ret
                  · refine ⟨?_, ?_⟩ <;> rw [HR2.out]
                    · have := HU2.out
                      rw [if_pos hpar'.out] at this
                      exact ret_int this.symm
                    · exact HCUT.out (some ⟨b, o, none⟩) 0 (by omega) (by omega) (by have := HD.out; rw [if_pos (by assumption)] at this; exact this)
                  · refine ⟨?_, ?_⟩ <;> rw [HR2.out]
                    · have := HU2.out
                      rw [if_pos hpar'.out] at this
                      exact ret_int this.symm
                    · exact HCUT.out (some ⟨b, o + (k + 1), none⟩) (c - (k + 1)) (by omega) (by omega) (by have := HD.out; rw [if_neg (by assumption)] at this; simpa [Lib.addr_add] using this)
                · have hpb : (U % 2 == 1) = false := by rw [beq_eq_false_iff_ne]; exact hpar
                  have hpar' := Lib.hid hpar
                  clear hpar
                  go_wp2
                  all_goals go_ret
                  · refine ⟨?_, ?_⟩ <;> rw [HR2.out]
                    · have := HU2.out
                      rw [if_neg hpar'.out] at this
                      exact ret_int this.symm
                    · exact HCUT.out (some ⟨b, o, none⟩) 0 (by omega) (by omega) (by have := HD.out; rw [if_pos (by assumption)] at this; exact this)
                  · refine ⟨?_, ?_⟩ <;> rw [HR2.out]
                    · have := HU2.out
                      rw [if_neg hpar'.out] at this
                      exact ret_int this.symm
                    · exact HCUT.out (some ⟨b, o + (k + 1), none⟩) (c - (k + 1)) (by omega) (by omega) (by have := HD.out; rw [if_neg (by assumption)] at this; simpa [Lib.addr_add] using this)
      · obtain rfl : k = 10 := by omega
        have hres : rInt st = (0, none) := HF.out (by simp only [rInt, H10.out rfl])
        have HRR := Lib.hid hres
        clear hres HLT H10
        go_wp2_with (go_at_call 54; refine (rrFail lo p st _ h).mono ?_; rintro e w1 ⟨rfl, q1, q2, q3⟩; have Q3 := Lib.hid q3; clear q3)
        go_ret
        refine ⟨?_, ?_, q2, Q3⟩ <;> rw [HRR.out]
        · rfl
        · exact q1
    · have hres : rInt st = (0, none) := HF.out (by
        have : numAt 0 0 l = none := by
          by_cases hk9 : k < 10
          · obtain ⟨a, _, _, hn⟩ := HLT.out hk9
            rw [← hn, List.drop_eq_nil_of_le (by omega)]; rfl
          · exact H10.out (by omega)
        simp only [rInt, this])
      have HRR := Lib.hid hres
      have hkd : decide ((l.length : Int) ≤ (k : Int)) = true := by rw [decide_eq_true_iff]; omega
      clear hres HLT H10
      go_wp2_with (go_at_call 54; refine (rrFail lo p st _ h).mono ?_; rintro e w1 ⟨rfl, q1, q2, q3⟩; have Q3 := Lib.hid q3; clear q3)
      go_ret
      refine ⟨?_, ?_, q2, Q3⟩ <;> rw [HRR.out]
      · rfl
      · exact q1

end Go.Proofs.YtmklmjggichfhaaGreatDoor

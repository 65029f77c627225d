/-
  Rdb: Rdr, Rdb.
-/
import Derived.Test.YtlckgkpgllhpbaaDoorWtr
/- Rdr -/
namespace Go.Proofs.YtlckgkpgllhpbaaDoor
open Go.RowKit

/-- Block p is a wire.Reader in the state st; its bytes lie in the blocks from lo on, below p. -/
def Rdr (w : World) (lo p : Nat) : RSt → Prop
  | none => w.heap[p]? = some (.cells #[.slice none 0 0, .bool false] 133 (0, 0))
  | some l => ∃ A c, w.heap[p]? = some (.cells #[.slice A l.length c, .bool true] 133 (0, 0)) ∧ l.length ≤ c ∧ c ≤ maxLen ∧ Rd w lo p A l

theorem Rdr.lt {w : World} {lo p : Nat} {st : RSt} (h : Rdr w lo p st) : p < w.heap.size := by
  cases st with
  | none => exact Lib.lt_of_heap h
  | some l => obtain ⟨A, c, h, _⟩ := h; exact Lib.lt_of_heap h
theorem Rdr.fr {M : Nat → Prop} {w w' : World} {lo p : Nat} {st : RSt} (h : Rdr w lo p st) (hf : Fr M w w') (hm : ∀ k, lo ≤ k → k ≤ p → ¬ M k) (hlo : lo ≤ p) : Rdr w' lo p st := by
  have hlt := h.lt
  cases st with
  | none => exact (hf.block p hlt (hm p hlo (Nat.le_refl _))).trans h
  | some l =>
    obtain ⟨A, c, h, h1, h2, h3⟩ := h
    exact ⟨A, c, (hf.block p hlt (hm p hlo (Nat.le_refl _))).trans h, h1, h2, h3.fr hf (by omega) fun k a b => hm k a (by omega)⟩

set_option maxHeartbeats 400000 in
theorem rGood_calls (lo p : Nat) (st : RSt) (w : World) (h : Rdr w lo p st) :
    Calls Tryd.prog 87 #[.pointer (some ⟨p, 0, none⟩)] w fun e w' => e = .returned (.bool (rGood st)) ∧ w = w' := by
  have h1 : w.cell? ⟨p, 1, none⟩ = some (.bool (rGood st)) := by
    cases st with
    | none => exact (cells_of h 1).1.trans rfl
    | some l => obtain ⟨A, c, h, _⟩ := h; exact (cells_of h 1).1.trans rfl
  clear h
  go_enter Tryd.func87, Tryd.ntmps87
  go_wp2
  go_ret
  exact ⟨rfl, rfl⟩

set_option maxHeartbeats 400000 in
theorem rFail_calls (lo p : Nat) (st : RSt) (w : World) (h : Rdr w lo p st) :
    Calls Tryd.prog 88 #[.pointer (some ⟨p, 0, none⟩)] w fun e w' => e = .returned (.tuple #[]) ∧ Rdr w' lo p none ∧ Fr (OneB p) w w' ∧ w'.heap.size = w.heap.size := by
  obtain ⟨a, b, hp⟩ : ∃ a b, w.heap[p]? = some (.cells #[a, b] 133 (0, 0)) := by
    cases st with
    | none => exact ⟨_, _, h⟩
    | some l => obtain ⟨A, c, h, _⟩ := h; exact ⟨_, _, h⟩
  have c0 := (cells_of hp 0).1
  have c1 := (cells_of hp 1).1
  have f0 := (cells_of hp 0).2
  have f1 := (cells_of hp 1).2
  simp only [List.getElem?_toArray, List.getElem?_cons_zero, List.getElem?_cons_succ] at c0 c1
  have q : Rdr ((w.setCell ⟨p, 1, none⟩ (.bool false)).setCell ⟨p, 0, none⟩ (.slice none 0 0)) lo p none := by
    show _ = _
    rw [heap_set (heap_set hp _)]; rfl
  clear h hp
  go_enter Tryd.func88, Tryd.ntmps88
  go_wp2
  go_end0
  exact ⟨rfl, q, ((Fr.refl (OneB p) w).setCell (p := ⟨p, 1, none⟩) (fun _ => rfl) _).setCell (p := ⟨p, 0, none⟩) (fun _ => rfl) _, by simp [World.setCell]⟩

/-- What take answers, and the reader behind it. -/
def Took (lo p : Nat) (r : List UInt8 × RSt) (w : World) (e : Ending) (w' : World) : Prop :=
  ∃ A c, e = .returned (.slice A r.1.length c) ∧ r.1.length ≤ c ∧ c ≤ maxLen ∧ Rd w' lo p A r.1 ∧ Rdr w' lo p r.2 ∧ Fr (OneB p) w w' ∧ w'.heap.size = w.heap.size

set_option maxHeartbeats 400000 in
theorem rTake_none (lo p : Nat) (n : Int) (w : World) (h : Rdr w lo p none) :
    Calls Tryd.prog 86 #[.pointer (some ⟨p, 0, none⟩), .int .i64 n] w (Took lo p ([], none) w) := by
  have c1 := (cells_of h 1).1
  simp only [List.getElem?_toArray, List.getElem?_cons_zero, List.getElem?_cons_succ] at c1
  have q : Took lo p ([], none) w (.returned (.slice none 0 0)) w := ⟨none, 0, rfl, by simp, by unfold maxLen; omega, Rd.nil _ _ _ _, h, Fr.refl _ _, rfl⟩
  clear h
  go_enter Tryd.func86, Tryd.ntmps86
  go_wp2
  go_ret
  exact q

set_option maxHeartbeats 800000 in
theorem rTake_bad (lo p : Nat) (l : List UInt8) (n : Int) (w : World) (h : Rdr w lo p (some l)) (hn : n < 0 ∨ (l.length : Int) < n) :
    Calls Tryd.prog 86 #[.pointer (some ⟨p, 0, none⟩), .int .i64 n] w (Took lo p ([], none) w) := by
  have h' := h
  obtain ⟨A, c, hp, hl, hc, hr⟩ := h
  have c0 := (cells_of hp 0).1
  have c1 := (cells_of hp 1).1
  simp only [List.getElem?_toArray, List.getElem?_cons_zero, List.getElem?_cons_succ] at c0 c1
  clear hp hr
  unfold maxLen at hc
  have q : ∀ w1, Rdr w1 lo p none → Fr (OneB p) w w1 → w1.heap.size = w.heap.size → Took lo p ([], none) w (.returned (.slice none 0 0)) w1 := fun w1 a b d => ⟨none, 0, rfl, by simp, by unfold maxLen; omega, Rd.nil _ _ _ _, a, b, d⟩
  by_cases h0 : n < 0
  rotate_left
  · have hn2 : (l.length : Int) < n := by omega
    have h00 : 0 ≤ n := by omega
    clear hn h0
    go_enter Tryd.func86, Tryd.ntmps86
    go_wp2_with (go_at_call 88; refine (rFail_calls lo p _ _ h').mono ?_; rintro e w1 ⟨rfl, q1, q2, q3⟩)
    go_ret
    exact q _ q1 q2 q3
  · clear hn
    go_enter Tryd.func86, Tryd.ntmps86
    go_wp2_with (go_at_call 88; refine (rFail_calls lo p _ _ h').mono ?_; rintro e w1 ⟨rfl, q1, q2, q3⟩)
    go_ret
    exact q _ q1 q2 q3

theorem take_end {w : World} {lo p n c c' : Nat} {A A' : Option Addr} {l : List UInt8} (hp : w.heap[p]? = some (.cells #[.slice A l.length c, .bool true] 133 (0, 0))) (hn : n ≤ l.length) (hl : l.length ≤ c) (hc : c ≤ maxLen) (hr : Rd w lo p A l)
    (hc1 : l.length - n ≤ c') (hc2 : c' ≤ c) (hr' : Rd w lo p A' (l.drop n)) :
    Took lo p (l.take n, some (l.drop n)) w (.returned (.slice A n n)) (w.setCell ⟨p, 0, none⟩ (.slice A' (l.length - n) c')) := by
  have hF : Fr (OneB p) w (w.setCell ⟨p, 0, none⟩ (.slice A' (l.length - n) c')) := (Fr.refl (OneB p) w).setCell (p := ⟨p, 0, none⟩) (fun _ => rfl) _
  have hlt := Lib.lt_of_heap hp
  have e1 : (l.take n).length = n := by simp; omega
  have e2 : (l.drop n).length = l.length - n := by simp
  refine ⟨A, n, by rw [e1], by rw [e1]; exact Nat.le_refl _, by omega, hr.take.fr hF (by omega) (fun k _ h => by simp [OneB]; omega), ⟨A', c', ?_, by omega, by omega, hr'.fr hF (by omega) (fun k _ h => by simp [OneB]; omega)⟩, hF, by simp [World.setCell]⟩
  rw [e2, heap_set hp]; rfl

set_option maxHeartbeats 800000 in
theorem rTake_ok (lo p : Nat) (l : List UInt8) (n : Nat) (w : World) (h : Rdr w lo p (some l)) (hn : n ≤ l.length) :
    Calls Tryd.prog 86 #[.pointer (some ⟨p, 0, none⟩), .int .i64 n] w (Took lo p (l.take n, some (l.drop n)) w) := by
  obtain ⟨A, c, hp, hl, hc, hr⟩ := h
  have c0 := (cells_of hp 0).1
  have c1 := (cells_of hp 1).1
  have f0 := (cells_of hp 0).2
  simp only [List.getElem?_toArray, List.getElem?_cons_zero, List.getElem?_cons_succ] at c0 c1
  have hc' := hc
  unfold maxLen at hc
  go_enter Tryd.func86, Tryd.ntmps86
  go_wp2
  all_goals go_ret
  · exact take_end hp hn hl hc' hr (by omega) (by omega) (Rd.drop hr hn hl |> fun q => by rwa [if_pos (by assumption)] at q)
  · exact take_end hp hn hl hc' hr (by omega) (by omega) (Rd.drop hr hn hl |> fun q => by rwa [if_neg (by assumption)] at q)

theorem rTake (lo p : Nat) (st : RSt) (n : Int) (w : World) (h : Rdr w lo p st) :
    Calls Tryd.prog 86 #[.pointer (some ⟨p, 0, none⟩), .int .i64 n] w (Took lo p (tk st n) w) := by
  cases st with
  | none => exact rTake_none lo p n w h
  | some l =>
    by_cases hn : 0 ≤ n ∧ n ≤ l.length
    · obtain ⟨m, rfl⟩ := Int.eq_ofNat_of_zero_le hn.1
      have e : tk (some l) (m : Int) = (l.take m, some (l.drop m)) := by simp only [tk]; rw [if_pos hn]; rfl
      rw [e]
      exact rTake_ok lo p l m w h (by omega)
    · have e : tk (some l) n = ([], none) := by simp only [tk]; rw [if_neg hn]
      rw [e]
      exact rTake_bad lo p l n w h (by omega)

/-- What a call of a reader answers. -/
def Rres (lo p : Nat) (v : Value) (st : RSt) (w : World) (e : Ending) (w' : World) : Prop :=
  e = .returned v ∧ Rdr w' lo p st ∧ Fr (OneB p) w w' ∧ w'.heap.size = w.heap.size

theorem take1 (st : RSt) : (rByte st).2 = (tk st 1).2 ∧ ((tk st 1).1 = [] ∧ (rByte st).1 = 0 ∨ (tk st 1).1 = [(rByte st).1]) := by
  cases st with
  | none => simp [rByte, tk]
  | some l =>
    cases l with
    | nil => simp [rByte, tk]
    | cons x l =>
      have h1 : (1 : Int) ≤ (l.length : Int) + 1 := by omega
      simp [rByte, tk, h1]

set_option maxHeartbeats 800000 in
theorem rByte_calls (lo p : Nat) (st : RSt) (w : World) (h : Rdr w lo p st) :
    Calls Tryd.prog 48 #[.pointer (some ⟨p, 0, none⟩)] w (Rres lo p (.int .u8 (rByte st).1.toNat) (rByte st).2 w) := by
  obtain ⟨e2, e1⟩ := take1 st
  rw [e2]
  have HE := Lib.hid e1
  clear e1 e2
  go_enter Tryd.func48, Tryd.ntmps48
  go_wp2_with (go_at_call 86; refine (rTake lo p st 1 _ h).mono ?_)
  rintro e w1 ⟨A, c, rfl, h1, h2, h3, h4, h5, h6⟩
  have H6 := Lib.hid h6
  clear h6
  unfold maxLen at h2
  rcases HE.out with ⟨a, b⟩ | a
  · rw [a] at h1 ⊢
    have Hr : Hid (Rdr w1 lo p (tk st 1).2) := h4
    have HB := Lib.hid b
    clear h4 h3 a b
    go_wp2
    go_ret
    exact ⟨by rw [HB.out]; rfl, Hr, h5, H6⟩
  · rw [a] at h1 h3 ⊢
    obtain ⟨b, o, rfl, _, _, hc⟩ := h3 (by simp)
    have hcell := hc 0 (by simp)
    simp only [List.getD, List.getElem?_cons_zero, Option.getD_some, Nat.add_zero] at hcell
    have Hr : Hid (Rdr w1 lo p (tk st 1).2) := h4
    clear h4 hc a
    go_wp2
    go_ret
    exact ⟨rfl, Hr, h5, H6⟩

/-- The state of a reader whose bytes begin with what has been looked at. -/
theorem rInt_none (lo p : Nat) (w : World) (h : Rdr w lo p none) :
    Calls Tryd.prog 49 #[.pointer (some ⟨p, 0, none⟩)] w (Rres lo p (.int .i64 0) none w) := by
  go_enter Tryd.func49, Tryd.ntmps49
  go_wp2_with (go_at_call 87; refine (rGood_calls lo p none _ h).mono ?_; rintro e w1 ⟨rfl, rfl⟩)
  go_ret
  exact ⟨rfl, h, Fr.refl _ _, rfl⟩

theorem tk_eq {l : List UInt8} {k : Nat} (hk : k < l.length) {x : Int} (hx : x = (k : Int) + 1) : (tk (some l) x).2 = some (l.drop (k + 1)) := by
  subst hx
  have h1 : (0 : Int) ≤ (k : Int) + 1 ∧ (k : Int) + 1 ≤ l.length := by omega
  simp only [tk]
  rw [if_pos h1]
  rfl

set_option maxHeartbeats 1600000 in
theorem rInt_some (lo p : Nat) (l : List UInt8) (w : World) (h : Rdr w lo p (some l)) :
    Calls Tryd.prog 49 #[.pointer (some ⟨p, 0, none⟩)] w (Rres lo p (.int .i64 (rInt (some l)).1) (rInt (some l)).2 w) := by
  obtain ⟨A, c, hp, hl, hc, hr⟩ := id h
  have c0 := (cells_of hp 0).1
  simp only [List.getElem?_toArray, List.getElem?_cons_zero] at c0
  clear hp
  have hc' := hc
  unfold maxLen at hc
  generalize hR : rInt (some l) = R
  have HR := Lib.hid hR
  clear hR
  go_enter Tryd.func49, Tryd.ntmps49
  go_wp2_with (go_at_call 87; refine (rGood_calls lo p (some l) _ h).mono ?_; rintro e w1 ⟨rfl, rfl⟩)
  have hg : rGood (some l) = true := rfl
  have hlm : l.length ≤ 9223372036854775807 := by omega
  go_loop [2, 3, 4] (fun r u i => r = .int .i64 0 ∧ ∃ k acc : Nat, u = .int .u64 (acc : Int) ∧ i = .int .i64 (k : Int) ∧ k ≤ l.length ∧ k ≤ 9 ∧ acc < 128 ^ k ∧ numAt k acc (l.drop k) = numAt 0 0 l) (fun _ _ i => l.length - (intOf i).toNat)
  case atStart => exact ⟨rfl, 0, 0, rfl, rfl, Nat.zero_le _, Nat.zero_le _, by simp, rfl⟩
  case round =>
    obtain ⟨rfl, k, acc, rfl, rfl, hk, hk9, hacc, hnum⟩ := hrel
    by_cases hlt : k < l.length
    · obtain ⟨b, o, rfl, -, -, hcell0⟩ := hr (by omega)
      have hcell := hcell0 k hlt
      have hV := (l.getD k 0).toNat_lt
      have HC := Lib.hid (show l.drop k = l.getD k 0 :: l.drop (k + 1) by rw [List.drop_eq_getElem_cons hlt]; simp [List.getD, hlt])
      have HN := Lib.hid hnum
      have HA := Lib.hid hacc
      clear hnum hacc hr hl hcell0
      generalize l.getD k 0 = c at hcell hV HC
      generalize hcV : c.toNat = V at hcell hV
      have HcV := Lib.hid hcV
      clear hcV
      by_cases hc1 : 127 < V ∧ k < 9
      · obtain ⟨hc1, hk1⟩ := hc1
        have hst := rd_step acc V k hk9 HA.out hV (by omega)
        have hn1 : numAt (k + 1) (acc + V % 128 * 128 ^ k) (l.drop (k + 1)) = numAt 0 0 l := by
          rw [← HN.out, HC.out, numAt, if_pos ⟨by rw [HcV.out]; omega, hk1⟩, HcV.out]
          rw [show V - 128 = V % 128 by omega]
        have ha1 : acc + V % 128 * 128 ^ k < 128 ^ (k + 1) := by
          have := HA.out
          have hm : V % 128 ≤ 127 := by omega
          have := Nat.mul_le_mul_right (128 ^ k) hm
          rw [Nat.pow_succ]; omega
        have HN1 := Lib.hid hn1
        have HA1 := Lib.hid ha1
        clear hn1 ha1
        generalize acc + V % 128 * 128 ^ k = U at hst HN1 HA1
        go_wp2_with fail
        go_round
        case rel => (repeat apply Exists.intro); exact ⟨⟨rfl, k + 1, U, rfl, by go_num, by omega, by omega, HA1.out, HN1.out⟩, rfl, rfl, rfl⟩
        case measure => simp [intOf]; omega
      · by_cases hbad : (V = 0 ∧ 0 < k) ∨ (1 < V ∧ k = 9)
        · have hres : rInt (some l) = (0, none) := by
            have : numAt 0 0 l = none := by rw [← HN.out, HC.out, numAt, if_neg (by rw [HcV.out]; omega), if_pos (by rw [HcV.out]; omega)]
            simp only [rInt, this]
          rw [hres] at HR
          have HR2 := Lib.hid HR.out.symm
          clear HR hres HN HC HcV HA
          by_cases hz : V = 0
          all_goals
            go_wp2_with (go_at_call 88; refine (rFail_calls lo p _ _ h).mono ?_; rintro e w1 ⟨rfl, q1, q2, q3⟩; have Q3 := Lib.hid q3; clear q3)
            all_goals first | (exfalso; omega) | skip
            all_goals
              go_ret
              refine ⟨?_, ?_, q2, Q3⟩ <;> rw [HR2.out]
              · rfl
              · exact q1
        · have hst := rd_step acc V k hk9 HA.out hV (by omega)
          have hbd := rd_bound acc V k hk9 HA.out (by omega)
          have hres : rInt (some l) = (unzig (acc + V % 128 * 128 ^ k), some (l.drop (k + 1))) := by
            have : numAt 0 0 l = some (acc + V % 128 * 128 ^ k, l.drop (k + 1)) := by
              rw [← HN.out, HC.out, numAt, if_neg (by rw [HcV.out]; omega), if_neg (by rw [HcV.out]; omega), HcV.out]
              rw [show V % 128 = V by omega]
            simp only [rInt, this]
          rw [hres] at HR
          have HR2 := Lib.hid HR.out.symm
          clear hres HR HN HA HC HcV
          generalize acc + V % 128 * 128 ^ k = U at hst HR2 hbd
          have hun := unzig_bits U hbd
          generalize unzig U = UZ at hun HR2
          have HB := Lib.hid hbd
          clear hbd
          go_wp2_with fail
          all_goals
            refine (rTake lo p (some l) _ _ h).mono ?_
            rintro e w1 ⟨A, c3, rfl, -, -, -, h4, h5, h6⟩
            have H6 := Lib.hid h6
            clear h6
            rw [tk_eq (k := k) hlt (by omega)] at h4
            go_wp2
            go_ret
            refine ⟨?_, ?_, h5, H6⟩ <;> rw [HR2.out]
            · rfl
            · exact h4
    · have hres : rInt (some l) = (0, none) := by
        have : numAt 0 0 l = none := by rw [← hnum, List.drop_eq_nil_of_le (by omega)]; rfl
        simp only [rInt, this]
      rw [hres] at HR
      have HR2 := Lib.hid HR.out.symm
      clear HR hres hnum hacc
      go_wp2_with (go_at_call 88; refine (rFail_calls lo p _ _ h).mono ?_; rintro e w1 ⟨rfl, q1, q2, q3⟩; have Q3 := Lib.hid q3; clear q3)
      go_ret
      refine ⟨?_, ?_, q2, Q3⟩ <;> rw [HR2.out]
      · rfl
      · exact q1

theorem rInt_calls (lo p : Nat) (st : RSt) (w : World) (h : Rdr w lo p st) :
    Calls Tryd.prog 49 #[.pointer (some ⟨p, 0, none⟩)] w (Rres lo p (.int .i64 (rInt st).1) (rInt st).2 w) := by
  cases st with
  | none => exact rInt_none lo p w h
  | some l => exact rInt_some lo p l w h

end Go.Proofs.YtlckgkpgllhpbaaDoor

/- Rdb -/
namespace Go.Proofs.YtlckgkpgllhpbaaDoor
open Go.RowKit

set_option maxHeartbeats 800000 in
theorem rCount_calls (lo p : Nat) (st : RSt) (m : Int) (w : World) (h : Rdr w lo p st) :
    Calls Tryd.prog 90 #[.pointer (some ⟨p, 0, none⟩), .int .i64 m] w (Rres lo p (.int .i64 (rCount st m).1) (rCount st m).2 w) := by
  generalize hR : rCount st m = R
  have HR := Lib.hid hR
  clear hR
  obtain ⟨n, st', hn⟩ : ∃ n st', rInt st = (n, st') := ⟨_, _, rfl⟩
  have hI := fun W (hW : Rdr W lo p st) => rInt_calls lo p st W hW
  rw [hn] at hI
  have HI := Lib.hid hI
  have HR2 : Hid (R = if n < 0 ∨ m < n then (0, none) else (n, st')) := by show _ = _; rw [← HR.out]; simp only [rCount, hn]
  clear hI hn HR
  by_cases h1 : n < 0
  · go_enter Tryd.func90, Tryd.ntmps90
    go_wp2_with (first | (go_at_call 49; refine (HI.out _ h).mono ?_; rintro e w1 ⟨rfl, q1, q2, q3⟩; have Q3 := Lib.hid q3; clear q3) | (go_at_call 88; refine (rFail_calls lo p _ _ q1).mono ?_; rintro e w2 ⟨rfl, s1, s2, s3⟩; have S3 := Lib.hid s3; clear s3))
    go_ret
    have e := HR2.out
    rw [if_pos (.inl h1)] at e
    exact ⟨by rw [e]; rfl, by rw [e]; exact s1, q2.then s2, S3.out.trans Q3.out⟩
  · by_cases h2 : m < n
    · have h1' : 0 ≤ n := by omega
      go_enter Tryd.func90, Tryd.ntmps90
      go_wp2_with (first | (go_at_call 49; refine (HI.out _ h).mono ?_; rintro e w1 ⟨rfl, q1, q2, q3⟩; have Q3 := Lib.hid q3; clear q3) | (go_at_call 88; refine (rFail_calls lo p _ _ q1).mono ?_; rintro e w2 ⟨rfl, s1, s2, s3⟩; have S3 := Lib.hid s3; clear s3))
      go_ret
      have e := HR2.out
      rw [if_pos (.inr h2)] at e
      exact ⟨by rw [e]; rfl, by rw [e]; exact s1, q2.then s2, S3.out.trans Q3.out⟩
    · have h1' : 0 ≤ n := by omega
      have h2' : n ≤ m := by omega
      go_enter Tryd.func90, Tryd.ntmps90
      go_wp2_with (go_at_call 49; refine (HI.out _ h).mono ?_; rintro e w1 ⟨rfl, q1, q2, q3⟩; have Q3 := Lib.hid q3; clear q3)
      go_ret
      have e := HR2.out
      rw [if_neg (by omega)] at e
      exact ⟨by rw [e]; rfl, by rw [e]; exact q1, q2, Q3⟩

/-- Bytes: new bytes. -/
def RresB (lo p : Nat) (l : List UInt8) (st : RSt) (w : World) (e : Ending) (w' : World) : Prop :=
  ∃ v, e = .returned v ∧ w'.ownsRow w.heap.size 5 1 v l.length (bv l) ∧ Rdr w' lo p st ∧ Fr (OneB p) w w'

def RLim : RSt → Prop
  | none => True
  | some l => l.length ≤ 140737488355328

theorem numAt_len {k acc u : Nat} {l r : List UInt8} (h : numAt k acc l = some (u, r)) : r.length < l.length := by
  induction l generalizing k acc with
  | nil => simp [numAt] at h
  | cons c l ih =>
    unfold numAt at h
    split at h
    · have := ih h; simp; omega
    · split at h
      · cases h
      · cases h; simp
theorem rInt_lim {st : RSt} (h : RLim st) : RLim (rInt st).2 := by
  cases st with
  | none => trivial
  | some l =>
    simp only [rInt]
    cases hn : numAt 0 0 l with
    | none => trivial
    | some x =>
      have := numAt_len (u := x.1) (r := x.2) hn
      simp only [RLim] at h ⊢; omega
theorem rCount_lim {st : RSt} {m : Int} (h : RLim st) : RLim (rCount st m).2 := by
  simp only [rCount]
  split
  · trivial
  · exact rInt_lim h
theorem tk_lim {st : RSt} {n : Int} (h : RLim st) : RLim (tk st n).2 ∧ (tk st n).1.length ≤ 140737488355328 := by
  cases st with
  | none => exact ⟨trivial, by simp [tk]⟩
  | some l =>
    simp only [RLim] at h
    simp only [tk]
    split
    · exact ⟨by simp [RLim]; omega, by simp; omega⟩
    · exact ⟨trivial, by simp⟩

set_option maxHeartbeats 800000 in
theorem rBytes_calls (lo p : Nat) (st : RSt) (m : Int) (w : World) (h : Rdr w lo p st) (hlo : lo ≤ p) (hl : RLim st) :
    Calls Tryd.prog 89 #[.pointer (some ⟨p, 0, none⟩), .int .i64 m] w (RresB lo p (rBytes st m).1 (rBytes st m).2 w) := by
  have hlt := h.lt
  have hl2 := (tk_lim (n := (rCount st m).1) (rCount_lim (m := m) hl)).2
  have HR : Hid (rBytes st m = tk (rCount st m).2 (rCount st m).1) := rfl
  go_enter Tryd.func89, Tryd.ntmps89
  go_wp2_with (go_at_call 90; refine (rCount_calls lo p st m _ h).mono ?_)
  rintro e w1 ⟨rfl, q1, q2, q3⟩
  have Q3 := Lib.hid q3; clear q3
  go_wp2_with (go_at_call 86; refine (rTake lo p _ _ _ q1).mono ?_)
  rintro e w2 ⟨A, c, rfl, k1, k2, k3, k4, k5, k6⟩
  have K6 := Lib.hid k6; clear k6
  go_wp2_with (go_at_call 66; refine (clone_any A _ c lo p _ k3 hl2).mono ?_)
  rintro e w3 ⟨v, rfl, o1, o2⟩
  obtain ⟨A2, c2, rfl, _, _⟩ := own_form o1
  have hsz : w2.heap.size = w.heap.size := K6.out.trans Q3.out
  have o3 : Rdr w3 lo p (tk (rCount st m).2 (rCount st m).1).2 := k4.fr (Fr.ofBelow (M := NoB) o2) (fun _ _ _ x => x) hlo
  rw [hsz] at o1
  have HF : Hid (Fr (OneB p) w w3) := (q2.then k5).trans (Fr.ofBelow (M := NoB) o2) fun _ _ x => x.elim
  clear q2 k5 o2 hsz
  go_wp2
  go_ret
  refine ⟨_, rfl, ?_, ?_, HF⟩ <;> rw [HR.out]
  · exact o1
  · exact o3

set_option maxHeartbeats 400000 in
theorem rWhole_calls (lo p : Nat) (st : RSt) (w : World) (h : Rdr w lo p st) :
    Calls Tryd.prog 51 #[.pointer (some ⟨p, 0, none⟩)] w fun e w' => e = .returned (.bool (rWhole st)) ∧ w = w' := by
  cases st with
  | none =>
    go_enter Tryd.func51, Tryd.ntmps51
    go_wp2_with (go_at_call 87; refine (rGood_calls lo p none _ h).mono ?_; rintro e w1 ⟨rfl, rfl⟩)
    go_ret
    exact ⟨rfl, rfl⟩
  | some l =>
    obtain ⟨A, c, hp, hl, hc, hr⟩ := id h
    have c0 := (cells_of hp 0).1
    simp only [List.getElem?_toArray, List.getElem?_cons_zero] at c0
    clear hp hr
    have hg : rGood (some l) = true := rfl
    cases l with
    | nil =>
      go_enter Tryd.func51, Tryd.ntmps51
      go_wp2_with (go_at_call 87; refine (rGood_calls lo p _ _ h).mono ?_; rintro e w1 ⟨rfl, rfl⟩)
      go_ret
      exact ⟨rfl, rfl⟩
    | cons x l =>
      have hb : ((x :: l).length == 0) = false := rfl
      go_enter Tryd.func51, Tryd.ntmps51
      go_wp2_with (go_at_call 87; refine (rGood_calls lo p _ _ h).mono ?_; rintro e w1 ⟨rfl, rfl⟩)
      go_ret
      refine ⟨?_, rfl⟩
      simp [rWhole]
      omega

set_option maxHeartbeats 800000 in
theorem rText_calls (lo p : Nat) (st : RSt) (m : Int) (w : World) (h : Rdr w lo p st) :
    Calls Tryd.prog 58 #[.pointer (some ⟨p, 0, none⟩), .int .i64 m] w (Rres lo p (.string ⟨(rBytes st m).1.toArray⟩) (rBytes st m).2 w) := by
  have HR : Hid (rBytes st m = tk (rCount st m).2 (rCount st m).1) := rfl
  go_enter Tryd.func58, Tryd.ntmps58
  go_wp2_with (go_at_call 90; refine (rCount_calls lo p st m _ h).mono ?_)
  rintro e w1 ⟨rfl, q1, q2, q3⟩
  have Q3 := Lib.hid q3; clear q3
  go_wp2_with (go_at_call 86; refine (rTake lo p _ _ _ q1).mono ?_)
  rintro e w2 ⟨A, c, rfl, k1, k2, k3, k4, k5, k6⟩
  have K6 := Lib.hid k6; clear k6
  have hconv : (convert 23 9 (.slice A (tk (rCount st m).2 (rCount st m).1).1.length c)).run Tryd.prog w2 = .ok (.string ⟨(tk (rCount st m).2 (rCount st m).1).1.toArray⟩) w2 := conv_string Tryd.underlying23 Tryd.underlying5 Tryd.underlying9 k3
  have Q2 := Lib.hid q2; clear q2
  clear k3
  go_wp2
  go_ret
  refine ⟨?_, ?_, Q2.out.then k5, K6.out.trans Q3.out⟩ <;> rw [HR.out]
  · rfl
  · exact k4

set_option maxHeartbeats 800000 in
theorem rNew_calls (A : Option Addr) (l : List UInt8) (c lo hi : Nat) (w : World) (hr : Rd w lo hi A l) (hlim : l.length ≤ 140737488355328) :
    Calls Tryd.prog 47 #[.slice A l.length c] w fun e w' => ∃ p, e = .returned (.pointer (some ⟨p, 0, none⟩)) ∧ w.heap.size ≤ p ∧ Rdr w' w.heap.size p (some l) ∧ Fr NoB w w' ∧ w'.heap.size = p + 1 := by
  go_enter Tryd.func47, Tryd.ntmps47
  go_wp2_with (go_at_call 66; refine (clone_any A l c lo hi _ hr hlim).mono ?_)
  rintro e w1 ⟨v, rfl, o1, o2⟩
  obtain ⟨A2, c2, rfl, h1, h2⟩ := own_form o1
  have hr1 := own_rd o1
  clear o1
  go_wp2
  go_ret
  refine ⟨_, rfl, o2.size, ⟨A2, c2, heap_alloc_new w1 _, h1, h2, ?_⟩, (Fr.ofBelow o2).alloc _, by simp⟩
  exact hr1.keep fun k _ hk => Below.heap_alloc _ _ _ hk

end Go.Proofs.YtlckgkpgllhpbaaDoor

/-
  Back: the statement's 'written' and 'read': what they put, and whether they read it.
-/
import Derived.Test.YtmklmjggichfhaaDoorRdb
import Derived.Test.YtmklmjggichfhaaDoorKit
import Derived.Test.YtmklmjggichfhaaDoorAwk
import Derived.Test.YtmklmjggichfhaaDoorDeeds
import Derived.Test.YtmklmjggichfhaaDoorBackp
import Derived.Deep.RegionHeld3
namespace Go.Proofs.YtmklmjggichfhaaDoor
open Go.RowKit

theorem list_of {α : Type} (n : Nat) (P : Nat → α → Prop) (h : ∀ i, i < n → ∃ x, P i x) : ∃ l : List α, l.length = n ∧ ∀ i x, l[i]? = some x → P i x := by
  induction n with
  | zero => exact ⟨[], rfl, fun i x h => by simp at h⟩
  | succ n ih =>
    obtain ⟨l, hl, hp⟩ := ih fun i hi => h i (by omega)
    obtain ⟨x, hx⟩ := h n (by omega)
    refine ⟨l ++ [x], by simp [hl], fun i y hy => ?_⟩
    by_cases hi : i < l.length
    · rw [List.getElem?_append_left hi] at hy
      exact hp i y hy
    · rw [List.getElem?_append_right (by omega)] at hy
      have h1 : i - l.length = 0 := by
        have := (List.getElem?_eq_some_iff.1 hy).1
        simp at this; omega
      rw [h1] at hy
      simp at hy
      obtain rfl : i = n := by omega
      rw [← hy]; exact hx

/-- The things lie in w, from D on. -/
def Dth (w : World) (D : Option Addr) (ts : List Thing) : Prop :=
  0 < ts.length → ∃ b o, D = some ⟨b, o, none⟩ ∧ b < w.heap.size ∧ ∀ i x, ts[i]? = some x → ∃ (B : Option Addr) (c : Nat), (-9223372036854775808 ≤ x.2.1 ∧ x.2.1 ≤ 9223372036854775807) ∧ x.2.2.length ≤ 1048576 ∧ x.2.2.length ≤ c ∧ c ≤ maxLen ∧ Rd w 0 w.heap.size B x.2.2 ∧
    w.cell? ⟨b, o + i * 3, none⟩ = some (.int .i64 x.1) ∧ w.cell? ⟨b, o + i * 3 + 1, none⟩ = some (.int .i64 x.2.1) ∧ w.cell? ⟨b, o + i * 3 + 2, none⟩ = some (.slice B x.2.2.length c)
theorem dth_of {w : World} {D : Option Addr} {n : Nat} (h : Dfs w D n 1048576) : ∃ ts : List Thing, ts.length = n ∧ Dth w D ts := by
  by_cases h0 : 0 < n
  · obtain ⟨b, o, hD, hb, hi⟩ := h h0
    obtain ⟨ts, hl, hp⟩ := list_of (α := Thing) n (fun i x => ∃ (B : Option Addr) (c : Nat), (-9223372036854775808 ≤ x.2.1 ∧ x.2.1 ≤ 9223372036854775807) ∧ x.2.2.length ≤ 1048576 ∧ x.2.2.length ≤ c ∧ c ≤ maxLen ∧ Rd w 0 w.heap.size B x.2.2 ∧
      w.cell? ⟨b, o + i * 3, none⟩ = some (.int .i64 x.1) ∧ w.cell? ⟨b, o + i * 3 + 1, none⟩ = some (.int .i64 x.2.1) ∧ w.cell? ⟨b, o + i * 3 + 2, none⟩ = some (.slice B x.2.2.length c)) (fun i hin => by
        obtain ⟨s, m, B, l, c, z⟩ := hi i hin
        exact ⟨(s, m, l), B, c, z⟩)
    exact ⟨ts, hl, fun _ => ⟨b, o, hD, hb, hp⟩⟩
  · exact ⟨[], by simp; omega, fun h => absurd h (by simp)⟩
theorem Dth.take {w : World} {D : Option Addr} {ts : List Thing} (h : Dth w D ts) (k : Nat) : Dth w D (ts.take k) := fun h0 => by
  obtain ⟨b, o, hD, hb, hp⟩ := h (by simp at h0; omega)
  refine ⟨b, o, hD, hb, fun i x hx => hp i x ?_⟩
  rw [List.getElem?_take] at hx
  split at hx
  · exact hx
  · cases hx
theorem Dth.fits {w : World} {D : Option Addr} {ts : List Thing} (h : Dth w D ts) : ∀ x ∈ ts, Fits x := fun x hx => by
  obtain ⟨i, hi⟩ := List.mem_iff_getElem?.1 hx
  obtain ⟨b, o, hD, hb, hp⟩ := h (by have := (List.getElem?_eq_some_iff.1 hi).1; omega)
  obtain ⟨B, c, h1, h2, _⟩ := hp i x hi
  exact ⟨h1, by omega⟩
theorem catB_succ {ts : List Thing} {k : Nat} {x : Thing} (h : ts[k]? = some x) : catB (ts.take (k + 1)) = catB (ts.take k) ++ putB x := by
  rw [List.take_add_one, h, catB_append]
  simp [catB]
theorem catB_len {w : World} {D : Option Addr} {ts : List Thing} (h : Dth w D ts) (k : Nat) : (catB (ts.take k)).length ≤ k * 1048586 := by
  induction k with
  | zero => simp [catB]
  | succ k ih =>
    cases hx : ts[k]? with
    | none =>
      have hl : ts.length ≤ k := List.getElem?_eq_none_iff.1 hx
      rw [List.take_of_length_le (by omega)] at ih ⊢
      exact Nat.le_trans ih (Nat.mul_le_mul_right _ (Nat.le_succ k))
    | some x =>
      obtain ⟨b, o, hD, hb, hp⟩ := h (by have := (List.getElem?_eq_some_iff.1 hx).1; omega)
      obtain ⟨B, c, h1, h2, _⟩ := hp k x hx
      rw [catB_succ hx, List.length_append]
      have := putB_len x
      omega
theorem rdAll_at {ts : List Thing} {k : Nat} {x : Thing} (h : ts[k]? = some x) (st : RSt) : rdAll (ts.drop k) st = if (rdOne st x).1 = true ∧ rGood (rdOne st x).2 = true then rdAll (ts.drop (k + 1)) (rdOne st x).2 else (false, (rdOne st x).2) := by
  have hk := (List.getElem?_eq_some_iff.1 h)
  rw [List.drop_eq_getElem_cons hk.1, hk.2]
  rfl

/-- A writer that the call made, and what stands in it. -/
structure WA (w0 w : World) (p : Nat) (L : List UInt8) (G : Option Nat) : Prop where
  a : Wtr w p G L
  fr : Fr NoB w0 w
  i : ∀ k, WF p G k → w0.heap.size ≤ k
theorem WA.next {w0 w w1 : World} {p : Nat} {L L' : List UInt8} {G G1 : Option Nat} (h : WA w0 w p L G) (a : Wtr w1 p G1 L') (f : Fr (WF p G) w w1) (g : ∀ k, WF p G1 k → WF p G k ∨ w.heap.size ≤ k) : WA w0 w1 p L' G1 :=
  ⟨a, h.fr.up f h.i, fun k hk => (g k hk).elim (h.i k) (fun x => Nat.le_trans h.fr.size x)⟩
theorem WA.off {w0 w : World} {p : Nat} {L : List UInt8} {G : Option Nat} (h : WA w0 w p L G) : ∀ k, 0 ≤ k → k < w0.heap.size → ¬ WF p G k := fun k _ hk hw => by have := h.i k hw; omega

set_option maxRecDepth 8000 in
set_option maxHeartbeats 6400000 in
theorem written_calls (D : Option Addr) (ts : List Thing) (d : Nat) (w : World) (hd : Dth w D ts) (hn : ts.length ≤ 60) :
    Calls Tryd.prog 46 #[.slice D ts.length d] w fun e w' => ∃ A c, e = .returned (.slice A (catB ts).length c) ∧ (catB ts).length ≤ c ∧ c ≤ maxLen ∧ Rd w' w.heap.size w'.heap.size A (catB ts) ∧ Fr NoB w w' := by
  have HL := Lib.hid (catB_len hd)
  have HD := Lib.hid hd
  have HTS := Lib.hid (show catB (ts.take ts.length) = catB ts by rw [List.take_length])
  clear hd
  go_enter Tryd.func46, Tryd.ntmps46
  go_wp2_with (go_at_call 15; refine (wNew _).mono ?_; rintro e w1 ⟨rfl, a1, f1, s1⟩)
  have t0 : WA w w1 w.heap.size [] none := ⟨a1, f1, none_up _⟩
  clear a1 f1 s1
  obtain ⟨p, hp⟩ : ∃ p, w.heap.size = p := ⟨_, rfl⟩
  have HPP := Lib.hid hp
  rw [hp] at t0 ⊢
  clear hp
  go_loopw [4] (fun i wr => ∃ (k : Nat) (G : Option Nat), k ≤ ts.length ∧ i = .int .i64 (k : Int) ∧ WA w wr p (catB (ts.take k)) G) (fun i _ => ts.length - (intOf i).toNat)
  case atStart => exact ⟨0, _, Nat.zero_le _, rfl, t0⟩
  case round =>
    obtain ⟨k, G, hk, rfl, ht⟩ := hrel
    have HT := Lib.hid ht
    clear ht
    by_cases hlt : k < ts.length
    · obtain ⟨b, o, rfl, hb, hcs⟩ := HD.out (by omega)
      obtain ⟨B, c, ⟨h1, h2⟩, hl, hlc, hcm, hr, hc0, hc1, hc2⟩ := hcs k ts[k] (List.getElem?_eq_getElem hlt)
      have hcat := catB_succ (List.getElem?_eq_getElem hlt)
      clear hcs
      generalize ts[k] = x at *
      obtain ⟨s, m, l⟩ := x
      simp only at h1 h2 hl hlc hr hc0 hc1 hc2
      have hw0 := (HT.out.fr.cell (p := ⟨b, o + k * 3, none⟩) hb (fun x => x)).trans hc0
      have hw1 := (HT.out.fr.cell (p := ⟨b, o + k * 3 + 1, none⟩) hb (fun x => x)).trans hc1
      have hw2 := (HT.out.fr.cell (p := ⟨b, o + k * 3 + 2, none⟩) hb (fun x => x)).trans hc2
      have hr2 : Rd wr 0 w.heap.size B l := hr.fr HT.out.fr (Nat.le_refl _) (fun _ _ _ x => x)
      have hcv := conv_string (P := Tryd.prog) (c := c) Tryd.underlying22 Tryd.underlying5 Tryd.underlying9 hr2
      have hlim : (catB (ts.take k)).length + l.length + 10 ≤ 140737488355328 := by have := HL.out k; omega
      have HCT := Lib.hid hcat
      have HLM := Lib.hid hlim
      have HR := Lib.hid hr2
      have hK := fun W => pick_calls s 4 W (by omega) (by omega)
      have hi1 : ((k : Int) < (ts.length : Int)) := by omega
      obtain ⟨t, ht⟩ : ∃ t, s % 4 = t := ⟨_, rfl⟩
      have h5 : t = 0 ∨ t = 1 ∨ t = 2 ∨ t = 3 := by omega
      rw [ht] at hK
      have hsz : (⟨l.toArray⟩ : ByteArray).size = l.length := rfl
      have HSZ := Lib.hid hsz
      clear hc0 hc1 hc2 hlc hcm hr hr2 hcat hlim hl hsz
      rcases h5 with rfl | rfl | rfl | rfl
      all_goals have HK := Lib.hid hK; clear hK
      · have HP : Hid (putB (s, m, l) = [UInt8.ofNat (m % 256).toNat]) := by show putB (s, m, l) = _; unfold putB; rw [if_pos ht]
        have h8 : m % 256 = ((UInt8.ofNat (m % 256).toNat).toNat : Int) := by simp only [UInt8.toNat_ofNat']; omega
        generalize UInt8.ofNat (m % 256).toNat = y at h8 HP
        have H8 := Lib.hid h8
        clear h8
        clear ht hcv hw2
        go_wp2_with (first
          | (go_at_call 20; refine (HK.out _).mono ?_; rintro e w0 ⟨rfl, rfl⟩)
          | (go_at_call 43; rw [H8.out]; refine (wByte p G _ _ _ HT.out.a (by have := HLM.out; omega)).mono ?_; rintro e w2 ⟨rfl, G1, q1, q2, q3⟩))
        go_roundw
        case rel => exact ⟨k + 1, _, by omega, by go_num, by rw [HCT.out, HP.out]; exact HT.out.next q1 q2 q3⟩
        case measure => simp [intOf]; omega
      · have HP : Hid (putB (s, m, l) = intB m) := by show putB (s, m, l) = _; unfold putB; rw [if_neg (by omega), if_pos ht]
        clear ht hcv hw2
        go_wp2_with (first
          | (go_at_call 20; refine (HK.out _).mono ?_; rintro e w0 ⟨rfl, rfl⟩)
          | (go_at_call 16; refine (wInt p G _ m _ h1 h2 HT.out.a (by have := HLM.out; omega)).mono ?_; rintro e w2 ⟨rfl, G1, q1, q2, q3⟩))
        go_roundw
        case rel => exact ⟨k + 1, _, by omega, by go_num, by rw [HCT.out, HP.out]; exact HT.out.next q1 q2 q3⟩
        case measure => simp [intOf]; omega
      · have HP : Hid (putB (s, m, l) = textB l) := by show putB (s, m, l) = _; unfold putB; rw [if_neg (by omega), if_neg (by omega)]
        clear ht hw1
        go_wp2_with (first
          | (go_at_call 20; refine (HK.out _).mono ?_; rintro e w0 ⟨rfl, rfl⟩)
          | (go_at_call 44; refine (wText p G _ ⟨l.toArray⟩ _ HT.out.a (by have := HLM.out; rw [HSZ.out]; omega)).mono ?_; rintro e w2 ⟨rfl, G1, q1, q2, q3⟩))
        go_roundw
        case rel => exact ⟨k + 1, _, by omega, by go_num, by rw [HCT.out, HP.out]; exact HT.out.next q1 q2 q3⟩
        case measure => simp [intOf]; omega
      · have HP : Hid (putB (s, m, l) = textB l) := by show putB (s, m, l) = _; unfold putB; rw [if_neg (by omega), if_neg (by omega)]
        clear ht hw1 hcv
        go_wp2_with (first
          | (go_at_call 20; refine (HK.out _).mono ?_; rintro e w0 ⟨rfl, rfl⟩)
          | (go_at_call 45; refine (wBytes p G _ l B c 0 w.heap.size _ HT.out.a (by have := HLM.out; omega) HR.out HT.out.fr.size HT.out.off).mono ?_; rintro e w2 ⟨rfl, G1, q1, q2, q3⟩))
        go_roundw
        case rel => exact ⟨k + 1, _, by omega, by go_num, by rw [HCT.out, HP.out]; exact HT.out.next q1 q2 q3⟩
        case measure => simp [intOf]; omega
    · obtain rfl : k = ts.length := by omega
      have hlim : (catB (ts.take ts.length)).length ≤ 140737488355328 := by have := HL.out ts.length; omega
      have HLM := Lib.hid hlim
      clear hlim hlt hk hn
      go_wp2_with (go_at_call 17; refine (wDone _ _ _ _ HT.out.a HLM.out).mono ?_; rintro e w2 ⟨v2, rfl, o2, b2⟩; obtain ⟨A2, c2, rfl, k1, k2⟩ := own_form o2; have R2 := Lib.hid (own_rd o2); have B2 := Lib.hid b2; clear o2 b2)
      go_ret
      have r := R2.out
      rw [HTS.out] at r k1
      refine ⟨A2, c2, rfl, k1, k2, r.wide HT.out.fr.size (Nat.le_refl _), HT.out.fr.then (Fr.ofBelow B2.out)⟩

end Go.Proofs.YtmklmjggichfhaaDoor

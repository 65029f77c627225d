/-
  Abk: what kinds have; numbers that are put; a writer beside a call's box.
-/
import Derived.Test.YtlckgkpgllhpbaaDoorAkm
import Derived.Test.YtlckgkpgllhpbaaDoorWtr
import Derived.Test.YtlckgkpgllhpbaaDoorEng
import Derived.Laws.Rows
namespace Go.Proofs.YtlckgkpgllhpbaaDoor
open Go.RowKit

theorem own_low {w : World} {B B' e size n : Nat} {v : Value} {xs : List Value} (h : w.ownsRow B e size v n xs) (hb : B' ≤ B) : w.ownsRow B' e size v n xs := by
  obtain ⟨h1, h2⟩ := h
  refine ⟨h1, ?_⟩
  rcases h2 with h2 | ⟨g, cap, cur, hv, hg, r⟩
  · exact .inl h2
  · exact .inr ⟨g, cap, cur, hv, Nat.le_trans hb hg, r⟩
theorem rBytes_lim {st : RSt} {m : Int} (h : RLim st) : RLim (rBytes st m).2 := by
  unfold rBytes
  exact (tk_lim (rCount_lim h)).1
theorem own_by {M : Nat → Prop} {w w' : World} {base e size n : Nat} {v : Value} {xs : List Value} (h : w.ownsRow base e size v n xs) (hf : Fr M w w') (hm : ∀ g, v.ownBlock = some g → ¬ M g) : w'.ownsRow base e size v n xs :=
  own_keep h fun g hg => hf.block g (h.lt g hg).2 (hm g hg)
theorem wByteI (p : Nat) (G : Option Nat) (l : List UInt8) (k : Int) (w : World) (h0 : 0 ≤ k ∧ k ≤ 255) (h : Wtr w p G l) (hlim : l.length + 1 ≤ 140737488355328) :
    Calls Tryd.prog 27 #[.pointer (some ⟨p, 0, none⟩), .int .u8 k] w fun e w' => e = .returned (.tuple #[]) ∧ Put p G (l ++ [kindB k]) w w' := by
  have h2 := wByte p G l (kindB k) w h hlim
  rw [kindB_nat h0.1 h0.2] at h2
  exact h2
/-- A writer that was handed in, a call's box beside it. -/
structure BA (w0 w : World) (pw : Nat) (G0 G : Option Nat) (L : List UInt8) (b : Nat) (cs : Array Value) : Prop where
  a : Wtr w pw G L
  fr : Fr (WF pw G0) w0 w
  g : ∀ k, WF pw G k → WF pw G0 k ∨ w0.heap.size ≤ k
  bx : w.heap[b]? = some (.cells cs 29 (0, 0))
  nb : ¬ WF pw G b
theorem BA.next {w0 w w1 : World} {pw b : Nat} {G0 G G1 : Option Nat} {L L' : List UInt8} {cs : Array Value} (h : BA w0 w pw G0 G L b cs) (a : Wtr w1 pw G1 L') (f : Fr (WF pw G) w w1) (g : ∀ k, WF pw G1 k → WF pw G k ∨ w.heap.size ≤ k) : BA w0 w1 pw G0 G1 L' b cs :=
  ⟨a, h.fr.trans f fun k hk hx => (h.g k hx).elim id (fun hx => absurd hx (by omega)), fun k hk => (g k hk).elim (h.g k) (fun hx => .inr (Nat.le_trans h.fr.size hx)), f.at_ h.bx h.nb, fun hx => (g b hx).elim h.nb (fun hx => by have := Lib.lt_of_heap h.bx; omega)⟩
theorem BA.put {w0 w : World} {pw b : Nat} {G0 G : Option Nat} {L : List UInt8} {cs : Array Value} (h : BA w0 w pw G0 G L b cs) : Put pw G0 L w0 w := ⟨G, h.a, h.fr, h.g⟩
theorem BA.start {w : World} {pw : Nat} {G : Option Nat} {L : List UInt8} (h : Wtr w pw G L) (hp : ∀ k, WF pw G k → k < w.heap.size) (cs : Array Value) : BA w (w.alloc (.cells cs 29)) pw G G L w.heap.size cs :=
  ⟨h.fr ((Fr.refl NoB w).alloc _) (fun _ _ x => x), (Fr.refl _ w).alloc _, fun k hk => .inl hk, heap_alloc_new w _, fun hx => by have := hp _ hx; omega⟩
theorem BA.cell {w0 w : World} {pw b : Nat} {G0 G : Option Nat} {L : List UInt8} {cs : Array Value} (h : BA w0 w pw G0 G L b cs) (i : Nat) (v : Value) (hv : cs[i]? = some v) : w.cell? ⟨b, i, none⟩ = some v := (cells_of h.bx i).1.trans hv
theorem BA.keep {w0 w w1 : World} {pw b : Nat} {G0 G : Option Nat} {L : List UInt8} {cs : Array Value} (h : BA w0 w pw G0 G L b cs) (f : Fr NoB w w1) : BA w0 w1 pw G0 G L b cs :=
  ⟨h.a.fr f (fun _ _ x => x), h.fr.trans f fun _ _ x => x.elim, h.g, f.at_ h.bx (fun x => x), h.nb⟩
theorem BA.cast {w0 w : World} {pw b : Nat} {G0 G : Option Nat} {L L' : List UInt8} {cs : Array Value} (h : BA w0 w pw G0 G L b cs) (e : L = L') : BA w0 w pw G0 G L' b cs := e ▸ h
theorem BA.far {w0 w : World} {pw b : Nat} {G0 G : Option Nat} {L : List UInt8} {cs : Array Value} (h : BA w0 w pw G0 G L b cs) (k : Nat) (h1 : w.heap.size ≤ k) (h3 : WF pw G k) : False := by have := h.a.lt h3; omega
theorem rdi_new (w : World) (l : List Int) (t : TypeId) : RdI (w.alloc (.cells (iv l).toArray t)) w.heap.size (w.heap.size + 1) (some ⟨w.heap.size, 0, none⟩) l :=
  rdi_block (heap_alloc_new w _) (by rw [List.take_of_length_le (by simp [iv])])
theorem mk_size (l : List UInt8) : (ByteArray.mk l.toArray).size = l.length := by simp [ByteArray.size]
/- What kinds have. -/
theorem kp_true {k : Int} (w : World) (hk : 0 ≤ k ∧ k ≤ 255) (h : hP k) : Calls Tryd.prog 60 #[.int .u8 k] w fun e w' => e = .returned (.bool true) ∧ w = w' := by
  rcases h with ⟨h1, h2⟩ | rfl
  · go_enter Tryd.func60, Tryd.ntmps60
    go_wp2
    go_ret
    exact ⟨rfl, rfl⟩
  · go_enter Tryd.func60, Tryd.ntmps60
    go_wp2
    go_ret
    exact ⟨rfl, rfl⟩
theorem kp_false {k : Int} (w : World) (hk : 0 ≤ k ∧ k ≤ 255) (h : ¬ hP k) : Calls Tryd.prog 60 #[.int .u8 k] w fun e w' => e = .returned (.bool false) ∧ w = w' := by
  have h0 : ¬ ((3 ≤ k ∧ k ≤ 9) ∨ k = 14) := h
  have h14 : (k == 14) = false := by rw [beq_eq_false_iff_ne]; omega
  by_cases h3 : 3 ≤ k
  · have h9 : ¬ k ≤ 9 := by omega
    go_enter Tryd.func60, Tryd.ntmps60
    go_wp2
    go_ret
    exact ⟨rfl, rfl⟩
  · go_enter Tryd.func60, Tryd.ntmps60
    go_wp2
    go_ret
    exact ⟨rfl, rfl⟩
theorem kd_true {k : Int} (w : World) (hk : 0 ≤ k ∧ k ≤ 255) (h : hD k) : Calls Tryd.prog 61 #[.int .u8 k] w fun e w' => e = .returned (.bool true) ∧ w = w' := by
  rcases h with rfl | rfl <;>
  · go_enter Tryd.func61, Tryd.ntmps61
    go_wp2
    go_ret
    exact ⟨rfl, rfl⟩
theorem kd_false {k : Int} (w : World) (_hk : 0 ≤ k ∧ k ≤ 255) (h : ¬ hD k) : Calls Tryd.prog 61 #[.int .u8 k] w fun e w' => e = .returned (.bool false) ∧ w = w' := by
  have h0 : ¬ (k = 3 ∨ k = 5) := h
  have h3 : (k == 3) = false := by rw [beq_eq_false_iff_ne]; omega
  have h5 : (k == 5) = false := by rw [beq_eq_false_iff_ne]; omega
  go_enter Tryd.func61, Tryd.ntmps61
  go_wp2
  go_ret
  exact ⟨rfl, rfl⟩
theorem kv_true {k : Int} (w : World) (_hk : 0 ≤ k ∧ k ≤ 255) (h : hV k) : Calls Tryd.prog 63 #[.int .u8 k] w fun e w' => e = .returned (.bool true) ∧ w = w' := by
  obtain ⟨h1, h2⟩ := h
  go_enter Tryd.func63, Tryd.ntmps63
  go_wp2
  go_ret
  exact ⟨rfl, rfl⟩
theorem kv_false {k : Int} (w : World) (hk : 0 ≤ k ∧ k ≤ 255) (h : ¬ hV k) : Calls Tryd.prog 63 #[.int .u8 k] w fun e w' => e = .returned (.bool false) ∧ w = w' := by
  have h0 : ¬ (4 ≤ k ∧ k ≤ 6) := h
  by_cases h4 : 4 ≤ k
  · have h6 : ¬ k ≤ 6 := by omega
    go_enter Tryd.func63, Tryd.ntmps63
    go_wp2
    go_ret
    exact ⟨rfl, rfl⟩
  · go_enter Tryd.func63, Tryd.ntmps63
    go_wp2
    go_ret
    exact ⟨rfl, rfl⟩
theorem kw_true {k : Int} (w : World) (_hk : 0 ≤ k ∧ k ≤ 255) (h : hW k) : Calls Tryd.prog 64 #[.int .u8 k] w fun e w' => e = .returned (.bool true) ∧ w = w' := by
  obtain ⟨h1, h2⟩ := h
  go_enter Tryd.func64, Tryd.ntmps64
  go_wp2
  go_ret
  exact ⟨rfl, rfl⟩
theorem kw_false {k : Int} (w : World) (hk : 0 ≤ k ∧ k ≤ 255) (h : ¬ hW k) : Calls Tryd.prog 64 #[.int .u8 k] w fun e w' => e = .returned (.bool false) ∧ w = w' := by
  have h0 : ¬ (7 ≤ k ∧ k ≤ 9) := h
  by_cases h4 : 7 ≤ k
  · have h6 : ¬ k ≤ 9 := by omega
    go_enter Tryd.func64, Tryd.ntmps64
    go_wp2
    go_ret
    exact ⟨rfl, rfl⟩
  · go_enter Tryd.func64, Tryd.ntmps64
    go_wp2
    go_ret
    exact ⟨rfl, rfl⟩
theorem kl_true {k : Int} (w : World) (hk : 0 ≤ k ∧ k ≤ 255) (h : hL k) : Calls Tryd.prog 65 #[.int .u8 k] w fun e w' => e = .returned (.bool true) ∧ w = w' := by
  rcases h with rfl | rfl <;>
  · go_enter Tryd.func65, Tryd.ntmps65
    go_wp2
    go_ret
    exact ⟨rfl, rfl⟩
theorem kl_false {k : Int} (w : World) (_hk : 0 ≤ k ∧ k ≤ 255) (h : ¬ hL k) : Calls Tryd.prog 65 #[.int .u8 k] w fun e w' => e = .returned (.bool false) ∧ w = w' := by
  have h0 : ¬ (k = 1 ∨ k = 14) := h
  have h3 : (k == 1) = false := by rw [beq_eq_false_iff_ne]; omega
  have h5 : (k == 14) = false := by rw [beq_eq_false_iff_ne]; omega
  go_enter Tryd.func65, Tryd.ntmps65
  go_wp2
  go_ret
  exact ⟨rfl, rfl⟩
set_option maxHeartbeats 1600000 in
/-- Numbers that are put, one behind the other. -/
theorem ints_calls (pw : Nat) (G : Option Nat) (L : List UInt8) (A : Option Addr) (l : List Int) (c lo hi : Nat) (w : World) (hw : Wtr w pw G L) (hlim : L.length + 10 * l.length ≤ 140737488355328) (hr : RdI w lo hi A l) (hh : hi ≤ w.heap.size) (hpn : ∀ k, lo ≤ k → k < hi → ¬ WF pw G k) (hok : ∀ z ∈ l, OkI z) :
    Calls Tryd.prog 28 #[.pointer (some ⟨pw, 0, none⟩), .slice A l.length c] w fun e w' => e = .returned (.tuple #[]) ∧ Put pw G (L ++ intsB l) w w' := by
  have HR := Lib.hid hr
  have HOK := Lib.hid hok
  have HPN := Lib.hid hpn
  have HW := Lib.hid hw
  clear hr hok hpn hw
  go_enter Tryd.func28, Tryd.ntmps28
  go_wp2
  go_loopw [8] (fun i W => ∃ (k : Nat) (G1 : Option Nat), k ≤ l.length ∧ i = .int .i64 (k : Int) ∧ Wtr W pw G1 (L ++ intsB (l.take k)) ∧ Fr (WF pw G) w W ∧ (∀ j, WF pw G1 j → WF pw G j ∨ w.heap.size ≤ j)) (fun i _ => l.length - (intOf i).toNat)
  case atStart => exact ⟨0, G, Nat.zero_le _, rfl, by simpa [intsB] using HW.out, Fr.refl _ _, fun _ h => .inl h⟩
  case round =>
    obtain ⟨k, G1, hk, rfl, a1, f1, g1⟩ := hrel
    have A1 := Lib.hid a1
    have F1 := Lib.hid f1
    have G1' := Lib.hid g1
    clear a1 f1 g1
    by_cases hlt : k < l.length
    · have hki : (k : Int) < (l.length : Int) := by omega
      have hk0 : (0 : Int) ≤ (k : Int) := by omega
      have HL := Lib.hid (show (L ++ intsB (l.take k)).length + 10 ≤ 140737488355328 by have h1 := intsB_len (l.take k); rw [List.length_take] at h1; rw [List.length_append]; omega)
      obtain ⟨b, o, rfl, hb1, hb2, h4⟩ := HR.out (by omega)
      have hc := (F1.out.cell (p := ⟨b, o + k, none⟩) (Nat.lt_of_lt_of_le hb2 hh) (HPN.out b hb1 hb2)).trans (h4 k hlt)
      rw [show l.getD k 0 = l[k] by simp [List.getD, hlt]] at hc
      have HE := Lib.hid (show intsB (l.take (k + 1)) = intsB (l.take k) ++ intB l[k] by rw [List.take_succ_eq_append_getElem hlt, intsB_append]; simp [intsB])
      have HO := Lib.hid (HOK.out l[k] (List.getElem_mem hlt))
      clear h4
      generalize l[k] = z at hc HE HO
      go_wp2_with (fail)
      refine (wInt pw G1 _ z _ HO.out.1 HO.out.2 A1.out HL.out).mono ?_
      rintro e w1 ⟨rfl, G2, a2, f2, g2⟩
      have A2 := Lib.hid a2
      have F2 := Lib.hid f2
      have G2' := Lib.hid g2
      clear a2 f2 g2 A1
      go_wp2
      go_roundw
      case rel => exact ⟨k + 1, G2, by omega, by go_num, by rw [HE.out, ← List.append_assoc]; exact A2.out, F1.out.trans F2.out (fun j hj hx => (G1'.out j hx).elim id (fun hx => absurd hx (by omega))), fun j hj => (G2'.out j hj).elim (G1'.out j) (fun hx => .inr (Nat.le_trans F1.out.size hx))⟩
      case measure => simp [intOf]; omega
    · obtain rfl : k = l.length := by omega
      have HE := Lib.hid (show l.take l.length = l from List.take_length)
      go_wp2
      go_end0
      exact ⟨rfl, G1, by have := A1.out; rwa [HE.out] at this, F1.out, G1'.out⟩
end Go.Proofs.YtlckgkpgllhpbaaDoor

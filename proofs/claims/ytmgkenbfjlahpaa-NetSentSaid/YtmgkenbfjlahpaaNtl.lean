/-
  Ntl: a net under way, rows beside it that it leaves alone.
-/
import Derived.Test.YtmgkenbfjlahpaaNti
namespace Go.Proofs.Ytmgkenbfjlahpaa
open Go.RowKit Go.WideMaps Go.Sort

theorem sendok_true {L : List (Lk × List UInt8)} {k : Lk} {b : List UInt8} (h1 : (bag L k).length < 32) (h2 : b.length ≤ 1048576) : sendOk L k b = true ∧ sendL L k b = L ++ [(k, b)] := by
  have h : sendOk L k b = true := by unfold sendOk; rw [decide_eq_true h1, decide_eq_true h2]; rfl
  exact ⟨h, by unfold sendL; rw [if_pos h]⟩
theorem sendok_false {L : List (Lk × List UInt8)} {k : Lk} {b : List UInt8} (h : 32 ≤ (bag L k).length ∨ 1048576 < b.length) : sendOk L k b = false ∧ sendL L k b = L := by
  have h : sendOk L k b = false := by
    unfold sendOk
    rcases h with h | h
    · rw [decide_eq_false (by omega)]; rfl
    · rw [decide_eq_false (show ¬ b.length ≤ 1048576 by omega), Bool.and_false]
  exact ⟨h, by unfold sendL; rw [h]; rfl⟩
/-- A net made since w; its blocks are none of X. -/
def BN (w W : World) (X : Nat → Prop) (p B : Nat) (L : List (Lk × List UInt8)) : Prop := ∃ O, NetV W p B L O ∧ (∀ g, O g → w.heap.size ≤ g ∧ ¬ X g) ∧ Fr NoB w W ∧ ∀ g, X g → g < W.heap.size
section
variable {w W : World} {X : Nat → Prop} {p B : Nat} {L : List (Lk × List UInt8)}
theorem BN.fr (h : BN w W X p B L) : Fr NoB w W := by obtain ⟨O, _, _, h, _⟩ := h; exact h
theorem BN.quiet (h : BN w W X p B L) {M : Nat → Prop} {W' : World} (f : Fr M W W') (hm : ∀ g, M g → X g ∧ w.heap.size ≤ g) : BN w W' X p B L := by
  obtain ⟨O, h1, h2, h3, h4⟩ := h
  exact ⟨O, h1.fr f (fun g hg x => (h2 g hg).2 (hm g x).1), h2, h3.trans f (fun k hk hx => by have := (hm k hx).2; omega), fun g hg => Nat.lt_of_lt_of_le (h4 g hg) f.size⟩
theorem BN.step (h : BN w W X p B L) {W' : World} (f : Fr NoB W W') : BN w W' X p B L := h.quiet f (fun _ x => x.elim)
/-- What is new beside the net is left alone, too. -/
theorem BN.add (h : BN w W X p B L) {W' : World} (f : Fr NoB W W') {Y : Nat → Prop} (hY : ∀ g, Y g → X g ∨ New W W' g) : BN w W' Y p B L := by
  obtain ⟨O, h1, h2, h3, h4⟩ := h
  refine ⟨O, h1.fr f (fun _ _ x => x), fun g hg => ⟨(h2 g hg).1, fun hy => ?_⟩, h3.then f, fun g hg => ?_⟩
  · rcases hY g hy with hx | hx
    · exact (h2 g hg).2 hx
    · have := h1.lt g hg; have := hx.1; omega
  · rcases hY g hg with hx | hx
    · exact Nat.lt_of_lt_of_le (h4 g hx) f.size
    · exact hx.2
theorem BN.fewer (h : BN w W X p B L) {Y : Nat → Prop} (hY : ∀ g, Y g → X g) : BN w W Y p B L := by
  obtain ⟨O, h1, h2, h3, h4⟩ := h
  exact ⟨O, h1, fun g hg => ⟨(h2 g hg).1, fun hy => (h2 g hg).2 (hY g hy)⟩, h3, fun g hg => h4 g (hY g hg)⟩
theorem BN.le {B' : Nat} (h : BN w W X p B L) (hB : B ≤ B') : BN w W X p B' L := by
  obtain ⟨O, h1, h2⟩ := h
  exact ⟨O, h1.le hB, h2⟩
theorem BN.new (F : Fr NoB w W) (hX : ∀ g, X g → g < W.heap.size) : Calls Try.prog 9 #[] W fun e w' => ∃ p, e = .returned (.pointer (some ⟨p, 0, none⟩)) ∧ BN w w' X p 0 [] ∧ Fr NoB W w' := by
  refine (new_calls W).mono ?_
  rintro e w' ⟨p, rfl, h1, h2⟩
  exact ⟨p, rfl, ⟨_, h1, fun g hg => ⟨Nat.le_trans F.size hg.1, fun hx => by have := hX g hx; have := hg.1; omega⟩, F.then h2, fun g hg => Nat.lt_of_lt_of_le (hX g hg) h2.size⟩, h2⟩
theorem BN.ofv {W' : World} {B' : Nat} {L' : List (Lk × List UInt8)} {O O' : Nat → Prop} (h2 : ∀ g, O g → w.heap.size ≤ g ∧ ¬ X g) (h3 : Fr NoB w W) (h4 : ∀ g, X g → g < W.heap.size) (k1 : NetV W' p B' L' O') (k2 : Fr O W W') (hO : ∀ g, O' g → O g ∨ New W W' g) : BN w W' X p B' L' ∧ Fr (fun g => ¬ X g) W W' :=
  ⟨⟨_, k1, fun g hg => (hO g hg).elim (h2 g) (fun x => ⟨Nat.le_trans h3.size x.1, fun hx => by have := h4 g hx; have := x.1; omega⟩), h3.trans k2 (fun k hk hx => by have := (h2 k hx).1; omega), fun g hg => Nat.lt_of_lt_of_le (h4 g hg) k2.size⟩, k2.mono fun g _ hg => (h2 g hg).2⟩
theorem BN.send (h : BN w W X p B L) (hB : B < maxLen) {a b : Int} (hk : InR (a, b)) (A : Option Addr) (l : List UInt8) (c lo hi : Nat) (hr : Rd W lo hi A l) :
    Calls Try.prog 11 #[.pointer (some ⟨p, 0, none⟩), .int .i64 a, .int .i64 b, .slice A l.length c] W fun e w' => e = .returned (.bool (sendOk L (a, b) l)) ∧ BN w w' X p (B + 1) (sendL L (a, b) l) ∧ Fr (fun g => ¬ X g) W w' := by
  obtain ⟨O, h1, h2, h3, h4⟩ := h
  refine (send_calls h1 hB hk A l c lo hi hr).mono ?_
  rintro e w' ⟨rfl, k1, k2⟩
  exact ⟨rfl, BN.ofv h2 h3 h4 k1 k2 fun g hg => hg⟩
theorem BN.twice (h : BN w W X p B L) (hB : B < maxLen) {a b : Int} (hk : InR (a, b)) (n : Nat) {l : List UInt8} (hl : (bag L (a, b))[n]? = some l) :
    Calls Try.prog 12 #[.pointer (some ⟨p, 0, none⟩), .int .i64 a, .int .i64 b, .int .i64 (n : Int)] W fun e w' => e = .returned (.bool (sendOk L (a, b) l)) ∧ BN w w' X p (B + 1) (sendL L (a, b) l) ∧ Fr (fun g => ¬ X g) W w' := by
  obtain ⟨O, h1, h2, h3, h4⟩ := h
  refine (twice_some h1 hB hk n hl).mono ?_
  rintro e w' ⟨rfl, k1, k2⟩
  exact ⟨rfl, BN.ofv h2 h3 h4 k1 k2 fun g hg => hg⟩
theorem BN.take (h : BN w W X p B L) (hB : B < maxLen) {a b : Int} (hk : InR (a, b)) (n : Nat) {l : List UInt8} (hl : (bag L (a, b))[n]? = some l) :
    Calls Try.prog 15 #[.pointer (some ⟨p, 0, none⟩), .int .i64 a, .int .i64 b, .int .i64 (n : Int)] W fun e w' => ∃ A c, e = .returned (.tuple #[.slice A l.length c, .bool true]) ∧ w'.ownsRow w.heap.size 5 1 (.slice A l.length c) l.length (bv l) ∧ (∀ g, (Value.slice A l.length c).ownBlock = some g → ¬ X g) ∧
      BN w w' (fun g => X g ∨ (Value.slice A l.length c).ownBlock = some g) p (B + 1) (dropL L (a, b) n) ∧ Fr (fun g => ¬ X g) W w' := by
  obtain ⟨O, h1, h2, h3, h4⟩ := h
  refine (take_some h1 hB hk n (List.getElem?_eq_some_iff.1 hl).1).mono ?_
  rintro e w' ⟨⟨xA, xc, xl⟩, rfl, k0, k1, k2, k3, k4⟩
  rw [hl] at k0
  cases k0
  refine ⟨xA, xc, rfl, ⟨k1.1, ?_⟩, fun g hg => (h2 g (k2 g hg)).2, ⟨_, k3, fun g hg => ⟨(h2 g hg.1).1, fun hx => hx.elim (h2 g hg.1).2 hg.2⟩, h3.trans k4 (fun k hk hx => by have := (h2 k hx).1; omega), fun g hg => ?_⟩, k4.mono fun g _ hg => (h2 g hg).2⟩
  · rcases k1.2 with e | ⟨g, cap, cur, hv, hg, r⟩
    · exact .inl e
    · exact .inr ⟨g, cap, cur, hv, (h2 g (k2 g (by rw [Pk.val] at hv; simp only [Pk.val]; rw [hv]; rfl))).1, r⟩
  · rcases hg with hg | hg
    · exact Nat.lt_of_lt_of_le (h4 g hg) k4.size
    · exact (k1.lt g hg).2
theorem BN.takeno (h : BN w W X p B L) {a b : Int} (hk : InR (a, b)) (at' : Int) (ho : at' < 0 ∨ ((bag L (a, b)).length : Int) ≤ at') :
    Calls Try.prog 15 #[.pointer (some ⟨p, 0, none⟩), .int .i64 a, .int .i64 b, .int .i64 at'] W fun e w' => e = .returned (.tuple #[.slice none 0 0, .bool false]) ∧ W = w' := by
  obtain ⟨O, h1, h2, h3, h4⟩ := h
  exact take_none h1 hk at' ho
theorem BN.twiceno (h : BN w W X p B L) {a b : Int} (hk : InR (a, b)) (at' : Int) (ho : at' < 0 ∨ ((bag L (a, b)).length : Int) ≤ at') :
    Calls Try.prog 12 #[.pointer (some ⟨p, 0, none⟩), .int .i64 a, .int .i64 b, .int .i64 at'] W fun e w' => e = .returned (.bool false) ∧ W = w' := by
  obtain ⟨O, h1, h2, h3, h4⟩ := h
  exact twice_none h1 hk at' ho
theorem BN.count (h : BN w W X p B L) {a b : Int} (hk : InR (a, b)) :
    Calls Try.prog 21 #[.pointer (some ⟨p, 0, none⟩), .int .i64 a, .int .i64 b] W fun e w' => e = .returned (.int .i64 ((bag L (a, b)).length : Int)) ∧ W = w' := by
  obtain ⟨O, h1, h2, h3, h4⟩ := h
  exact count_calls h1 hk
theorem BN.clear (h : BN w W X p B L) {a b : Int} (hk : InR (a, b)) :
    Calls Try.prog 27 #[.pointer (some ⟨p, 0, none⟩), .int .i64 a, .int .i64 b] W fun e w' => e = .returned (.tuple #[]) ∧ BN w w' X p B (clearL L a b) ∧ Fr (fun g => ¬ X g) W w' := by
  obtain ⟨O, h1, h2, h3, h4⟩ := h
  refine (clear_calls h1 hk).mono ?_
  rintro e w' ⟨rfl, k1, k2⟩
  exact ⟨rfl, BN.ofv h2 h3 h4 k1 k2 fun g hg => .inl hg⟩
theorem BN.links (h : BN w W X p B L) (hB : B ≤ 1000000000) :
    Calls Try.prog 24 #[.pointer (some ⟨p, 0, none⟩)] W fun e w' => ∃ A c, e = .returned (.slice A (linksL L).length c) ∧ RdK w' A (linksL L) ∧ BN w w' X p B L ∧ Fr NoB W w' := by
  have h0 := h
  obtain ⟨O, h1, h2, h3, h4⟩ := h
  refine (links_calls h1 hB).mono ?_
  rintro e w' ⟨A, c, rfl, k1, k2⟩
  exact ⟨A, c, rfl, RdK.own k1, h0.step k2, k2⟩
end
end Go.Proofs.Ytmgkenbfjlahpaa

/-
  Ntv: the program's net and the document's, beside each other; one step.
-/
import Derived.Test.YtmgkenbfjlahpaaNtl
import Derived.Test.YtmgkenbfjlahpaaNtu
namespace Go.Proofs.Ytmgkenbfjlahpaa
open Go.RowKit Go.WideMaps Go.Sort

theorem BN.join {w W : World} {X : Nat → Prop} {p B : Nat} {L : List (Lk × List UInt8)} (h : BN w W X p B L) {M : Nat → Prop} {W' : World} (f : Fr M W W') (hm : ∀ g, M g → X g ∧ w.heap.size ≤ g) {Y : Nat → Prop} (hY : ∀ g, Y g → X g ∨ New W W' g) : BN w W' Y p B L := by
  obtain ⟨O, h1, h2, h3, h4⟩ := h
  refine ⟨O, h1.fr f (fun g hg x => (h2 g hg).2 (hm g x).1), fun g hg => ⟨(h2 g hg).1, fun hy => ?_⟩, h3.trans f (fun k hk hx => by have := (hm k hx).2; omega), fun g hg => ?_⟩
  · rcases hY g hy with hx | hx
    · exact (h2 g hg).2 hx
    · have := h1.lt g hg; have := hx.1; omega
  · rcases hY g hg with hx | hx
    · exact Nat.lt_of_lt_of_le (h4 g hx) f.size
    · exact hx.2

/-- The document's net. -/
theorem rnew_calls (w : World) : Calls Try.prog 19 #[] w fun e w' => ∃ q, e = .returned (.pointer (some ⟨q, 0, none⟩)) ∧ RW w' q [] (New w w') ∧ Fr NoB w w' := by
  go_enter Try.func19, Try.ntmps19
  go_wp2
  go_ret
  have hs : RS (w.alloc (.cells #[.slice none 0 0] 84)) w.heap.size (.slice none 0 0) [] (New w (w.alloc (.cells #[.slice none 0 0] 84))) :=
    ⟨heap_alloc_new w _, World.ownsRow_nil _ _ _ _, fun x hx => (List.not_mem_nil hx).elim, ⟨Nat.le_refl _, by simp⟩, fun g hg => by simp [Value.ownBlock] at hg, fun x hx => (List.not_mem_nil hx).elim, fun g hg => hg.2, fun x hx => (List.not_mem_nil hx).elim⟩
  exact ⟨_, rfl, ⟨_, _, hs, rfl⟩, (Fr.refl NoB w).alloc _⟩

/-- Both nets, made since w; their blocks are apart, and none of X. -/
def TN (w W : World) (X : Nat → Prop) (p B : Nat) (L : List (Lk × List UInt8)) (q : Nat) (R : List (Lk × List UInt8)) : Prop :=
  ∃ U, BN w W (fun g => X g ∨ U g) p B L ∧ RW W q R U ∧ ∀ g, U g → w.heap.size ≤ g ∧ ¬ X g
section
variable {w W : World} {X : Nat → Prop} {p B q : Nat} {L R : List (Lk × List UInt8)}
theorem TN.fr (h : TN w W X p B L q R) : Fr NoB w W := by obtain ⟨U, h, _⟩ := h; exact h.fr
theorem TN.lt (h : TN w W X p B L q R) : ∀ g, X g → g < W.heap.size := by obtain ⟨U, ⟨_, _, _, _, h⟩, _⟩ := h; exact fun g hg => h g (.inl hg)
theorem TN.step (h : TN w W X p B L q R) {W' : World} (f : Fr NoB W W') : TN w W' X p B L q R := by
  obtain ⟨U, h1, h2, h3⟩ := h
  exact ⟨U, h1.step f, h2.fr f (fun _ _ x => x), h3⟩
theorem TN.add (h : TN w W X p B L q R) {W' : World} (f : Fr NoB W W') {Y : Nat → Prop} (hY : ∀ g, Y g → X g ∨ New W W' g) : TN w W' Y p B L q R := by
  obtain ⟨U, h1, h2, h3⟩ := h
  refine ⟨U, h1.add f (fun g hg => hg.elim (fun x => (hY g x).imp .inl id) fun x => .inl (.inr x)), h2.fr f (fun _ _ x => x), fun g hg => ⟨(h3 g hg).1, fun hy => (hY g hy).elim (h3 g hg).2 fun hn => ?_⟩⟩
  have := h2.lt g hg; have := hn.1; omega
theorem TN.fewer (h : TN w W X p B L q R) {Y : Nat → Prop} (hY : ∀ g, Y g → X g) : TN w W Y p B L q R := by
  obtain ⟨U, h1, h2, h3⟩ := h
  exact ⟨U, h1.fewer (fun g hg => hg.imp (hY g) id), h2, fun g hg => ⟨(h3 g hg).1, fun hy => (h3 g hg).2 (hY g hy)⟩⟩
theorem TN.le {B' : Nat} (h : TN w W X p B L q R) (hB : B ≤ B') : TN w W X p B' L q R := by
  obtain ⟨U, h1, h2⟩ := h
  exact ⟨U, h1.le hB, h2⟩
theorem TN.made (h : BN w W X p B L) {W' : World} (h2 : RW W' q R (New W W')) (f : Fr NoB W W') : TN w W' X p B L q R :=
  ⟨_, h.add f (fun g hg => hg.imp id id), h2, fun g hg => ⟨Nat.le_trans h.fr.size hg.1, fun hx => by
    obtain ⟨_, _, _, _, h4⟩ := h
    have := h4 g hx; have := hg.1; omega⟩⟩
/-- What the document's net does. -/
theorem TN.doc (h : TN w W X p B L q R) : ∃ U, RW W q R U ∧ ∀ {W' : World} {R' : List (Lk × List UInt8)}, RW W' q R' (fun g => U g ∨ New W W' g) → Fr U W W' → TN w W' X p B L q R' ∧ Fr (fun g => ¬ X g) W W' := by
  have h0 := h
  obtain ⟨U, h1, h2, h3⟩ := h
  refine ⟨U, h2, fun r f => ⟨⟨_, h1.join f (fun g hg => ⟨.inr hg, (h3 g hg).1⟩) (fun g hg => ?_), r, fun g hg => ?_⟩, f.mono fun g _ hg => (h3 g hg).2⟩⟩
  · rcases hg with hg | hg | hg
    · exact .inl (.inl hg)
    · exact .inl (.inr hg)
    · exact .inr hg
  · rcases hg with hg | hg
    · exact h3 g hg
    · exact ⟨Nat.le_trans h1.fr.size hg.1, fun hx => by have := h0.lt g hx; have := hg.1; omega⟩
theorem TN.send (h : TN w W X p B L q R) (hB : B < maxLen) {a b : Int} (hk : InR (a, b)) (A : Option Addr) (l : List UInt8) (c lo hi : Nat) (hr : Rd W lo hi A l) :
    Calls Try.prog 11 #[.pointer (some ⟨p, 0, none⟩), .int .i64 a, .int .i64 b, .slice A l.length c] W fun e w' => e = .returned (.bool (sendOk L (a, b) l)) ∧ TN w w' X p (B + 1) (sendL L (a, b) l) q R ∧ Fr (fun g => ¬ X g) W w' := by
  obtain ⟨U, h1, h2, h3⟩ := h
  refine (h1.send hB hk A l c lo hi hr).mono ?_
  rintro e w' ⟨rfl, k1, k2⟩
  exact ⟨rfl, ⟨U, k1, h2.fr k2 (fun g hg hx => hx (.inr hg)), h3⟩, k2.mono fun g _ hg hx => hg (.inl hx)⟩
theorem TN.rsend (h : TN w W X p B L q R) (hl : R.length ≤ 1000000000) (a b : Int) (A : Option Addr) (l : List UInt8) (c lo hi : Nat) (hr : Rd W lo hi A l) :
    Calls Try.prog 38 #[.pointer (some ⟨q, 0, none⟩), .int .i64 a, .int .i64 b, .slice A l.length c] W fun e w' => e = .returned (.bool (sendOk R (a, b) l)) ∧ TN w w' X p B L q (sendL R (a, b) l) ∧ Fr (fun g => ¬ X g) W w' := by
  obtain ⟨U, h1, h2⟩ := h.doc
  refine (rsend_calls h1 hl a b A l c lo hi hr).mono ?_
  rintro e w' ⟨rfl, k1, k2⟩
  exact ⟨rfl, h2 k1 k2⟩
/-- The packet that a place means. -/
def meant (L : List (Lk × List UInt8)) (k : Lk) (z : Int) : Option (List UInt8) := if z < 0 then none else (bag L k)[z.toNat]?
def twOk (L : List (Lk × List UInt8)) (k : Lk) (z : Int) : Bool := match meant L k z with | none => false | some l => sendOk L k l
def twL (L : List (Lk × List UInt8)) (k : Lk) (z : Int) : List (Lk × List UInt8) := match meant L k z with | none => L | some l => sendL L k l
def tkB (L : List (Lk × List UInt8)) (k : Lk) (z : Int) : List UInt8 := (meant L k z).getD []
def tkL (L : List (Lk × List UInt8)) (k : Lk) (z : Int) : List (Lk × List UInt8) := match meant L k z with | none => L | some _ => dropL L k z.toNat
theorem meant_none {L : List (Lk × List UInt8)} {k : Lk} {z : Int} (h : meant L k z = none) : z < 0 ∨ ((bag L k).length : Int) ≤ z := by
  unfold meant at h
  by_cases hz : z < 0
  · exact .inl hz
  · rw [if_neg hz, List.getElem?_eq_none_iff] at h
    exact .inr (by omega)
theorem meant_some {L : List (Lk × List UInt8)} {k : Lk} {z : Int} {l : List UInt8} (h : meant L k z = some l) : ∃ n : Nat, z = (n : Int) ∧ z.toNat = n ∧ (bag L k)[n]? = some l := by
  unfold meant at h
  by_cases hz : z < 0
  · rw [if_pos hz] at h; cases h
  · rw [if_neg hz] at h
    exact ⟨z.toNat, by omega, rfl, h⟩
theorem TN.twice (h : TN w W X p B L q R) (hB : B < maxLen) {a b : Int} (hk : InR (a, b)) (z : Int) :
    Calls Try.prog 12 #[.pointer (some ⟨p, 0, none⟩), .int .i64 a, .int .i64 b, .int .i64 z] W fun e w' => e = .returned (.bool (twOk L (a, b) z)) ∧ TN w w' X p (B + 1) (twL L (a, b) z) q R ∧ Fr (fun g => ¬ X g) W w' := by
  have h0 := h
  obtain ⟨U, h1, h2, h3⟩ := h
  unfold twOk twL
  cases hm : meant L (a, b) z with
  | none =>
    refine (h1.twiceno hk z (meant_none hm)).mono ?_
    rintro e w' ⟨rfl, rfl⟩
    exact ⟨rfl, h0.le (Nat.le_succ _), Fr.refl _ _⟩
  | some l =>
    obtain ⟨n, rfl, -, hn⟩ := meant_some hm
    refine (h1.twice hB hk n hn).mono ?_
    rintro e w' ⟨rfl, k1, k2⟩
    exact ⟨rfl, ⟨U, k1, h2.fr k2 (fun g hg hx => hx (.inr hg)), h3⟩, k2.mono fun g _ hg hx => hg (.inl hx)⟩
theorem TN.rtwice (h : TN w W X p B L q R) (hl : R.length ≤ 1000000000) (a b : Int) (z : Int) (hz : z ≤ 9223372036854775807) :
    Calls Try.prog 40 #[.pointer (some ⟨q, 0, none⟩), .int .i64 a, .int .i64 b, .int .i64 z] W fun e w' => e = .returned (.bool (twOk R (a, b) z)) ∧ TN w w' X p B L q (twL R (a, b) z) ∧ Fr (fun g => ¬ X g) W w' := by
  obtain ⟨U, h1, h2⟩ := h.doc
  unfold twOk twL
  cases hm : meant R (a, b) z with
  | none =>
    refine (rtwice_none h1 hl z hz (meant_none hm)).mono ?_
    rintro e w' ⟨rfl, rfl⟩
    exact ⟨rfl, h, Fr.refl _ _⟩
  | some l =>
    obtain ⟨n, rfl, -, hn⟩ := meant_some hm
    refine (rtwice_some h1 hl n hz hn).mono ?_
    rintro e w' ⟨rfl, k1, k2⟩
    exact ⟨rfl, h2 k1 k2⟩
theorem TN.take (h : TN w W X p B L q R) (hB : B < maxLen) {a b : Int} (hk : InR (a, b)) (z : Int) :
    Calls Try.prog 15 #[.pointer (some ⟨p, 0, none⟩), .int .i64 a, .int .i64 b, .int .i64 z] W fun e w' => ∃ A c, e = .returned (.tuple #[.slice A (tkB L (a, b) z).length c, .bool (meant L (a, b) z).isSome]) ∧ w'.ownsRow w.heap.size 5 1 (.slice A (tkB L (a, b) z).length c) (tkB L (a, b) z).length (bv (tkB L (a, b) z)) ∧
      TN w w' (fun g => X g ∨ (Value.slice A (tkB L (a, b) z).length c).ownBlock = some g) p (B + 1) (tkL L (a, b) z) q R ∧ Fr (fun g => ¬ X g) W w' := by
  have h0 := h
  obtain ⟨U, h1, h2, h3⟩ := h
  unfold tkB tkL
  cases hm : meant L (a, b) z with
  | none =>
    refine (h1.takeno hk z (meant_none hm)).mono ?_
    rintro e w' ⟨rfl, rfl⟩
    exact ⟨none, 0, rfl, World.ownsRow_nil _ _ _ _, (h0.le (Nat.le_succ _)).fewer (fun g hg => hg.elim id fun x => by simp [Value.ownBlock] at x), Fr.refl _ _⟩
  | some l =>
    obtain ⟨n, rfl, hn2, hn⟩ := meant_some hm
    refine (h1.take hB hk n hn).mono ?_
    rintro e w' ⟨A, c, rfl, k0, k3, k1, k2⟩
    refine ⟨A, c, rfl, k0, ⟨U, ?_, h2.fr k2 (fun g hg hx => hx (.inr hg)), fun g hg => ⟨(h3 g hg).1, fun hx => hx.elim (h3 g hg).2 fun hy => k3 g hy (.inr hg)⟩⟩, k2.mono fun g _ hg hx => hg (.inl hx)⟩
    simp only [hn2]
    exact k1.fewer fun g hg => by
      rcases hg with (hg | hg) | hg
      · exact .inl (.inl hg)
      · exact .inr hg
      · exact .inl (.inr hg)
theorem TN.rtake (h : TN w W X p B L q R) (hl : R.length ≤ 1000000000) (a b : Int) (z : Int) (hz : z ≤ 9223372036854775807) :
    Calls Try.prog 39 #[.pointer (some ⟨q, 0, none⟩), .int .i64 a, .int .i64 b, .int .i64 z] W fun e w' => ∃ A c, e = .returned (.tuple #[.slice A (tkB R (a, b) z).length c, .bool (meant R (a, b) z).isSome]) ∧ w'.ownsRow W.heap.size 5 1 (.slice A (tkB R (a, b) z).length c) (tkB R (a, b) z).length (bv (tkB R (a, b) z)) ∧
      TN w w' X p B L q (tkL R (a, b) z) ∧ Fr (fun g => ¬ X g) W w' := by
  obtain ⟨U, h1, h2⟩ := h.doc
  unfold tkB tkL
  cases hm : meant R (a, b) z with
  | none =>
    refine (rtake_none h1 hl z hz (meant_none hm)).mono ?_
    rintro e w' ⟨rfl, rfl⟩
    exact ⟨none, 0, rfl, World.ownsRow_nil _ _ _ _, h, Fr.refl _ _⟩
  | some l =>
    obtain ⟨n, rfl, hn2, hn⟩ := meant_some hm
    refine (rtake_some h1 hl n hz hn).mono ?_
    rintro e w' ⟨A, c, rfl, k0, k1, k2⟩
    simp only [hn2]
    exact ⟨A, c, rfl, k0, h2 k1 k2⟩
theorem TN.clear (h : TN w W X p B L q R) {a b : Int} (hk : InR (a, b)) :
    Calls Try.prog 27 #[.pointer (some ⟨p, 0, none⟩), .int .i64 a, .int .i64 b] W fun e w' => e = .returned (.tuple #[]) ∧ TN w w' X p B (clearL L a b) q R ∧ Fr (fun g => ¬ X g) W w' := by
  obtain ⟨U, h1, h2, h3⟩ := h
  refine (h1.clear hk).mono ?_
  rintro e w' ⟨rfl, k1, k2⟩
  exact ⟨rfl, ⟨U, k1, h2.fr k2 (fun g hg hx => hx (.inr hg)), h3⟩, k2.mono fun g _ hg hx => hg (.inl hx)⟩
theorem TN.rclear (h : TN w W X p B L q R) (hl : R.length ≤ 1000000000) (a b : Int) :
    Calls Try.prog 41 #[.pointer (some ⟨q, 0, none⟩), .int .i64 a, .int .i64 b] W fun e w' => e = .returned (.tuple #[]) ∧ TN w w' X p B L q (clearL R a b) ∧ Fr (fun g => ¬ X g) W w' := by
  obtain ⟨U, h1, h2⟩ := h.doc
  refine (rclear_calls h1 hl a b).mono ?_
  rintro e w' ⟨rfl, k1, k2⟩
  exact ⟨rfl, h2 k1 k2⟩
theorem TN.count (h : TN w W X p B L q R) {a b : Int} (hk : InR (a, b)) :
    Calls Try.prog 21 #[.pointer (some ⟨p, 0, none⟩), .int .i64 a, .int .i64 b] W fun e w' => e = .returned (.int .i64 ((bag L (a, b)).length : Int)) ∧ W = w' := by
  obtain ⟨U, h1, h2, h3⟩ := h
  exact h1.count hk
theorem TN.rcount (h : TN w W X p B L q R) (hl : R.length ≤ 1000000000) (a b : Int) :
    Calls Try.prog 22 #[.pointer (some ⟨q, 0, none⟩), .int .i64 a, .int .i64 b] W fun e w' => e = .returned (.int .i64 ((bag R (a, b)).length : Int)) ∧ W = w' := by
  obtain ⟨U, -, ⟨v, V, h2, rfl⟩, h3⟩ := h
  rw [bytesV_len] at hl
  rw [bag_bytes, List.length_map]
  exact rcount_calls h2 a b hl
theorem TN.links (h : TN w W X p B L q R) (hB : B ≤ 1000000000) :
    Calls Try.prog 24 #[.pointer (some ⟨p, 0, none⟩)] W fun e w' => ∃ A c, e = .returned (.slice A (linksL L).length c) ∧ RdK w' A (linksL L) ∧ TN w w' X p B L q R ∧ Fr NoB W w' := by
  have h0 := h
  obtain ⟨U, h1, h2, h3⟩ := h
  refine (h1.links hB).mono ?_
  rintro e w' ⟨A, c, rfl, k1, -, k2⟩
  exact ⟨A, c, rfl, k1, h0.step k2, k2⟩
theorem TN.rlinks (h : TN w W X p B L q R) (hl : R.length ≤ 1000000000) :
    Calls Try.prog 25 #[.pointer (some ⟨q, 0, none⟩)] W fun e w' => ∃ A c, e = .returned (.slice A (linksL R).length c) ∧ RdK w' A (linksL R) ∧ TN w w' X p B L q R ∧ Fr NoB W w' := by
  have h0 := h
  obtain ⟨U, h1, h2, h3⟩ := h
  refine (rlinks_calls h2 hl).mono ?_
  rintro e w' ⟨A, c, rfl, k1, k2⟩
  exact ⟨A, c, rfl, k1, h0.step k2, k2⟩
end
theorem sendL_len (L : List (Lk × List UInt8)) (k : Lk) (l : List UInt8) : (sendL L k l).length ≤ L.length + 1 := by
  unfold sendL; split <;> simp
theorem dropL_len {α : Type} : ∀ (L : List (Lk × α)) (k : Lk) (n : Nat), (dropL L k n).length ≤ L.length
  | [], _, _ => Nat.le_refl _
  | x :: L, k, n => by
    unfold dropL
    split
    · split
      · simp
      · simpa using dropL_len L k _
    · simpa using dropL_len L k n
theorem twL_len (L : List (Lk × List UInt8)) (k : Lk) (z : Int) : (twL L k z).length ≤ L.length + 1 := by
  unfold twL; split
  · omega
  · exact sendL_len _ _ _
theorem tkL_len (L : List (Lk × List UInt8)) (k : Lk) (z : Int) : (tkL L k z).length ≤ L.length + 1 := by
  unfold tkL; split
  · omega
  · have := dropL_len L k z.toNat; omega
theorem clearL_len (L : List (Lk × List UInt8)) (a b : Int) : (clearL L a b).length ≤ L.length + 1 := by
  have : (clearL L a b).length ≤ L.length := List.length_filter_le _ _
  omega
end Go.Proofs.Ytmgkenbfjlahpaa

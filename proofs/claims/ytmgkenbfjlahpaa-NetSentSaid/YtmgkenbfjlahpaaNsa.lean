/-
  Nsa: rows of packets beside a net; the statement's place.
-/
import Derived.Test.YtmgkenbfjlahpaaNtw
import Derived.Test.YtmgkenbfjlahpaaNtx
namespace Go.Proofs.Ytmgkenbfjlahpaa
open Go.RowKit Go.WideMaps Go.Sort

/-- A row of packets of one's own, in blocks of X. -/
structure OR (W : World) (X : Nat → Prop) (v : Value) (V : List Pk) : Prop where
  row : W.ownsRow 0 22 1 v V.length (V.map Pk.val)
  pk : ∀ x ∈ V, W.ownsRow 0 5 1 x.val x.l.length (bv x.l)
  ov : ∀ g, v.ownBlock = some g → X g
  ox : ∀ x ∈ V, ∀ g, x.val.ownBlock = some g → X g
  lens : ∀ x ∈ V, x.l.length ≤ 1048576
theorem own_apart {w : World} {b b' e e' s s' n n' : Nat} {v v' : Value} {xs xs' : List Value} (h : w.ownsRow b e s v n xs) (h' : w.ownsRow b' e' s' v' n' xs') (hne : e ≠ e') {g : Nat} (hg : v.ownBlock = some g) : v'.ownBlock ≠ some g := fun hg' => by
  rcases h.2 with ⟨r, _⟩ | ⟨g1, c1, u1, r, _, hh, _⟩
  · rw [r] at hg; cases hg
  rcases h'.2 with ⟨r', _⟩ | ⟨g2, c2, u2, r', _, hh', _⟩
  · rw [r'] at hg'; cases hg'
  rw [r] at hg
  rw [r'] at hg'
  obtain rfl : g1 = g := by simpa [Value.ownBlock] using hg
  obtain rfl : g2 = g1 := by simpa [Value.ownBlock] using hg'
  rw [hh] at hh'
  simp only [Option.some.injEq, Obj.cells.injEq] at hh'
  exact hne hh'.2.1
section
variable {W : World} {X : Nat → Prop} {v : Value} {V : List Pk}
theorem OR.nil (W : World) (X : Nat → Prop) : OR W X (.slice none 0 0) [] := ⟨World.ownsRow_nil _ _ _ _, fun x hx => (List.not_mem_nil hx).elim, fun g hg => by simp [Value.ownBlock] at hg, fun x hx => (List.not_mem_nil hx).elim, fun x hx => (List.not_mem_nil hx).elim⟩
theorem OR.fr (h : OR W X v V) {M : Nat → Prop} {W' : World} (f : Fr M W W') (hm : ∀ g, X g → ¬ M g) : OR W' X v V :=
  ⟨ownBlock_kept h.row f (fun g hg => hm g (h.ov g hg)), fun x hx => ownBlock_kept (h.pk x hx) f (fun g hg => hm g (h.ox x hx g hg)), h.ov, h.ox, h.lens⟩
theorem OR.mono (h : OR W X v V) {Y : Nat → Prop} (hX : ∀ g, X g → Y g) : OR W Y v V := ⟨h.row, h.pk, fun g hg => hX g (h.ov g hg), fun x hx g hg => hX g (h.ox x hx g hg), h.lens⟩
/-- One packet more. -/
theorem OR.push (h : OR W X v V) {W' : World} {v' : Value} {x : Pk} (hx : W.ownsRow 0 5 1 x.val x.l.length (bv x.l)) (hxX : ∀ g, x.val.ownBlock = some g → X g) (hl : x.l.length ≤ 1048576) (a : App 0 22 1 v (V.length + 1) (V.map Pk.val ++ [x.val]) W v' W') :
    OR W' (fun g => X g ∨ v'.ownBlock = some g) v' (V ++ [x]) := by
  have hne : 5 ≠ 22 := by decide
  refine ⟨by rw [List.length_append, List.map_append]; exact a.own, fun y hy => ?_, fun g hg => .inr hg, fun y hy g hg => ?_, fun y hy => ?_⟩
  · rcases List.mem_append.1 hy with hy | hy
    · exact ownBlock_kept (h.pk y hy) a.fr (fun g hg => own_apart (h.pk y hy) h.row hne hg)
    · rw [List.mem_singleton.1 hy]; exact ownBlock_kept hx a.fr (fun g hg => own_apart hx h.row hne hg)
  · rcases List.mem_append.1 hy with hy | hy
    · exact .inl (h.ox y hy g hg)
    · rw [List.mem_singleton.1 hy] at hg; exact .inl (hxX g hg)
  · rcases List.mem_append.1 hy with hy | hy
    · exact h.lens y hy
    · rw [List.mem_singleton.1 hy]; exact hl
theorem OR.some (h : OR W X v V) (h0 : 0 < V.length) : ∃ g c, v = .slice (some ⟨g, 0, none⟩) V.length c ∧ g < W.heap.size ∧ ∀ i x, V[i]? = some x → W.cell? ⟨g, i, none⟩ = some (.slice x.A x.l.length x.c) ∧ Rd W 0 W.heap.size x.A x.l := by
  obtain ⟨g, c, rfl⟩ := own_some h.row h0
  refine ⟨g, c, rfl, (h.row.lt g rfl).2, fun i x hx => ⟨?_, own_rd (h.pk x (List.mem_of_getElem? hx))⟩⟩
  have := h.row.cells (g := g) rfl i x.val (by rw [List.getElem?_map, hx]; rfl)
  rwa [Lib.addr_add, Nat.zero_add] at this
end

set_option maxRecDepth 8000 in
set_option maxHeartbeats 1600000 in
/-- Where bytes stand among others. -/
theorem place_calls {W : World} {X : Nat → Prop} {v : Value} {V : List Pk} (h : OR W X v V) (hl : V.length ≤ 1000000) (B : Option Addr) (b : List UInt8) (d lo hi : Nat) (hb : Rd W lo hi B b) (hbl : b.length ≤ 140737488355328) :
    Calls Try.prog 30 #[v, .slice B b.length d] W fun e w' => (∃ r : Int, e = .returned (.int .i64 r) ∧ ((∃ (i : Nat) (x : Pk), r = (i : Int) ∧ V[i]? = some x ∧ x.l = b) ∨ (r = -1 ∧ ∀ x ∈ V, x.l ≠ b))) ∧ ∃ n, w' = W.drewN n := by
  obtain ⟨A, c, rfl, -, -⟩ := nown_form4 h.row
  have H := Lib.hid h
  have HB := Lib.hid hb
  clear h hb
  go_enter Try.func30, Try.ntmps30
  go_wp2
  go_loopw [5] (fun i wr => ∃ k : Nat, k ≤ V.length ∧ i = .int .i64 (k : Int) ∧ (∀ j x, j < k → V[j]? = some x → x.l ≠ b) ∧ ∃ n, wr = W.drewN n) (fun i _ => V.length - (intOf i).toNat)
  case atStart => exact ⟨0, Nat.zero_le _, rfl, fun j x hj => absurd hj (Nat.not_lt_zero _), 0, rfl⟩
  case round =>
    obtain ⟨k, hk, rfl, hno, n, rfl⟩ := hrel
    have HNO := Lib.hid hno
    clear hno
    by_cases hlt : k < V.length
    · obtain ⟨g, c', hv, -, hc⟩ := H.out.some (by omega)
      cases hv
      obtain ⟨x, hx⟩ : ∃ x, V[k]? = some x := ⟨V[k], List.getElem?_eq_getElem hlt⟩
      obtain ⟨c1, c2⟩ := hc k x hx
      have hxl := H.out.lens x (List.mem_of_getElem? hx)
      have HX := Lib.hid hx
      obtain ⟨xA, xc, xl⟩ := x
      have k1 : (W.drewN n).cell? ⟨g, k, none⟩ = some (.slice xA xl.length xc) := c1
      have HSM := Lib.hid (same_calls xA B xl b xc d _ _ _ _ (W.drewN n) (c2.fr ((Fr.refl NoB W).drewN n) (Nat.le_refl _) (fun _ _ _ x => x)) (HB.out.keep (fun _ _ _ => rfl)) (by simp only at hxl; omega) hbl)
      have hki : (k : Int) < (V.length : Int) := by omega
      have hk0 : (0 : Int) ≤ (k : Int) := by omega
      clear c1 c2 hc hx hxl
      by_cases he : xl = b
      · rw [show (xl == b) = true by rw [beq_iff_eq]; exact he] at HSM
        have HE := Lib.hid he
        clear he
        go_wp2_with (first | ((with_reducible refine HSM.out.mono ?_); rintro e w2 ⟨rfl, n2, rfl⟩) | fail)
        go_ret
        exact ⟨⟨_, rfl, .inl ⟨k, _, rfl, HX.out, HE.out⟩⟩, n + n2, by simp⟩
      · rw [show (xl == b) = false by rw [beq_eq_false_iff_ne]; exact he] at HSM
        have HE := Lib.hid he
        clear he
        go_wp2_with (first | ((with_reducible refine HSM.out.mono ?_); rintro e w2 ⟨rfl, n2, rfl⟩) | fail)
        go_roundw
        case rel =>
          refine ⟨k + 1, by omega, by go_num, fun j y hj hy => ?_, n + n2, by simp⟩
          by_cases hjk : j = k
          · subst hjk
            rw [HX.out] at hy
            cases hy
            exact HE.out
          · exact HNO.out j y (by omega) hy
        case measure => simp [intOf]; omega
    · obtain rfl : k = V.length := by omega
      go_wp2
      go_ret
      exact ⟨⟨_, rfl, .inr ⟨rfl, fun x hx => by
        obtain ⟨i, hi⟩ := List.mem_iff_getElem?.1 hx
        exact HNO.out i x (List.getElem?_eq_some_iff.1 hi).1 hi⟩⟩, n, rfl⟩
end Go.Proofs.Ytmgkenbfjlahpaa

/-
  Ptr: the document's answer: Under.
-/
import Derived.Test.YtbfcggcfabkbjaaDoorPtq
namespace Go.Proofs.YtbfcggcfabkbjaaDoor
open Go.RowKit Go.Shelf

theorem join_more (xs : List (List UInt8)) (hx : xs ≠ []) (y : List UInt8) (ys : List (List UInt8)) : ∃ r, Lib.join (xs ++ y :: ys) [47] = Lib.join xs [47] ++ 47 :: r := by
  cases xs with
  | nil => exact absurd rfl hx
  | cons x xs =>
    refine ⟨y ++ Lib.joinTail [47] ys, ?_⟩
    rw [List.cons_append, Lib.join_cons, Lib.join_cons]
    simp [Lib.joinTail]
theorem spl_pre {s t : List UInt8} : spl s <+: spl t ↔ s = t ∨ (s ++ [47]) <+: t := by
  constructor
  · rintro ⟨r, hr⟩
    cases r with
    | nil =>
      left
      rw [List.append_nil] at hr
      rw [← join_spl s, hr, join_spl]
    | cons y ys =>
      right
      obtain ⟨r, h⟩ := join_more (spl s) (spl_ne s) y ys
      rw [hr, join_spl, join_spl] at h
      exact ⟨r, by rw [h]; simp⟩
  · rintro (rfl | ⟨r, rfl⟩)
    · exact List.prefix_refl _
    · rw [List.append_assoc, List.singleton_append, spl_app]
      exact List.prefix_append _ _
theorem und_parts {a b : List UInt8} (ha : chk a = true) (hb : chk b = true) (hna : a ≠ [47]) (hnb : b ≠ [47]) : und a b = (spl (a.drop 1)).isPrefixOf (spl (b.drop 1)) := by
  rw [Bool.eq_iff_iff, und_iff, List.isPrefixOf_iff_prefix, spl_pre]
  obtain ⟨s, rfl, _, _⟩ := chk_iff.1 ha
  obtain ⟨t, rfl, _, _⟩ := chk_iff.1 hb
  simp only [List.drop_one, List.tail_cons, List.cons_append, List.cons_prefix_cons, List.cons.injEq, true_and]
  constructor
  · rintro ⟨_, _, h | h | h⟩
    · exact absurd (by rw [h]) hna
    · exact .inl h
    · exact .inr h
  · rintro (h | h)
    · exact ⟨ha, hb, .inr (.inl h)⟩
    · exact ⟨ha, hb, .inr (.inr h)⟩

theorem pre_step (xs ys : List (List UInt8)) (k : Nat) (hk : k < xs.length) (hl : xs.length ≤ ys.length) (h : xs.take k = ys.take k) : (xs[k]? = ys[k]? → xs.take (k + 1) = ys.take (k + 1)) ∧ (xs[k]? ≠ ys[k]? → xs.isPrefixOf ys = false) := by
  refine ⟨fun e => by rw [List.take_add_one, List.take_add_one, h, e], fun e => ?_⟩
  rw [Bool.eq_false_iff]
  intro hx
  rw [List.isPrefixOf_iff_prefix] at hx
  obtain ⟨r, rfl⟩ := hx
  exact e (by rw [List.getElem?_append_left hk])

set_option maxRecDepth 8000 in
set_option maxHeartbeats 3200000 in
theorem refunder_rows (xs ys : List (List UInt8)) (r : Bool) (hr : xs.isPrefixOf ys = r) (S T : ByteArray) (w : World) (hM : Max w) (hxl : xs.length ≤ 201) (hyl : ys.length ≤ 201)
    (h1 : ∀ W, Max W → Calls Tryd.prog 22 #[.string S] W fun e w' => ∃ b, e = .returned (.tuple #[.slice (some ⟨b, 0, none⟩) xs.length xs.length, .bool true]) ∧ b < w'.heap.size ∧ StrRow w' b xs ∧ Fr NoB W w')
    (h2 : ∀ W, Max W → Calls Tryd.prog 22 #[.string T] W fun e w' => ∃ b, e = .returned (.tuple #[.slice (some ⟨b, 0, none⟩) ys.length ys.length, .bool true]) ∧ b < w'.heap.size ∧ StrRow w' b ys ∧ Fr NoB W w') :
    Calls Tryd.prog 18 #[.string S, .string T] w fun e w' => e = .returned (.bool r) ∧ Fr NoB w w' := by
  go_enter Tryd.func18, Tryd.ntmps18
  go_wp2_with ((with_reducible refine (h1 _ hM).mono ?_); rintro e w1 ⟨b1, rfl, hb1, hr1, f1⟩)
  refine (h2 _ (hM.fr f1)).mono ?_
  rintro e w2 ⟨b2, rfl, hb2, hr2, f2⟩
  have hf := f1.then f2
  have hr1' := hr1.fr f2 hb1
  clear hr1 h1 h2
  by_cases hl : ys.length < xs.length
  · have hli : (ys.length : Int) < (xs.length : Int) := by omega
    have hp : xs.isPrefixOf ys = false := by
      rw [Bool.eq_false_iff]
      intro hx
      rw [List.isPrefixOf_iff_prefix] at hx
      have := hx.length_le
      omega
    obtain rfl : r = false := by rw [← hr, hp]
    go_wp2
    go_ret
    exact ⟨rfl, hf⟩
  · have hli : (xs.length : Int) ≤ (ys.length : Int) := by omega
    go_wp2
    go_loopw [9] (fun i W => ∃ k : Nat, i = .int .i64 (k : Int) ∧ k ≤ xs.length ∧ xs.take k = ys.take k ∧ Fr NoB w2 W) (fun i _ => xs.length - (intOf i).toNat)
    case atStart => exact ⟨0, rfl, Nat.zero_le _, by simp, Fr.refl _ _⟩
    case round =>
      obtain ⟨k, rfl, hk, ht, hfl⟩ := hrel
      have hwf := hf.then hfl
      by_cases hlt : k < xs.length
      · obtain ⟨p1, p2⟩ := pre_step xs ys k hlt (by omega) ht
        have hlt2 : k < ys.length := by omega
        have g1 := (hr1'.fr hfl (Nat.lt_of_lt_of_le hb1 f2.size)) k _ (List.getElem?_eq_getElem hlt)
        have g2 := (hr2.fr hfl hb2) k _ (List.getElem?_eq_getElem hlt2)
        rw [List.getElem?_eq_getElem hlt, List.getElem?_eq_getElem hlt2] at p1 p2
        have he : ((ByteArray.mk xs[k].toArray).toList == (ByteArray.mk ys[k].toArray).toList) = (xs[k] == ys[k]) := by simp
        have hki : (k : Int) < (xs.length : Int) := by omega
        have hki2 : (k : Int) < (ys.length : Int) := by omega
        by_cases hxy : xs[k] = ys[k]
        · rw [show (xs[k] == ys[k]) = true by simp [hxy]] at he
          have p3 := p1 (by rw [hxy])
          clear p1 p2 hxy
          generalize ByteArray.mk xs[k].toArray = X at *
          generalize ByteArray.mk ys[k].toArray = Y at *
          go_wp2
          go_quiet (fail)
          go_wp2
          exact ⟨⟨k + 1, rfl, by omega, p3, by first | exact hfl | exact hfl.drew | exact hfl.drewN _⟩, by simp [intOf]; omega⟩
        · rw [show (xs[k] == ys[k]) = false by simp [hxy]] at he
          have p3 := p2 (by simpa using hxy)
          obtain rfl : r = false := by rw [← hr, p3]
          clear p1 p2 hxy
          generalize ByteArray.mk xs[k].toArray = X at *
          generalize ByteArray.mk ys[k].toArray = Y at *
          go_wp2
          go_quiet (fail)
          go_wp2
          go_ret
          exact ⟨rfl, by first | exact hwf | exact hwf.drew | exact hwf.drewN _⟩
      · obtain rfl : k = xs.length := by omega
        rw [List.take_length] at ht
        obtain rfl : r = true := by
          rw [← hr, List.isPrefixOf_iff_prefix]
          exact ht ▸ List.take_prefix xs.length ys
        clear ht
        go_wp2
        go_ret
        exact ⟨rfl, hwf⟩

set_option maxRecDepth 8000 in
set_option maxHeartbeats 3200000 in
theorem refunder_flat (S T : ByteArray) (w : World) (hM : Max w) (ka kb z : Bool)
    (hA : ∀ W, Max W → Calls Tryd.prog 22 #[.string S] W fun e w' => ∃ v n, e = .returned (.tuple #[.slice v n n, .bool ka]) ∧ n ≤ 201 ∧ (z = true → n = 0) ∧ (ka = true → z = false → 0 < n) ∧ Fr NoB W w')
    (hB : ∀ W, Max W → Calls Tryd.prog 22 #[.string T] W fun e w' => ∃ v n, e = .returned (.tuple #[.slice v n n, .bool kb]) ∧ n ≤ 201 ∧ (ka = true → kb = true → z = false → n = 0) ∧ Fr NoB W w') :
    Calls Tryd.prog 18 #[.string S, .string T] w fun e w' => e = .returned (.bool (ka && (kb && z))) ∧ Fr NoB w w' := by
  cases ka <;> cases kb <;> cases z
  all_goals (go_enter Tryd.func18, Tryd.ntmps18; go_wp2_with ((with_reducible refine (hA _ hM).mono ?_); rintro e w1 ⟨v1, n1, rfl, l1, z1, p1, f1⟩))
  all_goals (refine (hB _ (hM.fr f1)).mono ?_; rintro e w2 ⟨v2, n2, rfl, l2, z2, f2⟩)
  all_goals have hf := f1.then f2
  all_goals clear hA hB f1 f2
  all_goals (try replace z1 := z1 rfl)
  all_goals (try replace p1 := p1 rfl rfl)
  all_goals (try replace z2 := z2 rfl rfl rfl)
  all_goals (try subst z1)
  all_goals (try subst z2)
  all_goals have l1i : (n1 : Int) ≤ 201 := by omega
  all_goals have l2i : (n2 : Int) ≤ 201 := by omega
  all_goals (try have p1i : (0 : Int) < (n1 : Int) := by omega)
  all_goals go_wp2
  all_goals try (go_ret; exact ⟨rfl, hf⟩; done)
  go_loopw [9] (fun i W => i = .int .i64 0 ∧ W = w2) (fun i _ => 0)
  case atStart => exact ⟨rfl, rfl⟩
  case round =>
    obtain ⟨rfl, rfl⟩ := hrel
    go_wp2
    go_ret
    exact ⟨rfl, hf⟩

set_option maxRecDepth 8000 in
set_option maxHeartbeats 3200000 in
theorem refunder_calls (a b : List UInt8) (w : World) (hM : Max w) (hal : a.length ≤ 140737488400000) (hbl : b.length ≤ 140737488400000) :
    Calls Tryd.prog 18 #[.string ⟨a.toArray⟩, .string ⟨b.toArray⟩] w fun e w' => e = .returned (.bool (und a b)) ∧ Fr NoB w w' := by
  have hA := fun W h => refparts_calls a W h hal
  have hB := fun W h => refparts_calls b W h hbl
  by_cases h : chk a = true ∧ chk b = true ∧ a ≠ [47] ∧ b ≠ [47]
  · obtain ⟨ka, kb, na, nb⟩ := h
    rw [und_parts ka kb na nb]
    have hs : ∀ l : List UInt8, chk l = true → (spl (l.drop 1)).length ≤ 201 := fun l hl => by
      have h1 := spl_count (l.drop 1)
      have h2 := (chk_slash hl).2
      simp only [List.length_drop] at h1
      omega
    refine refunder_rows _ _ _ rfl _ _ w hM (hs a ka) (hs b kb) (fun W h => ?_) (fun W h => ?_)
    · refine (hA W h).mono fun e w' h => ?_
      rcases h.1 with ⟨k1, _⟩ | ⟨k1, _⟩ | ⟨_, _, b, e1, e2, e3, e4⟩
      · rw [ka] at k1; cases k1
      · exact absurd k1 na
      · exact ⟨b, e1, e3, e4, h.2⟩
    · refine (hB W h).mono fun e w' h => ?_
      rcases h.1 with ⟨k1, _⟩ | ⟨k1, _⟩ | ⟨_, _, b, e1, e2, e3, e4⟩
      · rw [kb] at k1; cases k1
      · exact absurd k1 nb
      · exact ⟨b, e1, e3, e4, h.2⟩
  · have hn : ∀ l : List UInt8, l.length ≤ 140737488400000 → ∀ W, Max W → Calls Tryd.prog 22 #[.string ⟨l.toArray⟩] W fun e w' => ∃ v n, e = .returned (.tuple #[.slice v n n, .bool (chk l)]) ∧ n ≤ 201 ∧ (l = [47] → n = 0) ∧ (chk l = true → l ≠ [47] → 0 < n) ∧ Fr NoB W w' := fun l hl W hW => by
      refine (refparts_calls l W hW hl).mono fun e w' h => ?_
      rcases h.1 with ⟨k1, k2⟩ | ⟨k1, k2⟩ | ⟨k1, k2, b, e1, e2, e3, e4⟩
      · exact ⟨none, 0, by rw [k1]; exact k2, by omega, fun _ => rfl, (fun h => by rw [k1] at h; cases h), h.2⟩
      · exact ⟨none, 0, by rw [k1]; exact k2, by omega, fun _ => rfl, (fun _ h => absurd k1 h), h.2⟩
      · refine ⟨_, _, by rw [k1]; exact e1, ?_, fun h => absurd h k2, fun _ _ => ?_, h.2⟩
        · have h1 := spl_count (l.drop 1)
          have h2 := (chk_slash k1).2
          simp only [List.length_drop] at h1
          omega
        · exact List.length_pos_iff.2 (spl_ne _)
    have hA' := hn a hal
    have hB' := hn b hbl
    have hu : und a b = (chk a && (chk b && a == [47])) := by
      rw [Bool.eq_iff_iff, und_iff]
      simp only [Bool.and_eq_true, beq_iff_eq]
      constructor
      · rintro ⟨h1, h2, h3⟩
        refine ⟨h1, h2, ?_⟩
        rcases h3 with h3 | h3 | h3
        · exact h3
        · exact Decidable.byContradiction fun hx => h ⟨h1, h2, hx, fun hy => hx (h3.trans hy)⟩
        · refine Decidable.byContradiction fun hx => h ⟨h1, h2, hx, fun hy => ?_⟩
          rw [hy] at h3; exact pre_root h1 h3
      · rintro ⟨h1, h2, h3⟩
        exact ⟨h1, h2, .inl h3⟩
    rw [hu]
    have hz : chk a = true → chk b = true → a ≠ [47] → b = [47] := fun h1 h2 h3 => Decidable.byContradiction fun hx => h ⟨h1, h2, h3, hx⟩
    refine refunder_flat _ _ w hM (chk a) (chk b) (a == [47]) (fun W h => (hA' W h).mono fun e w' h => ?_) (fun W h => (hB' W h).mono fun e w' h => ?_)
    · obtain ⟨v, n, e1, e2, e3, e4, e5⟩ := h
      exact ⟨v, n, e1, e2, fun h => e3 (by simpa using h), fun h1 h2 => e4 h1 (by simpa using h2), e5⟩
    · obtain ⟨v, n, e1, e2, e3, e4, e5⟩ := h
      exact ⟨v, n, e1, e2, fun h1 h2 h3 => e3 (hz h1 h2 (by simpa using h3)), e5⟩
end Go.Proofs.YtbfcggcfabkbjaaDoor

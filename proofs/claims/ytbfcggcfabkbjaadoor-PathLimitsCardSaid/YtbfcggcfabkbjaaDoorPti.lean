/-
  Pti: plain laws of paths: being under is an order; what is joined.
-/
import Derived.Test.YtbfcggcfabkbjaaDoorPth
namespace Go.Proofs.YtbfcggcfabkbjaaDoor
open Go.RowKit Go.Shelf

theorem spl_ne : ∀ t : List UInt8, spl t ≠ []
  | [] => by simp [spl]
  | c :: t => by
    unfold spl
    split
    · simp
    · split <;> simp
theorem spl_app : ∀ (t n : List UInt8), spl (t ++ 47 :: n) = spl t ++ spl n
  | [], n => by simp [spl]
  | c :: t, n => by
    rw [List.cons_append]
    show (if c = 47 then [] :: spl (t ++ 47 :: n) else match spl (t ++ 47 :: n) with | [] => [[c]] | h :: r => (c :: h) :: r) = (if c = 47 then [] :: spl t else match spl t with | [] => [[c]] | h :: r => (c :: h) :: r) ++ spl n
    rw [spl_app t n]
    split
    · simp
    · have := spl_ne t
      cases h : spl t with
      | nil => exact absurd h this
      | cons x y => simp
theorem partOk_no {n : List UInt8} (h : partOk n = true) : n ≠ [] ∧ (47 : UInt8) ∉ n := by
  unfold partOk at h
  simp only [Bool.and_eq_true, bne_iff_ne, ne_eq, List.all_eq_true] at h
  refine ⟨h.2.1, fun hm => ?_⟩
  exact absurd (h.1 _ hm) (by decide)
theorem chk_iff {l : List UInt8} : chk l = true ↔ ∃ t, l = 47 :: t ∧ l.length ≤ 200 ∧ rp t = true := by
  cases l with
  | nil => simp [chk]
  | cons c t =>
    unfold chk
    simp only [Bool.and_eq_true, beq_iff_eq, decide_eq_true_eq]
    constructor
    · rintro ⟨rfl, h1, h2⟩
      exact ⟨t, rfl, h1, h2⟩
    · rintro ⟨t', h, h1, h2⟩
      cases h
      exact ⟨rfl, h1, h2⟩
theorem rp_end {t : List UInt8} (h : rp (t ++ [47]) = true) : False := by
  unfold rp at h
  rw [spl_app t []] at h
  simp [spl, partOk] at h
theorem rp_app {t n : List UInt8} (ht : t ≠ []) (h : rp t = true) (hn : partOk n = true) : rp (t ++ 47 :: n) = true := by
  unfold rp at h ⊢
  rw [spl_app, spl_none (partOk_no hn).2]
  simp [ht] at h
  simpa [hn] using h
theorem chk_root : chk [47] = true := by decide
/-- A path that is not the root does not end in a slash. -/
theorem trim_path {p : List UInt8} (h : chk p = true) (hne : p ≠ [47]) : Lib.trimSuffix p [47] = p := by
  obtain ⟨t, rfl, hl, hr⟩ := chk_iff.1 h
  unfold Lib.trimSuffix
  split
  · rename_i hs
    exfalso
    have hs' : [47] <:+ (47 :: t) := by
      first | exact List.isSuffixOf_iff_suffix.1 hs | (unfold Lib.hasSuffix at hs; exact List.isSuffixOf_iff_suffix.1 hs)
    obtain ⟨x, hx⟩ := hs'
    cases x with
    | nil => simp at hx; exact hne (by rw [← hx])
    | cons y x =>
      simp at hx
      obtain ⟨_, rfl⟩ := hx
      exact rp_end hr
  · rfl

theorem und_iff {a b : List UInt8} : und a b = true ↔ chk a = true ∧ chk b = true ∧ (a = [47] ∨ a = b ∨ (a ++ [47]) <+: b) := by
  unfold und
  simp only [Bool.and_eq_true, Bool.or_eq_true, beq_iff_eq, List.isPrefixOf_iff_prefix]
theorem chk_ne {a : List UInt8} (h : chk a = true) : a ≠ [] := by
  rintro rfl
  cases h
theorem pre_root {a : List UInt8} (h : chk a = true) (hp : (a ++ [47]) <+: [47]) : False := by
  have := hp.length_le
  have h2 := chk_ne h
  cases a <;> simp_all
theorem und_trans {a b c : List UInt8} (h : und a b = true) (k : und b c = true) : und a c = true := by
  obtain ⟨h1, h2, h3⟩ := und_iff.1 h
  obtain ⟨_, k2, k3⟩ := und_iff.1 k
  refine und_iff.2 ⟨h1, k2, ?_⟩
  rcases h3 with h3 | rfl | h3
  · exact .inl h3
  · exact k3
  · rcases k3 with rfl | rfl | k3
    · exact (pre_root h1 h3).elim
    · exact .inr (.inr h3)
    · exact .inr (.inr (h3.trans ((List.prefix_append b [47]).trans k3)))
theorem und_anti {a b : List UInt8} (h : und a b = true) (k : und b a = true) : a = b := by
  obtain ⟨h1, h2, h3⟩ := und_iff.1 h
  obtain ⟨_, _, k3⟩ := und_iff.1 k
  rcases h3 with rfl | rfl | h3
  · rcases k3 with rfl | rfl | k3
    · rfl
    · rfl
    · exact (pre_root h2 k3).elim
  · rfl
  · rcases k3 with rfl | rfl | k3
    · exact (pre_root h1 h3).elim
    · rfl
    · have := h3.length_le
      have := k3.length_le
      simp at *
      omega
theorem pre_one {a b c : List UInt8} (h : (a ++ [47]) <+: c) (k : (b ++ [47]) <+: c) (hl : a.length < b.length) : (a ++ [47]) <+: b := by
  refine List.prefix_of_prefix_length_le h ((List.prefix_append b [47]).trans k) ?_
  rw [List.length_append, List.length_singleton]
  omega
theorem und_line {a b c : List UInt8} (h : und a c = true) (k : und b c = true) : und a b = true ∨ und b a = true := by
  obtain ⟨h1, h2, h3⟩ := und_iff.1 h
  obtain ⟨k1, _, k3⟩ := und_iff.1 k
  rcases h3 with rfl | rfl | h3
  · exact .inl (und_iff.2 ⟨h1, k1, .inl rfl⟩)
  · exact .inr k
  rcases k3 with rfl | rfl | k3
  · exact .inr (und_iff.2 ⟨k1, h1, .inl rfl⟩)
  · exact .inl h
  rcases Nat.lt_trichotomy a.length b.length with hl | hl | hl
  · exact .inl (und_iff.2 ⟨h1, k1, .inr (.inr (pre_one h3 k3 hl))⟩)
  · obtain ⟨x, hx⟩ := h3
    obtain ⟨y, hy⟩ := k3
    rw [← hy] at hx
    rw [List.append_assoc, List.append_assoc] at hx
    exact .inl (und_iff.2 ⟨h1, k1, .inr (.inl (List.append_inj_left hx hl))⟩)
  · exact .inr (und_iff.2 ⟨k1, h1, .inr (.inr (pre_one k3 h3 hl))⟩)

/-- What is joined. -/
theorem joined {p n : List UInt8} (h : joi p n ≠ []) : chk p = true ∧ partOk n = true ∧ chk (joi p n) = true ∧ und p (joi p n) = true ∧ par (joi p n) = p ∧ bas (joi p n) = n ∧ und (joi p n) p = false := by
  by_cases hc : chk p = true ∧ partOk n = true ∧ (Lib.trimSuffix p [47] ++ 47 :: n).length ≤ 200
  rotate_left
  · unfold joi at h
    rw [if_neg hc] at h
    exact absurd rfl h
  have hj : joi p n = Lib.trimSuffix p [47] ++ 47 :: n := by
    unfold joi; rw [if_pos hc]
  rw [hj]
  obtain ⟨hp, hn, hl⟩ := hc
  obtain ⟨n1, n2⟩ := partOk_no hn
  refine ⟨hp, hn, ?_⟩
  have hfin : chk (Lib.trimSuffix p [47] ++ 47 :: n) = true → (if Lib.trimSuffix p [47] = [] then [47] else Lib.trimSuffix p [47]) = p → (p = [47] ∨ (p ++ [47]) <+: (Lib.trimSuffix p [47] ++ 47 :: n)) → p.length < (Lib.trimSuffix p [47] ++ 47 :: n).length →
      chk (Lib.trimSuffix p [47] ++ 47 :: n) = true ∧ und p (Lib.trimSuffix p [47] ++ 47 :: n) = true ∧ par (Lib.trimSuffix p [47] ++ 47 :: n) = p ∧ bas (Lib.trimSuffix p [47] ++ 47 :: n) = n ∧ und (Lib.trimSuffix p [47] ++ 47 :: n) p = false := by
    intro hk hu hpre hlt
    have hne : Lib.trimSuffix p [47] ++ 47 :: n ≠ [47] := by
      intro he
      have := congrArg List.length he
      cases n with
      | nil => exact n1 rfl
      | cons x y => simp at this; omega
    refine ⟨hk, und_iff.2 ⟨hp, hk, hpre.elim .inl fun h => .inr (.inr h)⟩, ?_, ?_, ?_⟩
    · unfold par
      rw [if_pos ⟨hk, hne⟩, upTo_eq _ _ n2]
      exact hu
    · unfold bas
      rw [if_pos ⟨hk, hne⟩, lastOf_eq _ _ n2]
    · rw [Bool.eq_false_iff]
      intro hx
      obtain ⟨_, _, h3⟩ := und_iff.1 hx
      rcases h3 with h3 | h3 | h3
      · exact hne h3
      · rw [h3] at hlt; omega
      · have := h3.length_le
        rw [List.length_append, List.length_singleton] at this
        omega
  by_cases hr : p = [47]
  · subst hr
    have ht : Lib.trimSuffix ([47] : List UInt8) [47] = [] := by decide
    rw [ht] at hfin hl ⊢
    refine hfin ?_ (by simp) (.inl rfl) (by cases n <;> simp_all)
    refine chk_iff.2 ⟨n, rfl, hl, ?_⟩
    rw [rp_none n1 n2]; exact hn
  · rw [trim_path hp hr] at hfin hl ⊢
    refine hfin ?_ (by rw [if_neg (chk_ne hp)]) (.inr ?_) (by simp)
    · obtain ⟨t, rfl, hpl, hrp⟩ := chk_iff.1 hp
      have ht : t ≠ [] := by rintro rfl; exact hr rfl
      exact chk_iff.2 ⟨t ++ 47 :: n, rfl, hl, rp_app ht hrp hn⟩
    · rw [show p ++ 47 :: n = (p ++ [47]) ++ n by simp]
      exact List.prefix_append _ _
end Go.Proofs.YtbfcggcfabkbjaaDoor

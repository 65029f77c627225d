/-
  Nth: Links: the walk.
-/
import Derived.Test.YtmgkenbfjlahpaaNtg
namespace Go.Proofs.Ytmgkenbfjlahpaa
open Go.RowKit Go.WideMaps Go.Sort

theorem info_lk : (Try.prog.info? 52).map (fun i => (i.zero, i.size, i.bytes)) = some (some (.agg #[.int .i64 0, .int .i64 0]), 2, 16) := by kernel_rfl
theorem size_le {w : World} {b n : Nat} {D : DataW Value} (h : w.ownsMap Try.prog 52 RV b n D) : Maps.size D ≤ n := by
  obtain ⟨es, clock, hb, F, hs, rfl⟩ := h
  simp only [Maps.size, length_sorted, List.length_map, Array.length_toList]
  exact hs

/-- Sorting a row of links. -/
theorem sort_calls {w : World} {base n : Nat} {A : Option Addr} {c : Nat} {ks : List Lk} (h : w.ownsRow base 52 2 (.slice A n c) n (kcs ks)) (hn : n = ks.length) (hnd : ks.Nodup) (hb : n ≤ 4000000000) :
    Calls Try.prog 42 #[.slice A n c, .func (.func 43) #[] #[]] w fun e w' => e = .returned (.tuple #[]) ∧ ∃ ts, Up ts ∧ (∀ x, x ∈ ts ↔ x ∈ ks) ∧ w'.ownsRow base 52 2 (.slice A n c) n (kcs ts) ∧ Fr (fun g => (Value.slice A n c).ownBlock = some g) w w' := by
  by_cases h0 : n = 0
  · subst h0
    obtain rfl : ks = [] := List.eq_nil_of_length_eq_zero hn.symm
    refine (Try.slices_SortFunc_none (α := Lk) A c _ w).mono ?_
    rintro e w' ⟨rfl, rfl⟩
    exact ⟨rfl, [], List.Pairwise.nil, fun _ => Iff.rfl, h, Fr.refl _ _⟩
  · obtain ⟨g, c', hv⟩ := own_some h (by omega)
    cases hv
    have eg : ∀ args w, (callFunc 43 args).run Try.prog w = .ok (.enter 43 args) w := enters_of Try.func43 (by kernel_rfl) rfl
    have hs := Try.slices_SortFunc (α := Lk) 2 Try.isAgg52 Try.sizeOf52 kc (fun _ => rfl) (fun x v hv => by simp [kc] at hv; rcases hv with rfl | rfl <;> rfl) cfK swoK 43 #[] g 0 c ks.toArray w eg (fun _ _ _ _ x y => closure_calls x y _) (holds_kcs h hn) (Nat.lt_of_lt_of_le (h.lt g rfl).2 (Nat.le_refl _)) (by simp; omega)
    rw [show ks.toArray.size = n by rw [hn]; rfl] at hs
    refine hs.mono ?_
    rintro e w' ⟨rfl, d', m, os, hp, hso, rfl⟩
    obtain ⟨u1, u2, u3⟩ := up_sorted hnd (by rw [show ks.toArray.size = n by rw [hn]; rfl]; exact hp) (by rw [show ks.toArray.size = n by rw [hn]; rfl]; exact hso)
    have h2 := sorted_kcs (m := m) (os := os) (ts := d'.toList) h hn (by simpa using u2)
    simp only [Array.toArray_toList] at h2
    exact ⟨rfl, d'.toList, u1, u3, h2.1, h2.2.mono fun k _ hk => by have hk' : k = g := hk; rw [hk']; rfl⟩

theorem rg_fr {M : Nat → Prop} {w w' : World} {b r n : Nat} {D : DataW Value} {left : Lit → Bool} {cnt : Nat} (h : w.ranges Try.prog 52 RV b r n D left cnt) (f : Fr M w w') (hb : ¬ M b) (hr : ¬ M r) : w'.ranges Try.prog 52 RV b r n D left cnt := by
  obtain ⟨es, clock, since, seen, c0, h1, F, hs, hD, h2, rest⟩ := h
  exact ⟨es, clock, since, seen, c0, f.at_ h1 hb, F, hs, hD, f.at_ h2 hr, rest⟩
/-- What the loop of Links keeps. -/
structure LR (w W : World) (bm N : Nat) (D : DataW Value) (V : Value) (left : Lit → Bool) (cnt : Nat) (ks : List Lk) : Prop where
  rg : W.ranges Try.prog 52 RV bm w.heap.size N D left cnt
  own : W.ownsRow (w.heap.size + 1) 52 2 V ks.length (kcs ks)
  nd : ks.Nodup
  mem : ∀ k, k ∈ ks ↔ InR k ∧ Maps.has D (kL k) = true ∧ left (kL k) = false
  len : ks.length + cnt ≤ N
  fr : Fr NoB w W
  sz : w.heap.size < W.heap.size

set_option maxRecDepth 8000 in
set_option maxHeartbeats 3200000 in
theorem links_calls {w : World} {p B : Nat} {L : List (Lk × List UInt8)} {O : Nat → Prop} (h : NetV w p B L O) (hB : B ≤ 1000000000) :
    Calls Try.prog 24 #[.pointer (some ⟨p, 0, none⟩)] w fun e w' => ∃ A c, e = .returned (.slice A (linksL L).length c) ∧ w'.ownsRow w.heap.size 52 2 (.slice A (linksL L).length c) (linksL L).length (kcs (linksL L)) ∧ Fr NoB w w' := by
  obtain ⟨bm, N, rb, V, h1, h2, rfl, h4, h5⟩ := h
  obtain ⟨i0, hi0, hz0, hz1, hz2⟩ := info_parts info_lk
  have hc := h1.cell
  obtain ⟨D, hD, hA⟩ := h1.map
  have hbl : bm < w.heap.size := hD.lt
  have hsz := size_le hD
  have hin : Hid (∀ k, bag V k ≠ [] → InR k) := Lib.hid fun k hk => by
    obtain ⟨x, hx⟩ := List.exists_mem_of_ne_nil _ hk
    exact h1.inr _ (bag_mem.1 hx)
  have HA := Lib.hid hA
  rw [links_bytes]
  clear h1 h4 h5 hA
  go_enter Try.func24, Try.ntmps24
  go_wp2_with (first | (at_range; refine wpList_range_own _ rfl _ 48 rfl 52 34 keyd Try.underlying48 _ bm N D rfl hD ?_; intro w0 hrg0 hg0 hs0) | go_in)
  go_frame
  go_loopw [3] (fun V' W => ∃ left cnt ks, LR w W bm N D V' left cnt ks) (fun _ W => W.rangeLeft bm w.heap.size)
  case atStart =>
    exact ⟨Maps.has D, Maps.size D, [], { rg := hrg0, own := World.ownsRow_nil _ _ _ _, nd := List.nodup_nil, mem := fun k => ⟨fun hk => absurd hk List.not_mem_nil, fun hk => absurd (hk.2.1.symm.trans hk.2.2) (by simp)⟩, len := by simpa using hsz, fr := Fr.ofGrown hg0 (fun _ _ e => by cases e), sz := by omega }⟩
  case round =>
    obtain ⟨left, cnt, ks, hR⟩ := hrel
    have hrg := hR.rg
    have R := Lib.hid hR
    clear hR
    obtain ⟨A3, c3, rfl, -, -⟩ := nown_form4 R.out.own
    go_wp2_with (first | (at_next; refine wpList_next_ranges (α := {k : Lk // InR k}) (β := Value) _ rfl _ rfl 52 keyd RV (fun k => kV k.1) (fun v => v) (fun key kl hk => by obtain ⟨k, e1, e2⟩ := key_inv key kl hk; exact ⟨⟨k, e2⟩, e1⟩) (fun v y _ => ⟨v, rfl⟩) bm w.heap.size N _ _ _ rfl hrg ?_ ?_) | fail)
    · intro hc0 hl0
      have hm : Hid (∀ k, k ∈ ks ↔ bag V k ≠ []) := Lib.hid fun k => by
        rw [R.out.mem]
        constructor
        · rintro ⟨a1, a2, -⟩ e
          have := HA.out.has a1
          rw [a2] at this
          unfold rowsF at this
          rw [if_pos e] at this
          cases this
        · intro hk
          have a1 := hin.out k hk
          refine ⟨a1, ?_, hl0 _⟩
          rw [HA.out.has a1]
          unfold rowsF
          rw [if_neg hk]; rfl
      have hsort := sort_calls R.out.own rfl R.out.nd (by have := R.out.len; omega)
      have hfr := R.out.fr
      have hlo := R.out.own
      have HM := Lib.hid hm.out
      clear hl0 hrg hm
      go_wp2_with (first | ((with_reducible refine hsort.mono ?_); rintro e w2 ⟨rfl, ts, hu, hmem, hown, hf⟩) | fail)
      have hts : ts = linksL V := up_ext hu (links_up V) fun x => by rw [hmem, HM.out, links_mem]
      have hlen : ks.length = (linksL V).length := by
        have := hown.1
        rw [kcs_len, hts] at this
        omega
      subst hts
      rw [hlen] at hown
      have hf2 : Fr NoB w w2 := hfr.trans hf (fun k hk hx => by have := (hlo.lt k hx).1; omega)
      have HO := Lib.hid hown
      have HF := Lib.hid hf2
      have HLEN := Lib.hid hlen
      clear hu hmem hown hf hlen hf2 hlo hfr hsort
      go_wp2
      go_ret
      rw [HLEN.out]
      exact ⟨A3, c3, rfl, nown_base HO.out (Nat.le_succ _), HF.out⟩
    · intro x1 x2 hxi cv kl y yp w1 cnt1 hkey hleft hrv hat hrg1 hlt1 hg1 hs1 hen
      have hkl : kl = kL (x1, x2) := Option.some.inj (hkey.symm.trans (key_of hxi))
      subst hkl
      have hhas : Maps.has D (kL (x1, x2)) = true := Maps.has_true_of_atKey hat
      have hnew : (x1, x2) ∉ ks := fun hm => by have := ((R.out.mem _).1 hm).2.2; rw [hleft] at this; cases this
      have hmem1 : Hid (∀ k, k ∈ ks ++ [(x1, x2)] ↔ InR k ∧ Maps.has D (kL k) = true ∧ (left (kL k) && !(kL k).sameKey (kL (x1, x2))) = false) := Lib.hid fun k => by
        rw [List.mem_append, R.out.mem, List.mem_singleton]
        constructor
        · rintro (⟨a1, a2, a3⟩ | rfl)
          · exact ⟨a1, a2, by rw [a3]; rfl⟩
          · refine ⟨hxi, hhas, ?_⟩
            rw [WideAt.sameKey_self (keyd.key (key_of hxi))]; simp
        · rintro ⟨a1, a2, a3⟩
          cases hlk : left (kL k)
          · exact .inl ⟨a1, a2, rfl⟩
          · rw [hlk] at a3
            simp only [Bool.true_and, Bool.not_eq_false'] at a3
            exact .inr (kL_inj a1 hxi (WideAt.sameKey_eq a3))
      have hf1 : Fr NoB w w1 := R.out.fr.trans (Fr.ofGrown (M := fun g => g = w.heap.size) hg1 (fun k _ e => by cases e; rfl)) (fun k hk hx => by have hx' : k = w.heap.size := hx; omega)
      have hown1 := own_keep R.out.own fun g hg => hg1.block g (R.out.own.lt g hg).2 (fun e => by have := (R.out.own.lt g hg).1; cases e; omega)
      have hnd1 : (ks ++ [(x1, x2)]).Nodup := by rw [List.nodup_append]; exact ⟨R.out.nd, by simp, fun a ha b hb => by rw [List.mem_singleton.1 hb]; rintro rfl; exact hnew ha⟩
      have hen2 : (Instr.entry (.pointer (some ⟨w.heap.size, 0, none⟩))).run Try.prog w1 = .ok (.tuple #[.agg #[.int .i64 x1, .int .i64 x2], cv]) w1 := hen
      clear hen hat hrv hrg hhas hnew hkey
      have ho2 := (hown1.alloc (.cells #[.int .i64 x1, .int .i64 x2] 52)).alloc (.cells #[.int .i64 x1, .int .i64 x2] 52)
      have hf2 := (hf1.alloc (.cells #[.int .i64 x1, .int .i64 x2] 52)).alloc (.cells #[.int .i64 x1, .int .i64 x2] 52)
      have hrg2 := (hrg1.alloc (.cells #[.int .i64 x1, .int .i64 x2] 52)).alloc (.cells #[.int .i64 x1, .int .i64 x2] 52)
      have hnw : ∀ (j : Nat) (u : Value), (kc (x1, x2))[j]? = some u → ((w1.alloc (.cells #[.int .i64 x1, .int .i64 x2] 52)).alloc (.cells #[.int .i64 x1, .int .i64 x2] 52)).cell? ((⟨w1.heap.size + 1, 0, none⟩ : Addr).add j) = some u := by
        have := World.news_of_block (heap_alloc_new (w1.alloc (.cells #[.int .i64 x1, .int .i64 x2] 52)) (.cells #[.int .i64 x1, .int .i64 x2] 52))
        rw [World.size_alloc] at this
        exact this
      have hb2 : w.heap.size + 1 ≤ ((w1.alloc (.cells #[.int .i64 x1, .int .i64 x2] 52)).alloc (.cells #[.int .i64 x1, .int .i64 x2] 52)).heap.size := by
        have := R.out.sz
        rw [World.size_alloc, World.size_alloc]; omega
      have hlen := R.out.len
      have H1 := Lib.hid (show _ ∧ _ ∧ _ ∧ _ ∧ _ from ⟨hf2, hrg2, hmem1.out, hnd1, hs1⟩)
      have HLT := Lib.hid hlt1
      clear hown1 hrg1 hf1 hf2 hrg2 hmem1 hnd1 hs1
      go_wp2_with (first | (at_builtin; refine wpList_append_src _ rfl _ _ 44 rfl (w.heap.size + 1) 52 i0 (.agg #[.int .i64 0, .int .i64 0]) 2 16 Try.underlying44 hi0 hz0 hz1 hz2 rfl (by decide) (.slice A3 ks.length c3) ks.length (kcs ks) rfl ho2 _ 1 _ (kc (x1, x2)) rfl rfl (fun _ => ⟨_, rfl, hnw⟩) (by intro u hu; simp only [kc, List.mem_cons, List.not_mem_nil, or_false] at hu; rcases hu with rfl | rfl <;> rfl) (by unfold maxLen; omega) (by omega) hb2 ?_; intro v' w2 hA) | fail)
      obtain ⟨k1, k2, k3, k4, k5⟩ := H1.out
      have hlow : ∀ g, g < w.heap.size + 1 → ¬ (Value.slice A3 ks.length c3).ownBlock = some g := fun g hg hx => by have := (ho2.lt g hx).1; omega
      have rg3 := rg_fr k2 hA.fr (hlow bm (by omega)) (hlow w.heap.size (by omega))
      refine ⟨⟨_, cnt1, ks ++ [(x1, x2)], { rg := rg3, own := by rw [List.length_append, kcs_snoc]; exact hA.own, nd := k4, mem := k3, len := by rw [List.length_append, List.length_singleton]; have := HLT.out; omega, fr := k1.trans hA.fr (fun g hg hx => absurd hx (hlow g (by omega))), sz := Nat.lt_of_lt_of_le (Nat.lt_of_succ_le hb2) hA.fr.size }⟩, ?_⟩
      rw [rg3.left_eq, R.out.rg.left_eq]
      exact HLT.out
end Go.Proofs.Ytmgkenbfjlahpaa

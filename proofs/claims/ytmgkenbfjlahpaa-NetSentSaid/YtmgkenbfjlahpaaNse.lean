/-
  Nse: NetSent: the walk, of more than 200 steps.
-/
import Derived.Test.YtmgkenbfjlahpaaNsd
namespace Go.Proofs.Ytmgkenbfjlahpaa
open Go.RowKit Go.WideMaps Go.Sort

set_option maxRecDepth 8000 in
set_option maxHeartbeats 6400000 in
theorem sent_big (A : Option Addr) (n c : Nat) (w : World) (hn : n ≤ c) (hcm : c ≤ maxLen) (hr : RdO w A n) (hbig : (n : Int) > 200) : Calls Try.prog 7 #[.slice A n c] w fun e w' => e = .returned (.bool true) ∧ Fr NoB w w' := by
  have HR := Lib.hid hr
  clear hr
  obtain ⟨i0, hi0, hz0, hz1, hz2⟩ := info_parts info_rows
  obtain ⟨b, o, rfl, hb, hall⟩ := HR.out (by omega)
  have hc200 : ¬ (c : Int) < 200 := by omega
  have HALL := Lib.hid (fun i (hi : i < 200) => hall i (by omega))
  clear hall HR
  go_enter Try.func7, Try.ntmps7
  go_wp2_with (fail)
  refine (awake_calls w).mono ?_
  rintro e w0 ⟨rfl, f0⟩
  go_wp2_with (fail)
  refine (BN.new (X := NoB) f0 (fun _ x => x.elim)).mono ?_
  rintro e w1 ⟨p, rfl, b1, f1⟩
  have B1 := Lib.hid b1
  clear b1 f1 f0
  go_wp2_with (fail)
  go_loopw [5] (fun i W => ∃ (k : Nat) (L : List (Lk × List UInt8)) (X : Nat → Prop) (s : Nat → Value) (V : Nat → List Pk), k ≤ 200 ∧ i = .int .i64 (k : Int) ∧ NS w W X p (66 * k) L w1.heap.size s V) (fun i _ => 200 - (intOf i).toNat)
  case atStart => exact ⟨0, [], _, _, _, Nat.zero_le _, rfl, ns_start B1.out _ rfl⟩
  case round =>
    obtain ⟨k, L, X, s, V, hk, rfl, hNS⟩ := hrel
    have S := Lib.hid hNS
    clear hNS B1
    obtain ⟨T, hT⟩ : ∃ T, w1.heap.size = T := ⟨_, rfl⟩
    rw [hT] at S ⊢
    have HT := Lib.hid hT
    clear hT
    by_cases hlt : k < 200
    · obtain ⟨op, x, y, z, B, l, d, hxy, hz, hrd, k0, k1, k2, k3, k4⟩ := HALL.out k hlt
      have F := Lib.hid S.out.net.fr
      have q0 := (F.out.cell (p := ⟨b, o + k * 5, none⟩) hb (fun x => x)).trans k0
      have q1 := (F.out.cell (p := ⟨b, o + k * 5 + 1, none⟩) hb (fun x => x)).trans k1
      have q2 := (F.out.cell (p := ⟨b, o + k * 5 + 2, none⟩) hb (fun x => x)).trans k2
      have q3 := (F.out.cell (p := ⟨b, o + k * 5 + 3, none⟩) hb (fun x => x)).trans k3
      have q4 := (F.out.cell (p := ⟨b, o + k * 5 + 4, none⟩) hb (fun x => x)).trans k4
      have hki : (k : Int) < ((200 : Nat) : Int) := by omega
      have hk0 : (0 : Int) ≤ (k : Int) := by omega
      have HRD := Lib.hid (fun W' (f : Fr NoB w W') => hrd.fr f (Nat.le_refl _) (fun _ _ _ x => x))
      clear k0 k1 k2 k3 k4 hrd hxy hz
      obtain ⟨fm, hf4, hpf⟩ := pick4 x
      obtain ⟨tm, ht4, hpt⟩ := pick4 y
      have HPF := Lib.hid hpf
      have HPT := Lib.hid hpt
      clear hpf hpt
      go_wp2_with (fail)
      have S6 := Lib.hid (S.out.box (.cells #[.int .i64 op, .int .i64 x, .int .i64 y, .int .i64 z, .slice B l.length d] 40))
      have HBX := Lib.hid (heap_alloc_new wr (.cells #[.int .i64 op, .int .i64 x, .int .i64 y, .int .i64 z, .slice B l.length d] 40))
      obtain ⟨β, hβe⟩ : ∃ β, wr.heap.size = β := ⟨_, rfl⟩
      rw [hβe] at HBX S6 ⊢
      have HBE := Lib.hid (show w.heap.size ≤ β by rw [← hβe]; exact F.out.size)
      clear S q0 q1 q2 q3 q4 hβe F
      generalize wr.alloc (.cells #[.int .i64 op, .int .i64 x, .int .i64 y, .int .i64 z, .slice B l.length d] 40) = W6 at S6 HBX ⊢
      have g0 : ∀ q, (W6.drewN q).cell? ⟨β, 0, none⟩ = some (.int .i64 op) := fun q => Lib.cell_of_heap HBX.out 0
      have g1 : ∀ q, (W6.drewN q).cell? ⟨β, 1, none⟩ = some (.int .i64 x) := fun q => Lib.cell_of_heap HBX.out 1
      have g2 : ∀ q, (W6.drewN q).cell? ⟨β, 2, none⟩ = some (.int .i64 y) := fun q => Lib.cell_of_heap HBX.out 2
      have g4 : ∀ q, (W6.drewN q).cell? ⟨β, 4, none⟩ = some (.slice B l.length d) := fun q => Lib.cell_of_heap HBX.out 4
      have g00 : W6.cell? ⟨β, 0, none⟩ = some (.int .i64 op) := Lib.cell_of_heap HBX.out 0
      have g11 : W6.cell? ⟨β, 1, none⟩ = some (.int .i64 x) := Lib.cell_of_heap HBX.out 1
      have g22 : W6.cell? ⟨β, 2, none⟩ = some (.int .i64 y) := Lib.cell_of_heap HBX.out 2
      have g44 : W6.cell? ⟨β, 4, none⟩ = some (.slice B l.length d) := Lib.cell_of_heap HBX.out 4
      have HS := Lib.hid (fun Z (f : Fr NoB W6 Z) => (show Z.cell? ⟨β, 1, none⟩ = some (.int .i64 x) ∧ Z.cell? ⟨β, 2, none⟩ = some (.int .i64 y) from ⟨Lib.cell_of_heap (f.at_ HBX.out (fun x => x)) 1, Lib.cell_of_heap (f.at_ HBX.out (fun x => x)) 2⟩))
      go_region_held3 (fun Z => Z.cell? ⟨β, 1, none⟩ = some (.int .i64 x) ∧ Z.cell? ⟨β, 2, none⟩ = some (.int .i64 y)) (first
        | with_reducible exact HS.out _ (Fr.refl NoB W6)
        | with_reducible exact HS.out _ ((Fr.refl NoB W6).drew)) (first
        | ((with_reducible refine (HPF.out _).mono ?_); rintro e w2 ⟨rfl, rfl⟩)
        | ((with_reducible refine (HPT.out _).mono ?_); rintro e w2 ⟨rfl, rfl⟩))
      obtain ⟨κ, hK⟩ : ∃ κ : Nat, 4 * (fm : Int) + (tm : Int) = (κ : Int) := ⟨4 * fm + tm, by omega⟩
      have hK16 : κ < 16 := by omega
      have hkey : keyN κ = ((fm : Int), (tm : Int)) := by unfold keyN; exact Prod.ext (by simp only; omega) (by simp only; omega)
      have hKI : (κ : Int) < 16 := by omega
      have hK0 : (0 : Int) ≤ (κ : Int) := by omega
      have HKEY := Lib.hid hkey
      clear hkey
      by_cases hbl : (l.length : Int) > 1000
      · go_wp2_with (fail)
        go_ret
        exact ⟨rfl, S6.out.net.fr.drew⟩
      · obtain ⟨m, hm⟩ : ∃ m, op % 6 = m := ⟨_, rfl⟩
        have hmm : m = 0 ∨ m = 1 ∨ m = 2 ∨ m = 3 ∨ m = 4 ∨ m = 5 := by omega
        have hp := fun W => pick_calls op 6 W (by decide) (by decide)
        rw [hm] at hp
        have HP := Lib.hid hp
        clear hp hm
        go_wp2_with (fail)
        refine (HP.out _).mono ?_
        rintro e w' ⟨rfl, rfl⟩
        obtain ⟨Y, hY⟩ : ∃ Y : Nat → Prop, Y = fun g => X g ∨ g = β := ⟨_, rfl⟩
        have hYβ : Y β := by rw [hY]; exact .inr rfl
        rw [← hY] at S6
        have S7 := Lib.hid (S6.out.step ((Fr.refl NoB W6).drew))
        have HB7 := Lib.hid (show W6.drew.heap[β]? = some (.cells #[.int .i64 op, .int .i64 x, .int .i64 y, .int .i64 z, .slice B l.length d] 40 (0, 0)) from HBX.out)
        have HYB := Lib.hid hYβ
        clear hY hYβ S6 g0 g1 g2 g4 g00 g11 g22 g44 HS HBX HPF HPT HP HBE
        generalize W6.drew = W7 at S7 HB7 ⊢
        have HSF := Lib.hid (fun Z (f : Fr (fun g => ¬ Y g) W7 Z) => (show Z.cell? ⟨β, 3, none⟩ = some (.int .i64 z) ∧ Z.cell? ⟨β, 4, none⟩ = some (.slice B l.length d) from ⟨Lib.cell_of_heap (f.at_ HB7.out (fun x => x HYB.out)) 3, Lib.cell_of_heap (f.at_ HB7.out (fun x => x HYB.out)) 4⟩))
        have hb3 := (HSF.out W7 (Fr.refl _ _)).1
        have hb4 := (HSF.out W7 (Fr.refl _ _)).2
        have hkr : InR ((fm : Int), (tm : Int)) := ⟨⟨by simp only; omega, by simp only; omega⟩, by simp only; omega, by simp only; omega⟩
        have HKR := Lib.hid hkr
        have HBK := Lib.hid (show 66 * k + 66 ≤ 1000000 ∧ 66 * k < maxLen by unfold maxLen; omega)
        clear hkr
        rcases hmm with rfl | rfl | rfl | rfl | rfl | rfl
        · as_aux_lemma =>
          by_cases hfull : (bag L (keyN κ)).length < 32
          · have hlb : l.length ≤ 1048576 := by omega
            have HT := Lib.hid (S7.out.net.send HBK.out.2 HKR.out B l d _ _ (HRD.out _ S7.out.net.fr))
            have HNV := Lib.hid (S7.out.len hK16)
            rw [HKEY.out] at hfull
            rw [(sendok_true hfull hlb).1, (sendok_true hfull hlb).2] at HT
            rw [← HKEY.out] at hfull
            go_wp2_with (fail)
            refine HT.out.mono ?_
            rintro e w8 ⟨rfl, n8, f8⟩
            have N8 := Lib.hid n8
            have F8 := Lib.hid f8
            clear n8 f8
            go_wp2_with (fail)
            have T8 := Lib.hid ((S7.out.there.fr F8.out (fun g hg hx => hx hg)).fr ((Fr.refl NoB w8).drew) (fun _ _ x => x))
            have F8d := Lib.hid (F8.out.drew)
            have hcd : w8.drew.cell? ⟨T, κ, none⟩ = some (s κ) ∧ w8.drew.cell? ⟨β, 4, none⟩ = some (.slice B l.length d) := ⟨T8.out.cell hK16, (HSF.out _ F8d.out).2⟩
            refine wp_region_any (by kernel_rfl) (wpAny_of_J (S := fun j X => j ≠ 10 → (X.cell? ⟨T, κ, none⟩ = some (s κ) ∧ X.cell? ⟨β, 4, none⟩ = some (.slice B l.length d))) _ _ _ _ ?_)
            show wpAnyJ _ _ _ _ _ _ _ _ w8.drew
            simp only [List.size_toArray, List.length_cons, List.length_nil, Nat.reduceAdd]
            refine J_take (i := 0) (v := ?_) (fun X : World => X.cell? ⟨T, κ, none⟩ = some (s κ) ∧ X.cell? ⟨β, 4, none⟩ = some (.slice B l.length d)) (fun j => decide (j ≠ 10)) (by simp only [List.getElem?_toArray, List.getElem?_cons_zero]; rfl) (by kernel_rfl) (by kernel_rfl) (by kernel_rfl) (by kernel_rfl) (by exact fun _ _ _ h => h) (fun j X hm h => h (of_decide_eq_true hm)) (fun X h _ => h) hcd (Or.inl ⟨by rfl, ?_⟩) ?_
            rotate_left
            · intro X hX; obtain ⟨hX1, hX2⟩ := hX; go_simp; (try with_reducible rfl)
            try simp only [Act.put, List.setIfInBounds_toArray, List.set_cons_zero, List.set_cons_succ]
            refine J_take (i := 1) (v := ?_) (fun X : World => X.cell? ⟨T, κ, none⟩ = some (s κ) ∧ X.cell? ⟨β, 4, none⟩ = some (.slice B l.length d)) (fun j => decide (j ≠ 10)) (by simp only [List.getElem?_toArray, List.getElem?_cons_succ, List.getElem?_cons_zero]; rfl) (by kernel_rfl) (by kernel_rfl) (by kernel_rfl) (by kernel_rfl) (by exact fun _ _ _ h => h) (fun j X hm h => h (of_decide_eq_true hm)) (fun X h _ => h) hcd (Or.inl ⟨by rfl, ?_⟩) ?_
            rotate_left
            · intro X hX; obtain ⟨hX1, hX2⟩ := hX; go_simp; (try with_reducible rfl)
            try simp only [Act.put, List.setIfInBounds_toArray, List.set_cons_zero, List.set_cons_succ]
            refine J_take (i := 2) (v := ?_) (fun X : World => X.cell? ⟨T, κ, none⟩ = some (s κ) ∧ X.cell? ⟨β, 4, none⟩ = some (.slice B l.length d)) (fun j => decide (j ≠ 10)) (by simp only [List.getElem?_toArray, List.getElem?_cons_succ, List.getElem?_cons_zero]; rfl) (by kernel_rfl) (by kernel_rfl) (by kernel_rfl) (by kernel_rfl) (by exact fun _ _ _ h => h) (fun j X hm h => h (of_decide_eq_true hm)) (fun X h _ => h) hcd (Or.inl ⟨by rfl, ?_⟩) ?_
            rotate_left
            · intro X hX; obtain ⟨hX1, hX2⟩ := hX; go_simp; (try with_reducible rfl)
            try simp only [Act.put, List.setIfInBounds_toArray, List.set_cons_zero, List.set_cons_succ]
            refine J_take (i := 3) (v := ?_) (fun X : World => X.cell? ⟨T, κ, none⟩ = some (s κ) ∧ X.cell? ⟨β, 4, none⟩ = some (.slice B l.length d)) (fun j => decide (j ≠ 10)) (by simp only [List.getElem?_toArray, List.getElem?_cons_succ, List.getElem?_cons_zero]; rfl) (by kernel_rfl) (by kernel_rfl) (by kernel_rfl) (by kernel_rfl) (by exact fun _ _ _ h => h) (fun j X hm h => h (of_decide_eq_true hm)) (fun X h _ => h) hcd (Or.inl ⟨by rfl, ?_⟩) ?_
            rotate_left
            · intro X hX; obtain ⟨hX1, hX2⟩ := hX; go_simp; (try with_reducible rfl)
            try simp only [Act.put, List.setIfInBounds_toArray, List.set_cons_zero, List.set_cons_succ]
            refine J_take (i := 4) (v := ?_) (fun X : World => X.cell? ⟨T, κ, none⟩ = some (s κ) ∧ X.cell? ⟨β, 4, none⟩ = some (.slice B l.length d)) (fun j => decide (j ≠ 10)) (by simp only [List.getElem?_toArray, List.getElem?_cons_succ, List.getElem?_cons_zero]; rfl) (by kernel_rfl) (by kernel_rfl) (by kernel_rfl) (by kernel_rfl) (by exact fun _ _ _ h => h) (fun j X hm h => h (of_decide_eq_true hm)) (fun X h _ => h) hcd (Or.inl ⟨by rfl, ?_⟩) ?_
            rotate_left
            · intro X hX; obtain ⟨hX1, hX2⟩ := hX; go_simp; (try with_reducible rfl)
            try simp only [Act.put, List.setIfInBounds_toArray, List.set_cons_zero, List.set_cons_succ]
            refine J_take (i := 5) (v := ?_) (fun X : World => X.cell? ⟨T, κ, none⟩ = some (s κ) ∧ X.cell? ⟨β, 4, none⟩ = some (.slice B l.length d)) (fun j => decide (j ≠ 10)) (by simp only [List.getElem?_toArray, List.getElem?_cons_succ, List.getElem?_cons_zero]; rfl) (by kernel_rfl) (by kernel_rfl) (by kernel_rfl) (by kernel_rfl) (by exact fun _ _ _ h => h) (fun j X hm h => h (of_decide_eq_true hm)) (fun X h _ => h) hcd (Or.inl ⟨by rfl, ?_⟩) ?_
            rotate_left
            · intro X hX; obtain ⟨hX1, hX2⟩ := hX; go_simp; (try with_reducible rfl)
            try simp only [Act.put, List.setIfInBounds_toArray, List.set_cons_zero, List.set_cons_succ]
            refine J_all (rs := [6]) (by kernel_rfl) (by simp) (fun i hi => ?_)
            simp only [List.mem_cons, List.not_mem_nil, or_false] at hi
            subst hi
            refine J_oneH (by simp only [List.getElem?_toArray, List.getElem?_cons_succ, List.getElem?_cons_zero]; rfl) rfl (fun K hK => ?_)
            go_simp
            refine (copy_calls B l d _ _ _ (HRD.out _ N8.out.fr.drew) (by omega)).mono ?_
            rintro e w9 ⟨v9, rfl, o9, b9⟩
            obtain ⟨A9, c9, rfl, -, -⟩ := nown_form4 o9
            have F9 := Lib.hid (show Fr NoB w8.drew w9 from Fr.ofBelow b9)
            have T9 := Lib.hid (T8.out.fr F9.out (fun _ _ x => x))
            have HB9 := Lib.hid (F9.out.at_ (F8d.out.at_ HB7.out (fun x => x HYB.out)) (fun x => x))
            have hc9 : w9.cell? ⟨T, κ, none⟩ = some (s κ) ∧ w9.cell? ⟨β, 4, none⟩ = some (.slice B l.length d) := ⟨T9.out.cell hK16, Lib.cell_of_heap HB9.out 4⟩
            have O9 := Lib.hid o9
            clear o9 b9 hcd
            try simp only [Act.put, List.setIfInBounds_toArray, List.set_cons_zero, List.set_cons_succ]
            refine hK.out _ _ ⟨fun _ => hc9, ?_⟩
            clear hK K
            refine J_all (rs := [7]) (by kernel_rfl) (by simp) (fun i hi => ?_)
            simp only [List.mem_cons, List.not_mem_nil, or_false] at hi
            subst hi
            refine J_oneH (by simp only [List.getElem?_toArray, List.getElem?_cons_succ, List.getElem?_cons_zero]; rfl) rfl (fun K hK => ?_)
            go_simp
            have TA := Lib.hid (T9.out.fr ((Fr.refl NoB w9).alloc (.cells #[.slice A9 l.length c9] 22)) (fun _ _ x => x))
            have HBA := Lib.hid (((Fr.refl NoB w9).alloc (.cells #[.slice A9 l.length c9] 22)).at_ HB9.out (fun x => x))
            have hcA : (w9.alloc (.cells #[.slice A9 l.length c9] 22)).cell? ⟨T, κ, none⟩ = some (s κ) ∧ (w9.alloc (.cells #[.slice A9 l.length c9] 22)).cell? ⟨β, 4, none⟩ = some (.slice B l.length d) := ⟨TA.out.cell hK16, Lib.cell_of_heap HBA.out 4⟩
            have NWA := Lib.hid (World.news_of_block (heap_alloc_new w9 (.cells #[.slice A9 l.length c9] 22)))
            try simp only [Act.put, List.setIfInBounds_toArray, List.set_cons_zero, List.set_cons_succ]
            refine hK.out _ _ ⟨fun _ => hcA, ?_⟩
            clear hK K hc9
            refine J_all (rs := [8]) (by kernel_rfl) (by simp) (fun i hi => ?_)
            simp only [List.mem_cons, List.not_mem_nil, or_false] at hi
            subst hi
            refine J_oneH (by simp only [List.getElem?_toArray, List.getElem?_cons_succ, List.getElem?_cons_zero]; rfl) rfl (fun K hK => ?_)
            refine wp_append_src _ (.tmp 64) (.tmp 68) 34 rfl 0 22 i0 (.slice none 0 0) 1 24 Try.underlying34 hi0 hz0 hz1 hz2 rfl (by decide) (s κ) (V κ).length ((V κ).map Pk.val) rfl (TA.out.rows κ hK16).row _ 1 1 [Pk.val ⟨A9, c9, l⟩] rfl rfl (fun _ => ⟨_, rfl, NWA.out⟩) (by intro u hu; rw [List.mem_singleton.1 hu]; rfl) (by have := HNV.out; unfold maxLen; omega) (by have := HNV.out; omega) (Nat.zero_le _) ?_
            intro v4 W4 hA4
            obtain ⟨A10, c10, rfl, -, -⟩ := nown_form4 hA4.own
            have A4 := Lib.hid hA4
            obtain ⟨hc4, hz4⟩ := TA.out.thaw hK16 hA4.fr
            have hb4 := Lib.cell_of_heap (hA4.fr.at_ HBA.out (fun hm => own_not (TA.out.rows κ hK16).row HBA.out (by decide) hm rfl)) 4
            have hc44 : W4.cell? ⟨T, κ, none⟩ = some (s κ) ∧ W4.cell? ⟨β, 4, none⟩ = some (.slice B l.length d) := ⟨hc4, hb4⟩
            clear hA4 hcA hc4 hb4
            try simp only [Act.put, List.setIfInBounds_toArray, List.set_cons_zero, List.set_cons_succ]
            refine hK.out _ _ ⟨fun _ => hc44, ?_⟩
            clear hK K
            refine J_all (rs := [9]) (by kernel_rfl) (by simp) (fun i hi => ?_)
            simp only [List.mem_cons, List.not_mem_nil, or_false] at hi
            subst hi
            refine J_oneH (by simp only [List.getElem?_toArray, List.getElem?_cons_succ, List.getElem?_cons_zero]; rfl) rfl (fun K hK => ?_)
            go_simp
            try simp only [Act.put, List.setIfInBounds_toArray, List.set_cons_zero, List.set_cons_succ]
            refine hK.out _ _ ⟨fun _ => hc44, ?_⟩
            clear hK K
            refine J_all (rs := [10]) (by kernel_rfl) (by simp) (fun i hi => ?_)
            simp only [List.mem_cons, List.not_mem_nil, or_false] at hi
            subst hi
            refine J_oneH (by simp only [List.getElem?_toArray, List.getElem?_cons_succ, List.getElem?_cons_zero]; rfl) rfl (fun K hK => ?_)
            go_simp
            try simp only [Act.put, List.setIfInBounds_toArray, List.set_cons_zero, List.set_cons_succ]
            refine hK.out _ _ ⟨fun h => absurd rfl h, ?_⟩
            clear hK K hc44
            refine J_done (by kernel_rfl) ?_
            obtain ⟨X5, hS5⟩ := S7.out.more hK16 (x := ⟨A9, c9, l⟩) N8.out F8.out (((Fr.refl NoB w8).drew).then F9.out) (nown_base O9.out (Nat.zero_le _)) (fun g hg => .inr ⟨(O9.out.lt g hg).1, (O9.out.lt g hg).2⟩) hlb A4.out (by rw [HKEY.out]; exact bag_snoc_same _ _ _) (fun q hq => bag_snoc_other _ (by rw [← HKEY.out]; exact Ne.symm hq) _) hfull
            have S5 := Lib.hid hS5
            clear hS5
            have HB5 := Lib.hid (show (66 * k + 1) ≤ 66 * (k + 1) by omega)
            go_wp2_with (fail)
            go_loopw [15] (fun i W2 => ∃ j : Nat, j ≤ 16 ∧ i = .int .i64 (j : Int) ∧ NS w W2 X5 p ((66 * k + 1)) ((L ++ [(((fm : Int), (tm : Int)), l)])) T ((updN s κ (.slice A10 ((V κ).length + 1) c10))) ((updN V κ (V κ ++ [⟨A9, c9, l⟩])))) (fun i _ => 16 - (intOf i).toNat)
            case atStart => exact ⟨0, by omega, rfl, S5.out⟩
            case round =>
              obtain ⟨j, hj, rfl, h2⟩ := hrel
              have S2 := Lib.hid h2
              clear h2 S5
              obtain ⟨L5, hL5⟩ : ∃ L5, (L ++ [(((fm : Int), (tm : Int)), l)]) = L5 := ⟨_, rfl⟩
              obtain ⟨s5, hs5⟩ : ∃ s5, (updN s κ (.slice A10 ((V κ).length + 1) c10)) = s5 := ⟨_, rfl⟩
              obtain ⟨V5, hV5⟩ : ∃ V5, (updN V κ (V κ ++ [⟨A9, c9, l⟩])) = V5 := ⟨_, rfl⟩
              obtain ⟨B5, hB5⟩ : ∃ B5, (66 * k + 1) = B5 := ⟨_, rfl⟩
              rw [hL5, hs5, hV5, hB5] at S2
              rw [hB5] at HB5
              have HEQ := Lib.hid (And.intro hL5 (And.intro hs5 (And.intro hV5 hB5)))
              clear hL5 hs5 hV5 hB5
              by_cases hlt2 : j < 16
              · have hji : (j : Int) < 16 := by omega
                have hj0 : (0 : Int) ≤ (j : Int) := by omega
                obtain ⟨A2, c2, e2, -, -⟩ := nown_form4 (S2.out.there.rows j hlt2).row
                have hc2 := S2.out.there.cell hlt2
                rw [e2, S2.out.len hlt2] at hc2
                obtain ⟨ja, hja⟩ : ∃ ja : Nat, j / 4 = ja := ⟨_, rfl⟩
                obtain ⟨jb, hjb⟩ : ∃ jb : Nat, j % 4 = jb := ⟨_, rfl⟩
                have hkj : keyN j = ((ja : Int), (jb : Int)) := by unfold keyN; rw [hja, hjb]
                have ht : (j : Int).tdiv 4 = (ja : Int) := by rw [Int.tdiv_eq_ediv_of_nonneg hj0]; omega
                have hr : (j : Int).tmod 4 = (jb : Int) := by rw [Int.tmod_eq_emod_of_nonneg hj0]; omega
                have hw1 : IntKind.i64.wrap ((j : Int).tdiv 4) = (ja : Int) := by rw [ht, IntKind.wrap_i64]; omega
                have hw2 : IntKind.i64.wrap (ja : Int) = (ja : Int) := by rw [IntKind.wrap_i64]; omega
                have HC := Lib.hid ((S2.out.step ((Fr.refl NoB wr).drew)).net.count (show InR ((ja : Int), (jb : Int)) from ⟨⟨by simp only; omega, by simp only; omega⟩, by simp only; omega, by simp only; omega⟩))
                rw [hkj] at hc2
                obtain ⟨nb, hnb⟩ : ∃ nb, (bag L5 ((ja : Int), (jb : Int))).length = nb := ⟨_, rfl⟩
                rw [hnb] at hc2 HC
                have HS2 := Lib.hid (fun Z (f : Fr NoB wr Z) => (show Z.cell? ⟨T, j, none⟩ = some (.slice A2 nb c2) from (f.cell (p := ⟨T, j, none⟩) (World.block_lt_of_cell? _ _ hc2) (fun x => x)).trans hc2))
                clear hja hjb hkj e2 hnb
                go_wp2_with (fail)
                go_region_held3 (fun Z => Z.cell? ⟨T, j, none⟩ = some (.slice A2 nb c2)) (first
                  | with_reducible exact HS2.out _ (Fr.refl NoB wr)
                  | with_reducible exact HS2.out _ ((Fr.refl NoB wr).drew)) (first
                  | ((with_reducible refine HC.out.mono ?_); rintro e w2 ⟨rfl, rfl⟩))
                go_wp2_with (fail)
                go_roundw
                case rel =>
                  refine ⟨j + 1, by omega, by go_num, ?_⟩
                  obtain ⟨e1, e2, e3, e4⟩ := HEQ.out
                  rw [e1, e2, e3, e4]
                  exact S2.out.step ((Fr.refl NoB wr).drew)
                case measure => simp [intOf]; omega
              · obtain rfl : j = 16 := by omega
                go_wp2_with (fail)
                go_roundw
                case rel => exact ⟨k + 1, L5, X5, s5, V5, by omega, by go_num, S2.out.le HB5.out⟩
                case measure => simp [intOf]; omega
          · rw [HKEY.out] at hfull
            have HT := Lib.hid (S7.out.net.send HBK.out.2 HKR.out B l d _ _ (HRD.out _ S7.out.net.fr))
            rw [(sendok_false (.inl (Nat.le_of_not_lt hfull))).1, (sendok_false (.inl (Nat.le_of_not_lt hfull))).2] at HT
            go_wp2_with (fail)
            refine HT.out.mono ?_
            rintro e w8 ⟨rfl, n8, f8⟩
            obtain ⟨X5, hX5⟩ : ∃ X5, Y = X5 := ⟨_, rfl⟩
            have S5 := Lib.hid (S7.out.alone n8 f8 (fun _ => rfl))
            have hcl := S5.out.there.cell hK16
            obtain ⟨A3, c3, e3, -, -⟩ := nown_form4 (S5.out.there.rows κ hK16).row
            obtain ⟨nv, hnv⟩ : ∃ nv, (V κ).length = nv := ⟨_, rfl⟩
            rw [e3, hnv] at hcl
            have hnv32 : ¬ (nv : Int) < 32 := by
              have h1 := S5.out.len hK16
              rw [HKEY.out] at h1
              omega
            rw [hX5] at S5
            clear hnv e3 n8 f8 hX5
            go_wp2_with (fail)
            have HB5 := Lib.hid (show (66 * k + 1) ≤ 66 * (k + 1) by omega)
            go_wp2_with (fail)
            go_loopw [15] (fun i W2 => ∃ j : Nat, j ≤ 16 ∧ i = .int .i64 (j : Int) ∧ NS w W2 X5 p ((66 * k + 1)) (L) T (s) (V)) (fun i _ => 16 - (intOf i).toNat)
            case atStart => exact ⟨0, by omega, rfl, S5.out⟩
            case round =>
              obtain ⟨j, hj, rfl, h2⟩ := hrel
              have S2 := Lib.hid h2
              clear h2 S5
              obtain ⟨L5, hL5⟩ : ∃ L5, L = L5 := ⟨_, rfl⟩
              obtain ⟨s5, hs5⟩ : ∃ s5, s = s5 := ⟨_, rfl⟩
              obtain ⟨V5, hV5⟩ : ∃ V5, V = V5 := ⟨_, rfl⟩
              obtain ⟨B5, hB5⟩ : ∃ B5, (66 * k + 1) = B5 := ⟨_, rfl⟩
              rw [hL5, hs5, hV5, hB5] at S2
              rw [hB5] at HB5
              have HEQ := Lib.hid (And.intro hL5 (And.intro hs5 (And.intro hV5 hB5)))
              clear hL5 hs5 hV5 hB5
              by_cases hlt2 : j < 16
              · have hji : (j : Int) < 16 := by omega
                have hj0 : (0 : Int) ≤ (j : Int) := by omega
                obtain ⟨A2, c2, e2, -, -⟩ := nown_form4 (S2.out.there.rows j hlt2).row
                have hc2 := S2.out.there.cell hlt2
                rw [e2, S2.out.len hlt2] at hc2
                obtain ⟨ja, hja⟩ : ∃ ja : Nat, j / 4 = ja := ⟨_, rfl⟩
                obtain ⟨jb, hjb⟩ : ∃ jb : Nat, j % 4 = jb := ⟨_, rfl⟩
                have hkj : keyN j = ((ja : Int), (jb : Int)) := by unfold keyN; rw [hja, hjb]
                have ht : (j : Int).tdiv 4 = (ja : Int) := by rw [Int.tdiv_eq_ediv_of_nonneg hj0]; omega
                have hr : (j : Int).tmod 4 = (jb : Int) := by rw [Int.tmod_eq_emod_of_nonneg hj0]; omega
                have hw1 : IntKind.i64.wrap ((j : Int).tdiv 4) = (ja : Int) := by rw [ht, IntKind.wrap_i64]; omega
                have hw2 : IntKind.i64.wrap (ja : Int) = (ja : Int) := by rw [IntKind.wrap_i64]; omega
                have HC := Lib.hid ((S2.out.step ((Fr.refl NoB wr).drew)).net.count (show InR ((ja : Int), (jb : Int)) from ⟨⟨by simp only; omega, by simp only; omega⟩, by simp only; omega, by simp only; omega⟩))
                rw [hkj] at hc2
                obtain ⟨nb, hnb⟩ : ∃ nb, (bag L5 ((ja : Int), (jb : Int))).length = nb := ⟨_, rfl⟩
                rw [hnb] at hc2 HC
                have HS2 := Lib.hid (fun Z (f : Fr NoB wr Z) => (show Z.cell? ⟨T, j, none⟩ = some (.slice A2 nb c2) from (f.cell (p := ⟨T, j, none⟩) (World.block_lt_of_cell? _ _ hc2) (fun x => x)).trans hc2))
                clear hja hjb hkj e2 hnb
                go_wp2_with (fail)
                go_region_held3 (fun Z => Z.cell? ⟨T, j, none⟩ = some (.slice A2 nb c2)) (first
                  | with_reducible exact HS2.out _ (Fr.refl NoB wr)
                  | with_reducible exact HS2.out _ ((Fr.refl NoB wr).drew)) (first
                  | ((with_reducible refine HC.out.mono ?_); rintro e w2 ⟨rfl, rfl⟩))
                go_wp2_with (fail)
                go_roundw
                case rel =>
                  refine ⟨j + 1, by omega, by go_num, ?_⟩
                  obtain ⟨e1, e2, e3, e4⟩ := HEQ.out
                  rw [e1, e2, e3, e4]
                  exact S2.out.step ((Fr.refl NoB wr).drew)
                case measure => simp [intOf]; omega
              · obtain rfl : j = 16 := by omega
                go_wp2_with (fail)
                go_roundw
                case rel => exact ⟨k + 1, L5, X5, s5, V5, by omega, by go_num, S2.out.le HB5.out⟩
                case measure => simp [intOf]; omega
        · as_aux_lemma =>
          by_cases hfull : (bag L (keyN κ)).length < 32
          · have hlb : l.length ≤ 1048576 := by omega
            have HT := Lib.hid (S7.out.net.send HBK.out.2 HKR.out B l d _ _ (HRD.out _ S7.out.net.fr))
            have HNV := Lib.hid (S7.out.len hK16)
            rw [HKEY.out] at hfull
            rw [(sendok_true hfull hlb).1, (sendok_true hfull hlb).2] at HT
            rw [← HKEY.out] at hfull
            go_wp2_with (fail)
            refine HT.out.mono ?_
            rintro e w8 ⟨rfl, n8, f8⟩
            have N8 := Lib.hid n8
            have F8 := Lib.hid f8
            clear n8 f8
            go_wp2_with (fail)
            have T8 := Lib.hid ((S7.out.there.fr F8.out (fun g hg hx => hx hg)).fr ((Fr.refl NoB w8).drew) (fun _ _ x => x))
            have F8d := Lib.hid (F8.out.drew)
            have hcd : w8.drew.cell? ⟨T, κ, none⟩ = some (s κ) ∧ w8.drew.cell? ⟨β, 4, none⟩ = some (.slice B l.length d) := ⟨T8.out.cell hK16, (HSF.out _ F8d.out).2⟩
            refine wp_region_any (by kernel_rfl) (wpAny_of_J (S := fun j X => j ≠ 10 → (X.cell? ⟨T, κ, none⟩ = some (s κ) ∧ X.cell? ⟨β, 4, none⟩ = some (.slice B l.length d))) _ _ _ _ ?_)
            show wpAnyJ _ _ _ _ _ _ _ _ w8.drew
            simp only [List.size_toArray, List.length_cons, List.length_nil, Nat.reduceAdd]
            refine J_take (i := 0) (v := ?_) (fun X : World => X.cell? ⟨T, κ, none⟩ = some (s κ) ∧ X.cell? ⟨β, 4, none⟩ = some (.slice B l.length d)) (fun j => decide (j ≠ 10)) (by simp only [List.getElem?_toArray, List.getElem?_cons_zero]; rfl) (by kernel_rfl) (by kernel_rfl) (by kernel_rfl) (by kernel_rfl) (by exact fun _ _ _ h => h) (fun j X hm h => h (of_decide_eq_true hm)) (fun X h _ => h) hcd (Or.inl ⟨by rfl, ?_⟩) ?_
            rotate_left
            · intro X hX; obtain ⟨hX1, hX2⟩ := hX; go_simp; (try with_reducible rfl)
            try simp only [Act.put, List.setIfInBounds_toArray, List.set_cons_zero, List.set_cons_succ]
            refine J_take (i := 1) (v := ?_) (fun X : World => X.cell? ⟨T, κ, none⟩ = some (s κ) ∧ X.cell? ⟨β, 4, none⟩ = some (.slice B l.length d)) (fun j => decide (j ≠ 10)) (by simp only [List.getElem?_toArray, List.getElem?_cons_succ, List.getElem?_cons_zero]; rfl) (by kernel_rfl) (by kernel_rfl) (by kernel_rfl) (by kernel_rfl) (by exact fun _ _ _ h => h) (fun j X hm h => h (of_decide_eq_true hm)) (fun X h _ => h) hcd (Or.inl ⟨by rfl, ?_⟩) ?_
            rotate_left
            · intro X hX; obtain ⟨hX1, hX2⟩ := hX; go_simp; (try with_reducible rfl)
            try simp only [Act.put, List.setIfInBounds_toArray, List.set_cons_zero, List.set_cons_succ]
            refine J_take (i := 2) (v := ?_) (fun X : World => X.cell? ⟨T, κ, none⟩ = some (s κ) ∧ X.cell? ⟨β, 4, none⟩ = some (.slice B l.length d)) (fun j => decide (j ≠ 10)) (by simp only [List.getElem?_toArray, List.getElem?_cons_succ, List.getElem?_cons_zero]; rfl) (by kernel_rfl) (by kernel_rfl) (by kernel_rfl) (by kernel_rfl) (by exact fun _ _ _ h => h) (fun j X hm h => h (of_decide_eq_true hm)) (fun X h _ => h) hcd (Or.inl ⟨by rfl, ?_⟩) ?_
            rotate_left
            · intro X hX; obtain ⟨hX1, hX2⟩ := hX; go_simp; (try with_reducible rfl)
            try simp only [Act.put, List.setIfInBounds_toArray, List.set_cons_zero, List.set_cons_succ]
            refine J_take (i := 3) (v := ?_) (fun X : World => X.cell? ⟨T, κ, none⟩ = some (s κ) ∧ X.cell? ⟨β, 4, none⟩ = some (.slice B l.length d)) (fun j => decide (j ≠ 10)) (by simp only [List.getElem?_toArray, List.getElem?_cons_succ, List.getElem?_cons_zero]; rfl) (by kernel_rfl) (by kernel_rfl) (by kernel_rfl) (by kernel_rfl) (by exact fun _ _ _ h => h) (fun j X hm h => h (of_decide_eq_true hm)) (fun X h _ => h) hcd (Or.inl ⟨by rfl, ?_⟩) ?_
            rotate_left
            · intro X hX; obtain ⟨hX1, hX2⟩ := hX; go_simp; (try with_reducible rfl)
            try simp only [Act.put, List.setIfInBounds_toArray, List.set_cons_zero, List.set_cons_succ]
            refine J_take (i := 4) (v := ?_) (fun X : World => X.cell? ⟨T, κ, none⟩ = some (s κ) ∧ X.cell? ⟨β, 4, none⟩ = some (.slice B l.length d)) (fun j => decide (j ≠ 10)) (by simp only [List.getElem?_toArray, List.getElem?_cons_succ, List.getElem?_cons_zero]; rfl) (by kernel_rfl) (by kernel_rfl) (by kernel_rfl) (by kernel_rfl) (by exact fun _ _ _ h => h) (fun j X hm h => h (of_decide_eq_true hm)) (fun X h _ => h) hcd (Or.inl ⟨by rfl, ?_⟩) ?_
            rotate_left
            · intro X hX; obtain ⟨hX1, hX2⟩ := hX; go_simp; (try with_reducible rfl)
            try simp only [Act.put, List.setIfInBounds_toArray, List.set_cons_zero, List.set_cons_succ]
            refine J_take (i := 5) (v := ?_) (fun X : World => X.cell? ⟨T, κ, none⟩ = some (s κ) ∧ X.cell? ⟨β, 4, none⟩ = some (.slice B l.length d)) (fun j => decide (j ≠ 10)) (by simp only [List.getElem?_toArray, List.getElem?_cons_succ, List.getElem?_cons_zero]; rfl) (by kernel_rfl) (by kernel_rfl) (by kernel_rfl) (by kernel_rfl) (by exact fun _ _ _ h => h) (fun j X hm h => h (of_decide_eq_true hm)) (fun X h _ => h) hcd (Or.inl ⟨by rfl, ?_⟩) ?_
            rotate_left
            · intro X hX; obtain ⟨hX1, hX2⟩ := hX; go_simp; (try with_reducible rfl)
            try simp only [Act.put, List.setIfInBounds_toArray, List.set_cons_zero, List.set_cons_succ]
            refine J_all (rs := [6]) (by kernel_rfl) (by simp) (fun i hi => ?_)
            simp only [List.mem_cons, List.not_mem_nil, or_false] at hi
            subst hi
            refine J_oneH (by simp only [List.getElem?_toArray, List.getElem?_cons_succ, List.getElem?_cons_zero]; rfl) rfl (fun K hK => ?_)
            go_simp
            refine (copy_calls B l d _ _ _ (HRD.out _ N8.out.fr.drew) (by omega)).mono ?_
            rintro e w9 ⟨v9, rfl, o9, b9⟩
            obtain ⟨A9, c9, rfl, -, -⟩ := nown_form4 o9
            have F9 := Lib.hid (show Fr NoB w8.drew w9 from Fr.ofBelow b9)
            have T9 := Lib.hid (T8.out.fr F9.out (fun _ _ x => x))
            have HB9 := Lib.hid (F9.out.at_ (F8d.out.at_ HB7.out (fun x => x HYB.out)) (fun x => x))
            have hc9 : w9.cell? ⟨T, κ, none⟩ = some (s κ) ∧ w9.cell? ⟨β, 4, none⟩ = some (.slice B l.length d) := ⟨T9.out.cell hK16, Lib.cell_of_heap HB9.out 4⟩
            have O9 := Lib.hid o9
            clear o9 b9 hcd
            try simp only [Act.put, List.setIfInBounds_toArray, List.set_cons_zero, List.set_cons_succ]
            refine hK.out _ _ ⟨fun _ => hc9, ?_⟩
            clear hK K
            refine J_all (rs := [7]) (by kernel_rfl) (by simp) (fun i hi => ?_)
            simp only [List.mem_cons, List.not_mem_nil, or_false] at hi
            subst hi
            refine J_oneH (by simp only [List.getElem?_toArray, List.getElem?_cons_succ, List.getElem?_cons_zero]; rfl) rfl (fun K hK => ?_)
            go_simp
            have TA := Lib.hid (T9.out.fr ((Fr.refl NoB w9).alloc (.cells #[.slice A9 l.length c9] 22)) (fun _ _ x => x))
            have HBA := Lib.hid (((Fr.refl NoB w9).alloc (.cells #[.slice A9 l.length c9] 22)).at_ HB9.out (fun x => x))
            have hcA : (w9.alloc (.cells #[.slice A9 l.length c9] 22)).cell? ⟨T, κ, none⟩ = some (s κ) ∧ (w9.alloc (.cells #[.slice A9 l.length c9] 22)).cell? ⟨β, 4, none⟩ = some (.slice B l.length d) := ⟨TA.out.cell hK16, Lib.cell_of_heap HBA.out 4⟩
            have NWA := Lib.hid (World.news_of_block (heap_alloc_new w9 (.cells #[.slice A9 l.length c9] 22)))
            try simp only [Act.put, List.setIfInBounds_toArray, List.set_cons_zero, List.set_cons_succ]
            refine hK.out _ _ ⟨fun _ => hcA, ?_⟩
            clear hK K hc9
            refine J_all (rs := [8]) (by kernel_rfl) (by simp) (fun i hi => ?_)
            simp only [List.mem_cons, List.not_mem_nil, or_false] at hi
            subst hi
            refine J_oneH (by simp only [List.getElem?_toArray, List.getElem?_cons_succ, List.getElem?_cons_zero]; rfl) rfl (fun K hK => ?_)
            refine wp_append_src _ (.tmp 64) (.tmp 68) 34 rfl 0 22 i0 (.slice none 0 0) 1 24 Try.underlying34 hi0 hz0 hz1 hz2 rfl (by decide) (s κ) (V κ).length ((V κ).map Pk.val) rfl (TA.out.rows κ hK16).row _ 1 1 [Pk.val ⟨A9, c9, l⟩] rfl rfl (fun _ => ⟨_, rfl, NWA.out⟩) (by intro u hu; rw [List.mem_singleton.1 hu]; rfl) (by have := HNV.out; unfold maxLen; omega) (by have := HNV.out; omega) (Nat.zero_le _) ?_
            intro v4 W4 hA4
            obtain ⟨A10, c10, rfl, -, -⟩ := nown_form4 hA4.own
            have A4 := Lib.hid hA4
            obtain ⟨hc4, hz4⟩ := TA.out.thaw hK16 hA4.fr
            have hb4 := Lib.cell_of_heap (hA4.fr.at_ HBA.out (fun hm => own_not (TA.out.rows κ hK16).row HBA.out (by decide) hm rfl)) 4
            have hc44 : W4.cell? ⟨T, κ, none⟩ = some (s κ) ∧ W4.cell? ⟨β, 4, none⟩ = some (.slice B l.length d) := ⟨hc4, hb4⟩
            clear hA4 hcA hc4 hb4
            try simp only [Act.put, List.setIfInBounds_toArray, List.set_cons_zero, List.set_cons_succ]
            refine hK.out _ _ ⟨fun _ => hc44, ?_⟩
            clear hK K
            refine J_all (rs := [9]) (by kernel_rfl) (by simp) (fun i hi => ?_)
            simp only [List.mem_cons, List.not_mem_nil, or_false] at hi
            subst hi
            refine J_oneH (by simp only [List.getElem?_toArray, List.getElem?_cons_succ, List.getElem?_cons_zero]; rfl) rfl (fun K hK => ?_)
            go_simp
            try simp only [Act.put, List.setIfInBounds_toArray, List.set_cons_zero, List.set_cons_succ]
            refine hK.out _ _ ⟨fun _ => hc44, ?_⟩
            clear hK K
            refine J_all (rs := [10]) (by kernel_rfl) (by simp) (fun i hi => ?_)
            simp only [List.mem_cons, List.not_mem_nil, or_false] at hi
            subst hi
            refine J_oneH (by simp only [List.getElem?_toArray, List.getElem?_cons_succ, List.getElem?_cons_zero]; rfl) rfl (fun K hK => ?_)
            go_simp
            try simp only [Act.put, List.setIfInBounds_toArray, List.set_cons_zero, List.set_cons_succ]
            refine hK.out _ _ ⟨fun h => absurd rfl h, ?_⟩
            clear hK K hc44
            refine J_done (by kernel_rfl) ?_
            obtain ⟨X5, hS5⟩ := S7.out.more hK16 (x := ⟨A9, c9, l⟩) N8.out F8.out (((Fr.refl NoB w8).drew).then F9.out) (nown_base O9.out (Nat.zero_le _)) (fun g hg => .inr ⟨(O9.out.lt g hg).1, (O9.out.lt g hg).2⟩) hlb A4.out (by rw [HKEY.out]; exact bag_snoc_same _ _ _) (fun q hq => bag_snoc_other _ (by rw [← HKEY.out]; exact Ne.symm hq) _) hfull
            have S5 := Lib.hid hS5
            clear hS5
            have HB5 := Lib.hid (show (66 * k + 1) ≤ 66 * (k + 1) by omega)
            go_wp2_with (fail)
            go_loopw [15] (fun i W2 => ∃ j : Nat, j ≤ 16 ∧ i = .int .i64 (j : Int) ∧ NS w W2 X5 p ((66 * k + 1)) ((L ++ [(((fm : Int), (tm : Int)), l)])) T ((updN s κ (.slice A10 ((V κ).length + 1) c10))) ((updN V κ (V κ ++ [⟨A9, c9, l⟩])))) (fun i _ => 16 - (intOf i).toNat)
            case atStart => exact ⟨0, by omega, rfl, S5.out⟩
            case round =>
              obtain ⟨j, hj, rfl, h2⟩ := hrel
              have S2 := Lib.hid h2
              clear h2 S5
              obtain ⟨L5, hL5⟩ : ∃ L5, (L ++ [(((fm : Int), (tm : Int)), l)]) = L5 := ⟨_, rfl⟩
              obtain ⟨s5, hs5⟩ : ∃ s5, (updN s κ (.slice A10 ((V κ).length + 1) c10)) = s5 := ⟨_, rfl⟩
              obtain ⟨V5, hV5⟩ : ∃ V5, (updN V κ (V κ ++ [⟨A9, c9, l⟩])) = V5 := ⟨_, rfl⟩
              obtain ⟨B5, hB5⟩ : ∃ B5, (66 * k + 1) = B5 := ⟨_, rfl⟩
              rw [hL5, hs5, hV5, hB5] at S2
              rw [hB5] at HB5
              have HEQ := Lib.hid (And.intro hL5 (And.intro hs5 (And.intro hV5 hB5)))
              clear hL5 hs5 hV5 hB5
              by_cases hlt2 : j < 16
              · have hji : (j : Int) < 16 := by omega
                have hj0 : (0 : Int) ≤ (j : Int) := by omega
                obtain ⟨A2, c2, e2, -, -⟩ := nown_form4 (S2.out.there.rows j hlt2).row
                have hc2 := S2.out.there.cell hlt2
                rw [e2, S2.out.len hlt2] at hc2
                obtain ⟨ja, hja⟩ : ∃ ja : Nat, j / 4 = ja := ⟨_, rfl⟩
                obtain ⟨jb, hjb⟩ : ∃ jb : Nat, j % 4 = jb := ⟨_, rfl⟩
                have hkj : keyN j = ((ja : Int), (jb : Int)) := by unfold keyN; rw [hja, hjb]
                have ht : (j : Int).tdiv 4 = (ja : Int) := by rw [Int.tdiv_eq_ediv_of_nonneg hj0]; omega
                have hr : (j : Int).tmod 4 = (jb : Int) := by rw [Int.tmod_eq_emod_of_nonneg hj0]; omega
                have hw1 : IntKind.i64.wrap ((j : Int).tdiv 4) = (ja : Int) := by rw [ht, IntKind.wrap_i64]; omega
                have hw2 : IntKind.i64.wrap (ja : Int) = (ja : Int) := by rw [IntKind.wrap_i64]; omega
                have HC := Lib.hid ((S2.out.step ((Fr.refl NoB wr).drew)).net.count (show InR ((ja : Int), (jb : Int)) from ⟨⟨by simp only; omega, by simp only; omega⟩, by simp only; omega, by simp only; omega⟩))
                rw [hkj] at hc2
                obtain ⟨nb, hnb⟩ : ∃ nb, (bag L5 ((ja : Int), (jb : Int))).length = nb := ⟨_, rfl⟩
                rw [hnb] at hc2 HC
                have HS2 := Lib.hid (fun Z (f : Fr NoB wr Z) => (show Z.cell? ⟨T, j, none⟩ = some (.slice A2 nb c2) from (f.cell (p := ⟨T, j, none⟩) (World.block_lt_of_cell? _ _ hc2) (fun x => x)).trans hc2))
                clear hja hjb hkj e2 hnb
                go_wp2_with (fail)
                go_region_held3 (fun Z => Z.cell? ⟨T, j, none⟩ = some (.slice A2 nb c2)) (first
                  | with_reducible exact HS2.out _ (Fr.refl NoB wr)
                  | with_reducible exact HS2.out _ ((Fr.refl NoB wr).drew)) (first
                  | ((with_reducible refine HC.out.mono ?_); rintro e w2 ⟨rfl, rfl⟩))
                go_wp2_with (fail)
                go_roundw
                case rel =>
                  refine ⟨j + 1, by omega, by go_num, ?_⟩
                  obtain ⟨e1, e2, e3, e4⟩ := HEQ.out
                  rw [e1, e2, e3, e4]
                  exact S2.out.step ((Fr.refl NoB wr).drew)
                case measure => simp [intOf]; omega
              · obtain rfl : j = 16 := by omega
                go_wp2_with (fail)
                go_roundw
                case rel => exact ⟨k + 1, L5, X5, s5, V5, by omega, by go_num, S2.out.le HB5.out⟩
                case measure => simp [intOf]; omega
          · rw [HKEY.out] at hfull
            have HT := Lib.hid (S7.out.net.send HBK.out.2 HKR.out B l d _ _ (HRD.out _ S7.out.net.fr))
            rw [(sendok_false (.inl (Nat.le_of_not_lt hfull))).1, (sendok_false (.inl (Nat.le_of_not_lt hfull))).2] at HT
            go_wp2_with (fail)
            refine HT.out.mono ?_
            rintro e w8 ⟨rfl, n8, f8⟩
            obtain ⟨X5, hX5⟩ : ∃ X5, Y = X5 := ⟨_, rfl⟩
            have S5 := Lib.hid (S7.out.alone n8 f8 (fun _ => rfl))
            have hcl := S5.out.there.cell hK16
            obtain ⟨A3, c3, e3, -, -⟩ := nown_form4 (S5.out.there.rows κ hK16).row
            obtain ⟨nv, hnv⟩ : ∃ nv, (V κ).length = nv := ⟨_, rfl⟩
            rw [e3, hnv] at hcl
            have hnv32 : ¬ (nv : Int) < 32 := by
              have h1 := S5.out.len hK16
              rw [HKEY.out] at h1
              omega
            rw [hX5] at S5
            clear hnv e3 n8 f8 hX5
            go_wp2_with (fail)
            have HB5 := Lib.hid (show (66 * k + 1) ≤ 66 * (k + 1) by omega)
            go_wp2_with (fail)
            go_loopw [15] (fun i W2 => ∃ j : Nat, j ≤ 16 ∧ i = .int .i64 (j : Int) ∧ NS w W2 X5 p ((66 * k + 1)) (L) T (s) (V)) (fun i _ => 16 - (intOf i).toNat)
            case atStart => exact ⟨0, by omega, rfl, S5.out⟩
            case round =>
              obtain ⟨j, hj, rfl, h2⟩ := hrel
              have S2 := Lib.hid h2
              clear h2 S5
              obtain ⟨L5, hL5⟩ : ∃ L5, L = L5 := ⟨_, rfl⟩
              obtain ⟨s5, hs5⟩ : ∃ s5, s = s5 := ⟨_, rfl⟩
              obtain ⟨V5, hV5⟩ : ∃ V5, V = V5 := ⟨_, rfl⟩
              obtain ⟨B5, hB5⟩ : ∃ B5, (66 * k + 1) = B5 := ⟨_, rfl⟩
              rw [hL5, hs5, hV5, hB5] at S2
              rw [hB5] at HB5
              have HEQ := Lib.hid (And.intro hL5 (And.intro hs5 (And.intro hV5 hB5)))
              clear hL5 hs5 hV5 hB5
              by_cases hlt2 : j < 16
              · have hji : (j : Int) < 16 := by omega
                have hj0 : (0 : Int) ≤ (j : Int) := by omega
                obtain ⟨A2, c2, e2, -, -⟩ := nown_form4 (S2.out.there.rows j hlt2).row
                have hc2 := S2.out.there.cell hlt2
                rw [e2, S2.out.len hlt2] at hc2
                obtain ⟨ja, hja⟩ : ∃ ja : Nat, j / 4 = ja := ⟨_, rfl⟩
                obtain ⟨jb, hjb⟩ : ∃ jb : Nat, j % 4 = jb := ⟨_, rfl⟩
                have hkj : keyN j = ((ja : Int), (jb : Int)) := by unfold keyN; rw [hja, hjb]
                have ht : (j : Int).tdiv 4 = (ja : Int) := by rw [Int.tdiv_eq_ediv_of_nonneg hj0]; omega
                have hr : (j : Int).tmod 4 = (jb : Int) := by rw [Int.tmod_eq_emod_of_nonneg hj0]; omega
                have hw1 : IntKind.i64.wrap ((j : Int).tdiv 4) = (ja : Int) := by rw [ht, IntKind.wrap_i64]; omega
                have hw2 : IntKind.i64.wrap (ja : Int) = (ja : Int) := by rw [IntKind.wrap_i64]; omega
                have HC := Lib.hid ((S2.out.step ((Fr.refl NoB wr).drew)).net.count (show InR ((ja : Int), (jb : Int)) from ⟨⟨by simp only; omega, by simp only; omega⟩, by simp only; omega, by simp only; omega⟩))
                rw [hkj] at hc2
                obtain ⟨nb, hnb⟩ : ∃ nb, (bag L5 ((ja : Int), (jb : Int))).length = nb := ⟨_, rfl⟩
                rw [hnb] at hc2 HC
                have HS2 := Lib.hid (fun Z (f : Fr NoB wr Z) => (show Z.cell? ⟨T, j, none⟩ = some (.slice A2 nb c2) from (f.cell (p := ⟨T, j, none⟩) (World.block_lt_of_cell? _ _ hc2) (fun x => x)).trans hc2))
                clear hja hjb hkj e2 hnb
                go_wp2_with (fail)
                go_region_held3 (fun Z => Z.cell? ⟨T, j, none⟩ = some (.slice A2 nb c2)) (first
                  | with_reducible exact HS2.out _ (Fr.refl NoB wr)
                  | with_reducible exact HS2.out _ ((Fr.refl NoB wr).drew)) (first
                  | ((with_reducible refine HC.out.mono ?_); rintro e w2 ⟨rfl, rfl⟩))
                go_wp2_with (fail)
                go_roundw
                case rel =>
                  refine ⟨j + 1, by omega, by go_num, ?_⟩
                  obtain ⟨e1, e2, e3, e4⟩ := HEQ.out
                  rw [e1, e2, e3, e4]
                  exact S2.out.step ((Fr.refl NoB wr).drew)
                case measure => simp [intOf]; omega
              · obtain rfl : j = 16 := by omega
                go_wp2_with (fail)
                go_roundw
                case rel => exact ⟨k + 1, L5, X5, s5, V5, by omega, by go_num, S2.out.le HB5.out⟩
                case measure => simp [intOf]; omega
        · as_aux_lemma =>
          by_cases hfull : (bag L (keyN κ)).length < 32
          · have hlb : l.length ≤ 1048576 := by omega
            have HT := Lib.hid (S7.out.net.send HBK.out.2 HKR.out B l d _ _ (HRD.out _ S7.out.net.fr))
            have HNV := Lib.hid (S7.out.len hK16)
            rw [HKEY.out] at hfull
            rw [(sendok_true hfull hlb).1, (sendok_true hfull hlb).2] at HT
            rw [← HKEY.out] at hfull
            go_wp2_with (fail)
            refine HT.out.mono ?_
            rintro e w8 ⟨rfl, n8, f8⟩
            have N8 := Lib.hid n8
            have F8 := Lib.hid f8
            clear n8 f8
            go_wp2_with (fail)
            have T8 := Lib.hid ((S7.out.there.fr F8.out (fun g hg hx => hx hg)).fr ((Fr.refl NoB w8).drew) (fun _ _ x => x))
            have F8d := Lib.hid (F8.out.drew)
            have hcd : w8.drew.cell? ⟨T, κ, none⟩ = some (s κ) ∧ w8.drew.cell? ⟨β, 4, none⟩ = some (.slice B l.length d) := ⟨T8.out.cell hK16, (HSF.out _ F8d.out).2⟩
            refine wp_region_any (by kernel_rfl) (wpAny_of_J (S := fun j X => j ≠ 10 → (X.cell? ⟨T, κ, none⟩ = some (s κ) ∧ X.cell? ⟨β, 4, none⟩ = some (.slice B l.length d))) _ _ _ _ ?_)
            show wpAnyJ _ _ _ _ _ _ _ _ w8.drew
            simp only [List.size_toArray, List.length_cons, List.length_nil, Nat.reduceAdd]
            refine J_take (i := 0) (v := ?_) (fun X : World => X.cell? ⟨T, κ, none⟩ = some (s κ) ∧ X.cell? ⟨β, 4, none⟩ = some (.slice B l.length d)) (fun j => decide (j ≠ 10)) (by simp only [List.getElem?_toArray, List.getElem?_cons_zero]; rfl) (by kernel_rfl) (by kernel_rfl) (by kernel_rfl) (by kernel_rfl) (by exact fun _ _ _ h => h) (fun j X hm h => h (of_decide_eq_true hm)) (fun X h _ => h) hcd (Or.inl ⟨by rfl, ?_⟩) ?_
            rotate_left
            · intro X hX; obtain ⟨hX1, hX2⟩ := hX; go_simp; (try with_reducible rfl)
            try simp only [Act.put, List.setIfInBounds_toArray, List.set_cons_zero, List.set_cons_succ]
            refine J_take (i := 1) (v := ?_) (fun X : World => X.cell? ⟨T, κ, none⟩ = some (s κ) ∧ X.cell? ⟨β, 4, none⟩ = some (.slice B l.length d)) (fun j => decide (j ≠ 10)) (by simp only [List.getElem?_toArray, List.getElem?_cons_succ, List.getElem?_cons_zero]; rfl) (by kernel_rfl) (by kernel_rfl) (by kernel_rfl) (by kernel_rfl) (by exact fun _ _ _ h => h) (fun j X hm h => h (of_decide_eq_true hm)) (fun X h _ => h) hcd (Or.inl ⟨by rfl, ?_⟩) ?_
            rotate_left
            · intro X hX; obtain ⟨hX1, hX2⟩ := hX; go_simp; (try with_reducible rfl)
            try simp only [Act.put, List.setIfInBounds_toArray, List.set_cons_zero, List.set_cons_succ]
            refine J_take (i := 2) (v := ?_) (fun X : World => X.cell? ⟨T, κ, none⟩ = some (s κ) ∧ X.cell? ⟨β, 4, none⟩ = some (.slice B l.length d)) (fun j => decide (j ≠ 10)) (by simp only [List.getElem?_toArray, List.getElem?_cons_succ, List.getElem?_cons_zero]; rfl) (by kernel_rfl) (by kernel_rfl) (by kernel_rfl) (by kernel_rfl) (by exact fun _ _ _ h => h) (fun j X hm h => h (of_decide_eq_true hm)) (fun X h _ => h) hcd (Or.inl ⟨by rfl, ?_⟩) ?_
            rotate_left
            · intro X hX; obtain ⟨hX1, hX2⟩ := hX; go_simp; (try with_reducible rfl)
            try simp only [Act.put, List.setIfInBounds_toArray, List.set_cons_zero, List.set_cons_succ]
            refine J_take (i := 3) (v := ?_) (fun X : World => X.cell? ⟨T, κ, none⟩ = some (s κ) ∧ X.cell? ⟨β, 4, none⟩ = some (.slice B l.length d)) (fun j => decide (j ≠ 10)) (by simp only [List.getElem?_toArray, List.getElem?_cons_succ, List.getElem?_cons_zero]; rfl) (by kernel_rfl) (by kernel_rfl) (by kernel_rfl) (by kernel_rfl) (by exact fun _ _ _ h => h) (fun j X hm h => h (of_decide_eq_true hm)) (fun X h _ => h) hcd (Or.inl ⟨by rfl, ?_⟩) ?_
            rotate_left
            · intro X hX; obtain ⟨hX1, hX2⟩ := hX; go_simp; (try with_reducible rfl)
            try simp only [Act.put, List.setIfInBounds_toArray, List.set_cons_zero, List.set_cons_succ]
            refine J_take (i := 4) (v := ?_) (fun X : World => X.cell? ⟨T, κ, none⟩ = some (s κ) ∧ X.cell? ⟨β, 4, none⟩ = some (.slice B l.length d)) (fun j => decide (j ≠ 10)) (by simp only [List.getElem?_toArray, List.getElem?_cons_succ, List.getElem?_cons_zero]; rfl) (by kernel_rfl) (by kernel_rfl) (by kernel_rfl) (by kernel_rfl) (by exact fun _ _ _ h => h) (fun j X hm h => h (of_decide_eq_true hm)) (fun X h _ => h) hcd (Or.inl ⟨by rfl, ?_⟩) ?_
            rotate_left
            · intro X hX; obtain ⟨hX1, hX2⟩ := hX; go_simp; (try with_reducible rfl)
            try simp only [Act.put, List.setIfInBounds_toArray, List.set_cons_zero, List.set_cons_succ]
            refine J_take (i := 5) (v := ?_) (fun X : World => X.cell? ⟨T, κ, none⟩ = some (s κ) ∧ X.cell? ⟨β, 4, none⟩ = some (.slice B l.length d)) (fun j => decide (j ≠ 10)) (by simp only [List.getElem?_toArray, List.getElem?_cons_succ, List.getElem?_cons_zero]; rfl) (by kernel_rfl) (by kernel_rfl) (by kernel_rfl) (by kernel_rfl) (by exact fun _ _ _ h => h) (fun j X hm h => h (of_decide_eq_true hm)) (fun X h _ => h) hcd (Or.inl ⟨by rfl, ?_⟩) ?_
            rotate_left
            · intro X hX; obtain ⟨hX1, hX2⟩ := hX; go_simp; (try with_reducible rfl)
            try simp only [Act.put, List.setIfInBounds_toArray, List.set_cons_zero, List.set_cons_succ]
            refine J_all (rs := [6]) (by kernel_rfl) (by simp) (fun i hi => ?_)
            simp only [List.mem_cons, List.not_mem_nil, or_false] at hi
            subst hi
            refine J_oneH (by simp only [List.getElem?_toArray, List.getElem?_cons_succ, List.getElem?_cons_zero]; rfl) rfl (fun K hK => ?_)
            go_simp
            refine (copy_calls B l d _ _ _ (HRD.out _ N8.out.fr.drew) (by omega)).mono ?_
            rintro e w9 ⟨v9, rfl, o9, b9⟩
            obtain ⟨A9, c9, rfl, -, -⟩ := nown_form4 o9
            have F9 := Lib.hid (show Fr NoB w8.drew w9 from Fr.ofBelow b9)
            have T9 := Lib.hid (T8.out.fr F9.out (fun _ _ x => x))
            have HB9 := Lib.hid (F9.out.at_ (F8d.out.at_ HB7.out (fun x => x HYB.out)) (fun x => x))
            have hc9 : w9.cell? ⟨T, κ, none⟩ = some (s κ) ∧ w9.cell? ⟨β, 4, none⟩ = some (.slice B l.length d) := ⟨T9.out.cell hK16, Lib.cell_of_heap HB9.out 4⟩
            have O9 := Lib.hid o9
            clear o9 b9 hcd
            try simp only [Act.put, List.setIfInBounds_toArray, List.set_cons_zero, List.set_cons_succ]
            refine hK.out _ _ ⟨fun _ => hc9, ?_⟩
            clear hK K
            refine J_all (rs := [7]) (by kernel_rfl) (by simp) (fun i hi => ?_)
            simp only [List.mem_cons, List.not_mem_nil, or_false] at hi
            subst hi
            refine J_oneH (by simp only [List.getElem?_toArray, List.getElem?_cons_succ, List.getElem?_cons_zero]; rfl) rfl (fun K hK => ?_)
            go_simp
            have TA := Lib.hid (T9.out.fr ((Fr.refl NoB w9).alloc (.cells #[.slice A9 l.length c9] 22)) (fun _ _ x => x))
            have HBA := Lib.hid (((Fr.refl NoB w9).alloc (.cells #[.slice A9 l.length c9] 22)).at_ HB9.out (fun x => x))
            have hcA : (w9.alloc (.cells #[.slice A9 l.length c9] 22)).cell? ⟨T, κ, none⟩ = some (s κ) ∧ (w9.alloc (.cells #[.slice A9 l.length c9] 22)).cell? ⟨β, 4, none⟩ = some (.slice B l.length d) := ⟨TA.out.cell hK16, Lib.cell_of_heap HBA.out 4⟩
            have NWA := Lib.hid (World.news_of_block (heap_alloc_new w9 (.cells #[.slice A9 l.length c9] 22)))
            try simp only [Act.put, List.setIfInBounds_toArray, List.set_cons_zero, List.set_cons_succ]
            refine hK.out _ _ ⟨fun _ => hcA, ?_⟩
            clear hK K hc9
            refine J_all (rs := [8]) (by kernel_rfl) (by simp) (fun i hi => ?_)
            simp only [List.mem_cons, List.not_mem_nil, or_false] at hi
            subst hi
            refine J_oneH (by simp only [List.getElem?_toArray, List.getElem?_cons_succ, List.getElem?_cons_zero]; rfl) rfl (fun K hK => ?_)
            refine wp_append_src _ (.tmp 64) (.tmp 68) 34 rfl 0 22 i0 (.slice none 0 0) 1 24 Try.underlying34 hi0 hz0 hz1 hz2 rfl (by decide) (s κ) (V κ).length ((V κ).map Pk.val) rfl (TA.out.rows κ hK16).row _ 1 1 [Pk.val ⟨A9, c9, l⟩] rfl rfl (fun _ => ⟨_, rfl, NWA.out⟩) (by intro u hu; rw [List.mem_singleton.1 hu]; rfl) (by have := HNV.out; unfold maxLen; omega) (by have := HNV.out; omega) (Nat.zero_le _) ?_
            intro v4 W4 hA4
            obtain ⟨A10, c10, rfl, -, -⟩ := nown_form4 hA4.own
            have A4 := Lib.hid hA4
            obtain ⟨hc4, hz4⟩ := TA.out.thaw hK16 hA4.fr
            have hb4 := Lib.cell_of_heap (hA4.fr.at_ HBA.out (fun hm => own_not (TA.out.rows κ hK16).row HBA.out (by decide) hm rfl)) 4
            have hc44 : W4.cell? ⟨T, κ, none⟩ = some (s κ) ∧ W4.cell? ⟨β, 4, none⟩ = some (.slice B l.length d) := ⟨hc4, hb4⟩
            clear hA4 hcA hc4 hb4
            try simp only [Act.put, List.setIfInBounds_toArray, List.set_cons_zero, List.set_cons_succ]
            refine hK.out _ _ ⟨fun _ => hc44, ?_⟩
            clear hK K
            refine J_all (rs := [9]) (by kernel_rfl) (by simp) (fun i hi => ?_)
            simp only [List.mem_cons, List.not_mem_nil, or_false] at hi
            subst hi
            refine J_oneH (by simp only [List.getElem?_toArray, List.getElem?_cons_succ, List.getElem?_cons_zero]; rfl) rfl (fun K hK => ?_)
            go_simp
            try simp only [Act.put, List.setIfInBounds_toArray, List.set_cons_zero, List.set_cons_succ]
            refine hK.out _ _ ⟨fun _ => hc44, ?_⟩
            clear hK K
            refine J_all (rs := [10]) (by kernel_rfl) (by simp) (fun i hi => ?_)
            simp only [List.mem_cons, List.not_mem_nil, or_false] at hi
            subst hi
            refine J_oneH (by simp only [List.getElem?_toArray, List.getElem?_cons_succ, List.getElem?_cons_zero]; rfl) rfl (fun K hK => ?_)
            go_simp
            try simp only [Act.put, List.setIfInBounds_toArray, List.set_cons_zero, List.set_cons_succ]
            refine hK.out _ _ ⟨fun h => absurd rfl h, ?_⟩
            clear hK K hc44
            refine J_done (by kernel_rfl) ?_
            obtain ⟨X5, hS5⟩ := S7.out.more hK16 (x := ⟨A9, c9, l⟩) N8.out F8.out (((Fr.refl NoB w8).drew).then F9.out) (nown_base O9.out (Nat.zero_le _)) (fun g hg => .inr ⟨(O9.out.lt g hg).1, (O9.out.lt g hg).2⟩) hlb A4.out (by rw [HKEY.out]; exact bag_snoc_same _ _ _) (fun q hq => bag_snoc_other _ (by rw [← HKEY.out]; exact Ne.symm hq) _) hfull
            have S5 := Lib.hid hS5
            clear hS5
            have HB5 := Lib.hid (show (66 * k + 1) ≤ 66 * (k + 1) by omega)
            go_wp2_with (fail)
            go_loopw [15] (fun i W2 => ∃ j : Nat, j ≤ 16 ∧ i = .int .i64 (j : Int) ∧ NS w W2 X5 p ((66 * k + 1)) ((L ++ [(((fm : Int), (tm : Int)), l)])) T ((updN s κ (.slice A10 ((V κ).length + 1) c10))) ((updN V κ (V κ ++ [⟨A9, c9, l⟩])))) (fun i _ => 16 - (intOf i).toNat)
            case atStart => exact ⟨0, by omega, rfl, S5.out⟩
            case round =>
              obtain ⟨j, hj, rfl, h2⟩ := hrel
              have S2 := Lib.hid h2
              clear h2 S5
              obtain ⟨L5, hL5⟩ : ∃ L5, (L ++ [(((fm : Int), (tm : Int)), l)]) = L5 := ⟨_, rfl⟩
              obtain ⟨s5, hs5⟩ : ∃ s5, (updN s κ (.slice A10 ((V κ).length + 1) c10)) = s5 := ⟨_, rfl⟩
              obtain ⟨V5, hV5⟩ : ∃ V5, (updN V κ (V κ ++ [⟨A9, c9, l⟩])) = V5 := ⟨_, rfl⟩
              obtain ⟨B5, hB5⟩ : ∃ B5, (66 * k + 1) = B5 := ⟨_, rfl⟩
              rw [hL5, hs5, hV5, hB5] at S2
              rw [hB5] at HB5
              have HEQ := Lib.hid (And.intro hL5 (And.intro hs5 (And.intro hV5 hB5)))
              clear hL5 hs5 hV5 hB5
              by_cases hlt2 : j < 16
              · have hji : (j : Int) < 16 := by omega
                have hj0 : (0 : Int) ≤ (j : Int) := by omega
                obtain ⟨A2, c2, e2, -, -⟩ := nown_form4 (S2.out.there.rows j hlt2).row
                have hc2 := S2.out.there.cell hlt2
                rw [e2, S2.out.len hlt2] at hc2
                obtain ⟨ja, hja⟩ : ∃ ja : Nat, j / 4 = ja := ⟨_, rfl⟩
                obtain ⟨jb, hjb⟩ : ∃ jb : Nat, j % 4 = jb := ⟨_, rfl⟩
                have hkj : keyN j = ((ja : Int), (jb : Int)) := by unfold keyN; rw [hja, hjb]
                have ht : (j : Int).tdiv 4 = (ja : Int) := by rw [Int.tdiv_eq_ediv_of_nonneg hj0]; omega
                have hr : (j : Int).tmod 4 = (jb : Int) := by rw [Int.tmod_eq_emod_of_nonneg hj0]; omega
                have hw1 : IntKind.i64.wrap ((j : Int).tdiv 4) = (ja : Int) := by rw [ht, IntKind.wrap_i64]; omega
                have hw2 : IntKind.i64.wrap (ja : Int) = (ja : Int) := by rw [IntKind.wrap_i64]; omega
                have HC := Lib.hid ((S2.out.step ((Fr.refl NoB wr).drew)).net.count (show InR ((ja : Int), (jb : Int)) from ⟨⟨by simp only; omega, by simp only; omega⟩, by simp only; omega, by simp only; omega⟩))
                rw [hkj] at hc2
                obtain ⟨nb, hnb⟩ : ∃ nb, (bag L5 ((ja : Int), (jb : Int))).length = nb := ⟨_, rfl⟩
                rw [hnb] at hc2 HC
                have HS2 := Lib.hid (fun Z (f : Fr NoB wr Z) => (show Z.cell? ⟨T, j, none⟩ = some (.slice A2 nb c2) from (f.cell (p := ⟨T, j, none⟩) (World.block_lt_of_cell? _ _ hc2) (fun x => x)).trans hc2))
                clear hja hjb hkj e2 hnb
                go_wp2_with (fail)
                go_region_held3 (fun Z => Z.cell? ⟨T, j, none⟩ = some (.slice A2 nb c2)) (first
                  | with_reducible exact HS2.out _ (Fr.refl NoB wr)
                  | with_reducible exact HS2.out _ ((Fr.refl NoB wr).drew)) (first
                  | ((with_reducible refine HC.out.mono ?_); rintro e w2 ⟨rfl, rfl⟩))
                go_wp2_with (fail)
                go_roundw
                case rel =>
                  refine ⟨j + 1, by omega, by go_num, ?_⟩
                  obtain ⟨e1, e2, e3, e4⟩ := HEQ.out
                  rw [e1, e2, e3, e4]
                  exact S2.out.step ((Fr.refl NoB wr).drew)
                case measure => simp [intOf]; omega
              · obtain rfl : j = 16 := by omega
                go_wp2_with (fail)
                go_roundw
                case rel => exact ⟨k + 1, L5, X5, s5, V5, by omega, by go_num, S2.out.le HB5.out⟩
                case measure => simp [intOf]; omega
          · rw [HKEY.out] at hfull
            have HT := Lib.hid (S7.out.net.send HBK.out.2 HKR.out B l d _ _ (HRD.out _ S7.out.net.fr))
            rw [(sendok_false (.inl (Nat.le_of_not_lt hfull))).1, (sendok_false (.inl (Nat.le_of_not_lt hfull))).2] at HT
            go_wp2_with (fail)
            refine HT.out.mono ?_
            rintro e w8 ⟨rfl, n8, f8⟩
            obtain ⟨X5, hX5⟩ : ∃ X5, Y = X5 := ⟨_, rfl⟩
            have S5 := Lib.hid (S7.out.alone n8 f8 (fun _ => rfl))
            have hcl := S5.out.there.cell hK16
            obtain ⟨A3, c3, e3, -, -⟩ := nown_form4 (S5.out.there.rows κ hK16).row
            obtain ⟨nv, hnv⟩ : ∃ nv, (V κ).length = nv := ⟨_, rfl⟩
            rw [e3, hnv] at hcl
            have hnv32 : ¬ (nv : Int) < 32 := by
              have h1 := S5.out.len hK16
              rw [HKEY.out] at h1
              omega
            rw [hX5] at S5
            clear hnv e3 n8 f8 hX5
            go_wp2_with (fail)
            have HB5 := Lib.hid (show (66 * k + 1) ≤ 66 * (k + 1) by omega)
            go_wp2_with (fail)
            go_loopw [15] (fun i W2 => ∃ j : Nat, j ≤ 16 ∧ i = .int .i64 (j : Int) ∧ NS w W2 X5 p ((66 * k + 1)) (L) T (s) (V)) (fun i _ => 16 - (intOf i).toNat)
            case atStart => exact ⟨0, by omega, rfl, S5.out⟩
            case round =>
              obtain ⟨j, hj, rfl, h2⟩ := hrel
              have S2 := Lib.hid h2
              clear h2 S5
              obtain ⟨L5, hL5⟩ : ∃ L5, L = L5 := ⟨_, rfl⟩
              obtain ⟨s5, hs5⟩ : ∃ s5, s = s5 := ⟨_, rfl⟩
              obtain ⟨V5, hV5⟩ : ∃ V5, V = V5 := ⟨_, rfl⟩
              obtain ⟨B5, hB5⟩ : ∃ B5, (66 * k + 1) = B5 := ⟨_, rfl⟩
              rw [hL5, hs5, hV5, hB5] at S2
              rw [hB5] at HB5
              have HEQ := Lib.hid (And.intro hL5 (And.intro hs5 (And.intro hV5 hB5)))
              clear hL5 hs5 hV5 hB5
              by_cases hlt2 : j < 16
              · have hji : (j : Int) < 16 := by omega
                have hj0 : (0 : Int) ≤ (j : Int) := by omega
                obtain ⟨A2, c2, e2, -, -⟩ := nown_form4 (S2.out.there.rows j hlt2).row
                have hc2 := S2.out.there.cell hlt2
                rw [e2, S2.out.len hlt2] at hc2
                obtain ⟨ja, hja⟩ : ∃ ja : Nat, j / 4 = ja := ⟨_, rfl⟩
                obtain ⟨jb, hjb⟩ : ∃ jb : Nat, j % 4 = jb := ⟨_, rfl⟩
                have hkj : keyN j = ((ja : Int), (jb : Int)) := by unfold keyN; rw [hja, hjb]
                have ht : (j : Int).tdiv 4 = (ja : Int) := by rw [Int.tdiv_eq_ediv_of_nonneg hj0]; omega
                have hr : (j : Int).tmod 4 = (jb : Int) := by rw [Int.tmod_eq_emod_of_nonneg hj0]; omega
                have hw1 : IntKind.i64.wrap ((j : Int).tdiv 4) = (ja : Int) := by rw [ht, IntKind.wrap_i64]; omega
                have hw2 : IntKind.i64.wrap (ja : Int) = (ja : Int) := by rw [IntKind.wrap_i64]; omega
                have HC := Lib.hid ((S2.out.step ((Fr.refl NoB wr).drew)).net.count (show InR ((ja : Int), (jb : Int)) from ⟨⟨by simp only; omega, by simp only; omega⟩, by simp only; omega, by simp only; omega⟩))
                rw [hkj] at hc2
                obtain ⟨nb, hnb⟩ : ∃ nb, (bag L5 ((ja : Int), (jb : Int))).length = nb := ⟨_, rfl⟩
                rw [hnb] at hc2 HC
                have HS2 := Lib.hid (fun Z (f : Fr NoB wr Z) => (show Z.cell? ⟨T, j, none⟩ = some (.slice A2 nb c2) from (f.cell (p := ⟨T, j, none⟩) (World.block_lt_of_cell? _ _ hc2) (fun x => x)).trans hc2))
                clear hja hjb hkj e2 hnb
                go_wp2_with (fail)
                go_region_held3 (fun Z => Z.cell? ⟨T, j, none⟩ = some (.slice A2 nb c2)) (first
                  | with_reducible exact HS2.out _ (Fr.refl NoB wr)
                  | with_reducible exact HS2.out _ ((Fr.refl NoB wr).drew)) (first
                  | ((with_reducible refine HC.out.mono ?_); rintro e w2 ⟨rfl, rfl⟩))
                go_wp2_with (fail)
                go_roundw
                case rel =>
                  refine ⟨j + 1, by omega, by go_num, ?_⟩
                  obtain ⟨e1, e2, e3, e4⟩ := HEQ.out
                  rw [e1, e2, e3, e4]
                  exact S2.out.step ((Fr.refl NoB wr).drew)
                case measure => simp [intOf]; omega
              · obtain rfl : j = 16 := by omega
                go_wp2_with (fail)
                go_roundw
                case rel => exact ⟨k + 1, L5, X5, s5, V5, by omega, by go_num, S2.out.le HB5.out⟩
                case measure => simp [intOf]; omega
        · as_aux_lemma =>
          obtain ⟨A3, c3, e3, -, -⟩ := nown_form4 (S7.out.there.rows κ hK16).row
          obtain ⟨nv, hnv⟩ : ∃ nv, (V κ).length = nv := ⟨_, rfl⟩
          have hlen := S7.out.len hK16
          rw [HKEY.out, hnv] at hlen
          have HLEN := Lib.hid hlen
          rw [hnv] at e3
          have HE3 := Lib.hid e3
          have HNV := Lib.hid hnv
          have ORK := Lib.hid (show OR W7 Y (.slice A3 nv c3) (V κ) from by have := S7.out.there.rows κ hK16; rwa [e3] at this)
          have hcl := S7.out.there.cell hK16
          rw [e3] at hcl
          clear e3 hnv hlen
          cases hm : meant L ((fm : Int), (tm : Int)) z with
          | none =>
            have HNO := Lib.hid (meant_none hm)
            have HT := Lib.hid (S7.out.net.takeno HKR.out z (meant_none hm))
            clear hm
            have HPL := Lib.hid (place_calls ORK.out (by have := HLEN.out; have := S7.out.few κ hK16; rw [HKEY.out] at this; rw [HNV.out]; omega) none [] 0 0 0 (Rd.nil _ _ _ _) (by decide))
            go_wp2_with (fail)
            refine HT.out.mono ?_
            rintro e w8 ⟨rfl, rfl⟩
            go_wp2_with (fail)
            refine HPL.out.mono ?_
            rintro e w9 ⟨⟨r, rfl, -⟩, q, rfl⟩
            have S5 := Lib.hid (S7.out.step (((Fr.refl NoB W7).drewN q).drew))
            have g3 : (W7.drewN q).cell? ⟨β, 3, none⟩ = some (.int .i64 z) := hb3
            have gT : (W7.drewN q).cell? ⟨T, κ, none⟩ = some (.slice A3 nv c3) := hcl
            have HS9 := Lib.hid (fun Z (f : Fr NoB (W7.drewN q) Z) => (show Z.cell? ⟨β, 3, none⟩ = some (.int .i64 z) ∧ Z.cell? ⟨T, κ, none⟩ = some (.slice A3 nv c3) from ⟨(f.cell (p := ⟨β, 3, none⟩) (World.block_lt_of_cell? _ _ g3) (fun x => x)).trans g3, (f.cell (p := ⟨T, κ, none⟩) (World.block_lt_of_cell? _ _ gT) (fun x => x)).trans gT⟩))
            go_wp2_with (fail)
            have hzz : z < 0 ∨ (0 ≤ z ∧ ¬ z < (nv : Int)) := by have h1 := HNO.out; have h2 := HLEN.out; omega
            rcases hzz with hzz | ⟨hzz, hz1'⟩
            · have hd0 : decide (z ≥ 0) = false := decide_eq_false (by omega)
              have hd1 : decide (0 ≤ z) = false := decide_eq_false (by omega)
              refine wp_region_held_drew (S := fun Z => Z.cell? ⟨β, 3, none⟩ = some (.int .i64 z) ∧ Z.cell? ⟨T, κ, none⟩ = some (.slice A3 nv c3)) (by kernel_rfl) (HS9.out _ ((Fr.refl NoB (W7.drewN q)).drew)) (fun hHeld => ?_)
              simp only [List.size_toArray, List.length_cons, List.length_nil, Nat.reduceAdd]
              first | (refine wpAnyH_take (i := 0) (v := undef) (by simp only [List.getElem?_toArray, List.getElem?_cons_zero]; rfl) (by kernel_rfl) (by kernel_rfl) (by kernel_rfl) (by exact fun _ _ _ h => h) (Or.inr ⟨by rfl, rfl⟩) (by assumption) ?_) | (refine wpAnyH_take (i := 0) (v := ?_) (by simp only [List.getElem?_toArray, List.getElem?_cons_zero]; rfl) (by kernel_rfl) (by kernel_rfl) (by kernel_rfl) (by exact fun _ _ _ h => h) (Or.inl ⟨by rfl, ?_⟩) (by assumption) ?_; rotate_left; · (intro w hSw; (try dsimp only at hSw); go_simp; (try with_reducible rfl)))
              try simp only [Act.put, List.setIfInBounds_toArray, List.set_cons_zero, List.set_cons_succ]
              first | (refine wpAnyH_take (i := 1) (v := undef) (by simp only [List.getElem?_toArray, List.getElem?_cons_succ, List.getElem?_cons_zero]; rfl) (by kernel_rfl) (by kernel_rfl) (by kernel_rfl) (by exact fun _ _ _ h => h) (Or.inr ⟨by rfl, rfl⟩) (by assumption) ?_) | (refine wpAnyH_take (i := 1) (v := ?_) (by simp only [List.getElem?_toArray, List.getElem?_cons_succ, List.getElem?_cons_zero]; rfl) (by kernel_rfl) (by kernel_rfl) (by kernel_rfl) (by exact fun _ _ _ h => h) (Or.inl ⟨by rfl, ?_⟩) (by assumption) ?_; rotate_left; · (intro w hSw; (try dsimp only at hSw); go_simp; (try with_reducible rfl)))
              try simp only [Act.put, List.setIfInBounds_toArray, List.set_cons_zero, List.set_cons_succ]
              first | (refine wpAnyH_take (i := 2) (v := undef) (by simp only [List.getElem?_toArray, List.getElem?_cons_succ, List.getElem?_cons_zero]; rfl) (by kernel_rfl) (by kernel_rfl) (by kernel_rfl) (by exact fun _ _ _ h => h) (Or.inr ⟨by rfl, rfl⟩) (by assumption) ?_) | (refine wpAnyH_take (i := 2) (v := ?_) (by simp only [List.getElem?_toArray, List.getElem?_cons_succ, List.getElem?_cons_zero]; rfl) (by kernel_rfl) (by kernel_rfl) (by kernel_rfl) (by exact fun _ _ _ h => h) (Or.inl ⟨by rfl, ?_⟩) (by assumption) ?_; rotate_left; · (intro w hSw; (try dsimp only at hSw); go_simp; (try with_reducible rfl)))
              try simp only [Act.put, List.setIfInBounds_toArray, List.set_cons_zero, List.set_cons_succ]
              first | (refine wpAnyH_take (i := 3) (v := undef) (by simp only [List.getElem?_toArray, List.getElem?_cons_succ, List.getElem?_cons_zero]; rfl) (by kernel_rfl) (by kernel_rfl) (by kernel_rfl) (by exact fun _ _ _ h => h) (Or.inr ⟨by rfl, rfl⟩) (by assumption) ?_) | (refine wpAnyH_take (i := 3) (v := ?_) (by simp only [List.getElem?_toArray, List.getElem?_cons_succ, List.getElem?_cons_zero]; rfl) (by kernel_rfl) (by kernel_rfl) (by kernel_rfl) (by exact fun _ _ _ h => h) (Or.inl ⟨by rfl, ?_⟩) (by assumption) ?_; rotate_left; · (intro w hSw; (try dsimp only at hSw); go_simp; (try with_reducible rfl)))
              try simp only [Act.put, List.setIfInBounds_toArray, List.set_cons_zero, List.set_cons_succ]
              first | (refine wpAnyH_take (i := 4) (v := undef) (by simp only [List.getElem?_toArray, List.getElem?_cons_succ, List.getElem?_cons_zero]; rfl) (by kernel_rfl) (by kernel_rfl) (by kernel_rfl) (by exact fun _ _ _ h => h) (Or.inr ⟨by rfl, rfl⟩) (by assumption) ?_) | (refine wpAnyH_take (i := 4) (v := ?_) (by simp only [List.getElem?_toArray, List.getElem?_cons_succ, List.getElem?_cons_zero]; rfl) (by kernel_rfl) (by kernel_rfl) (by kernel_rfl) (by exact fun _ _ _ h => h) (Or.inl ⟨by rfl, ?_⟩) (by assumption) ?_; rotate_left; · (intro w hSw; (try dsimp only at hSw); go_simp; (try with_reducible rfl)))
              try simp only [Act.put, List.setIfInBounds_toArray, List.set_cons_zero, List.set_cons_succ]
              first | (refine wpAnyH_take (i := 5) (v := undef) (by simp only [List.getElem?_toArray, List.getElem?_cons_succ, List.getElem?_cons_zero]; rfl) (by kernel_rfl) (by kernel_rfl) (by kernel_rfl) (by exact fun _ _ _ h => h) (Or.inr ⟨by rfl, rfl⟩) (by assumption) ?_) | (refine wpAnyH_take (i := 5) (v := ?_) (by simp only [List.getElem?_toArray, List.getElem?_cons_succ, List.getElem?_cons_zero]; rfl) (by kernel_rfl) (by kernel_rfl) (by kernel_rfl) (by exact fun _ _ _ h => h) (Or.inl ⟨by rfl, ?_⟩) (by assumption) ?_; rotate_left; · (intro w hSw; (try dsimp only at hSw); go_simp; (try with_reducible rfl)))
              try simp only [Act.put, List.setIfInBounds_toArray, List.set_cons_zero, List.set_cons_succ]
              first | (refine wpAnyH_take (i := 6) (v := undef) (by simp only [List.getElem?_toArray, List.getElem?_cons_succ, List.getElem?_cons_zero]; rfl) (by kernel_rfl) (by kernel_rfl) (by kernel_rfl) (by exact fun _ _ _ h => h) (Or.inr ⟨by rfl, rfl⟩) (by assumption) ?_) | (refine wpAnyH_take (i := 6) (v := ?_) (by simp only [List.getElem?_toArray, List.getElem?_cons_succ, List.getElem?_cons_zero]; rfl) (by kernel_rfl) (by kernel_rfl) (by kernel_rfl) (by exact fun _ _ _ h => h) (Or.inl ⟨by rfl, ?_⟩) (by assumption) ?_; rotate_left; · (intro w hSw; (try dsimp only at hSw); go_simp; (try with_reducible rfl)))
              try simp only [Act.put, List.setIfInBounds_toArray, List.set_cons_zero, List.set_cons_succ]
              first | (refine wpAnyH_take (i := 7) (v := undef) (by simp only [List.getElem?_toArray, List.getElem?_cons_succ, List.getElem?_cons_zero]; rfl) (by kernel_rfl) (by kernel_rfl) (by kernel_rfl) (by exact fun _ _ _ h => h) (Or.inr ⟨by rfl, rfl⟩) (by assumption) ?_) | (refine wpAnyH_take (i := 7) (v := ?_) (by simp only [List.getElem?_toArray, List.getElem?_cons_succ, List.getElem?_cons_zero]; rfl) (by kernel_rfl) (by kernel_rfl) (by kernel_rfl) (by exact fun _ _ _ h => h) (Or.inl ⟨by rfl, ?_⟩) (by assumption) ?_; rotate_left; · (intro w hSw; (try dsimp only at hSw); go_simp; (try with_reducible rfl)))
              try simp only [Act.put, List.setIfInBounds_toArray, List.set_cons_zero, List.set_cons_succ]
              first | (refine wpAnyH_take (i := 8) (v := undef) (by simp only [List.getElem?_toArray, List.getElem?_cons_succ, List.getElem?_cons_zero]; rfl) (by kernel_rfl) (by kernel_rfl) (by kernel_rfl) (by exact fun _ _ _ h => h) (Or.inr ⟨by rfl, rfl⟩) (by assumption) ?_) | (refine wpAnyH_take (i := 8) (v := ?_) (by simp only [List.getElem?_toArray, List.getElem?_cons_succ, List.getElem?_cons_zero]; rfl) (by kernel_rfl) (by kernel_rfl) (by kernel_rfl) (by exact fun _ _ _ h => h) (Or.inl ⟨by rfl, ?_⟩) (by assumption) ?_; rotate_left; · (intro w hSw; (try dsimp only at hSw); go_simp; (try with_reducible rfl)))
              try simp only [Act.put, List.setIfInBounds_toArray, List.set_cons_zero, List.set_cons_succ]
              first | (refine wpAnyH_take (i := 9) (v := undef) (by simp only [List.getElem?_toArray, List.getElem?_cons_succ, List.getElem?_cons_zero]; rfl) (by kernel_rfl) (by kernel_rfl) (by kernel_rfl) (by exact fun _ _ _ h => h) (Or.inr ⟨by rfl, rfl⟩) (by assumption) ?_) | (refine wpAnyH_take (i := 9) (v := ?_) (by simp only [List.getElem?_toArray, List.getElem?_cons_succ, List.getElem?_cons_zero]; rfl) (by kernel_rfl) (by kernel_rfl) (by kernel_rfl) (by exact fun _ _ _ h => h) (Or.inl ⟨by rfl, ?_⟩) (by assumption) ?_; rotate_left; · (intro w hSw; (try dsimp only at hSw); go_simp; (try with_reducible rfl)))
              try simp only [Act.put, List.setIfInBounds_toArray, List.set_cons_zero, List.set_cons_succ]
              first | (refine wpAnyH_take (i := 10) (v := undef) (by simp only [List.getElem?_toArray, List.getElem?_cons_succ, List.getElem?_cons_zero]; rfl) (by kernel_rfl) (by kernel_rfl) (by kernel_rfl) (by exact fun _ _ _ h => h) (Or.inr ⟨by rfl, rfl⟩) (by assumption) ?_) | (refine wpAnyH_take (i := 10) (v := ?_) (by simp only [List.getElem?_toArray, List.getElem?_cons_succ, List.getElem?_cons_zero]; rfl) (by kernel_rfl) (by kernel_rfl) (by kernel_rfl) (by exact fun _ _ _ h => h) (Or.inl ⟨by rfl, ?_⟩) (by assumption) ?_; rotate_left; · (intro w hSw; (try dsimp only at hSw); go_simp; (try with_reducible rfl)))
              try simp only [Act.put, List.setIfInBounds_toArray, List.set_cons_zero, List.set_cons_succ]
              first | (refine wpAnyH_take (i := 11) (v := undef) (by simp only [List.getElem?_toArray, List.getElem?_cons_succ, List.getElem?_cons_zero]; rfl) (by kernel_rfl) (by kernel_rfl) (by kernel_rfl) (by exact fun _ _ _ h => h) (Or.inr ⟨by rfl, rfl⟩) (by assumption) ?_) | (refine wpAnyH_take (i := 11) (v := ?_) (by simp only [List.getElem?_toArray, List.getElem?_cons_succ, List.getElem?_cons_zero]; rfl) (by kernel_rfl) (by kernel_rfl) (by kernel_rfl) (by exact fun _ _ _ h => h) (Or.inl ⟨by rfl, ?_⟩) (by assumption) ?_; rotate_left; · (intro w hSw; (try dsimp only at hSw); go_simp; (try with_reducible rfl)))
              try simp only [Act.put, List.setIfInBounds_toArray, List.set_cons_zero, List.set_cons_succ]
              first | (refine wpAnyH_take (i := 12) (v := undef) (by simp only [List.getElem?_toArray, List.getElem?_cons_succ, List.getElem?_cons_zero]; rfl) (by kernel_rfl) (by kernel_rfl) (by kernel_rfl) (by exact fun _ _ _ h => h) (Or.inr ⟨by rfl, rfl⟩) (by assumption) ?_) | (refine wpAnyH_take (i := 12) (v := ?_) (by simp only [List.getElem?_toArray, List.getElem?_cons_succ, List.getElem?_cons_zero]; rfl) (by kernel_rfl) (by kernel_rfl) (by kernel_rfl) (by exact fun _ _ _ h => h) (Or.inl ⟨by rfl, ?_⟩) (by assumption) ?_; rotate_left; · (intro w hSw; (try dsimp only at hSw); go_simp; (try with_reducible rfl)))
              try simp only [Act.put, List.setIfInBounds_toArray, List.set_cons_zero, List.set_cons_succ]
              first | (refine wpAnyH_take (i := 13) (v := undef) (by simp only [List.getElem?_toArray, List.getElem?_cons_succ, List.getElem?_cons_zero]; rfl) (by kernel_rfl) (by kernel_rfl) (by kernel_rfl) (by exact fun _ _ _ h => h) (Or.inr ⟨by rfl, rfl⟩) (by assumption) ?_) | (refine wpAnyH_take (i := 13) (v := ?_) (by simp only [List.getElem?_toArray, List.getElem?_cons_succ, List.getElem?_cons_zero]; rfl) (by kernel_rfl) (by kernel_rfl) (by kernel_rfl) (by exact fun _ _ _ h => h) (Or.inl ⟨by rfl, ?_⟩) (by assumption) ?_; rotate_left; · (intro w hSw; (try dsimp only at hSw); go_simp; (try with_reducible rfl)))
              try simp only [Act.put, List.setIfInBounds_toArray, List.set_cons_zero, List.set_cons_succ]
              first | (refine wpAnyH_take (i := 14) (v := undef) (by simp only [List.getElem?_toArray, List.getElem?_cons_succ, List.getElem?_cons_zero]; rfl) (by kernel_rfl) (by kernel_rfl) (by kernel_rfl) (by exact fun _ _ _ h => h) (Or.inr ⟨by rfl, rfl⟩) (by assumption) ?_) | (refine wpAnyH_take (i := 14) (v := ?_) (by simp only [List.getElem?_toArray, List.getElem?_cons_succ, List.getElem?_cons_zero]; rfl) (by kernel_rfl) (by kernel_rfl) (by kernel_rfl) (by exact fun _ _ _ h => h) (Or.inl ⟨by rfl, ?_⟩) (by assumption) ?_; rotate_left; · (intro w hSw; (try dsimp only at hSw); go_simp; (try with_reducible rfl)))
              try simp only [Act.put, List.setIfInBounds_toArray, List.set_cons_zero, List.set_cons_succ]
              first | (refine wpAnyH_take (i := 15) (v := undef) (by simp only [List.getElem?_toArray, List.getElem?_cons_succ, List.getElem?_cons_zero]; rfl) (by kernel_rfl) (by kernel_rfl) (by kernel_rfl) (by exact fun _ _ _ h => h) (Or.inr ⟨by rfl, rfl⟩) (by assumption) ?_) | (refine wpAnyH_take (i := 15) (v := ?_) (by simp only [List.getElem?_toArray, List.getElem?_cons_succ, List.getElem?_cons_zero]; rfl) (by kernel_rfl) (by kernel_rfl) (by kernel_rfl) (by exact fun _ _ _ h => h) (Or.inl ⟨by rfl, ?_⟩) (by assumption) ?_; rotate_left; · (intro w hSw; (try dsimp only at hSw); go_simp; (try with_reducible rfl)))
              try simp only [Act.put, List.setIfInBounds_toArray, List.set_cons_zero, List.set_cons_succ]
              first | (refine wpAnyH_take (i := 16) (v := undef) (by simp only [List.getElem?_toArray, List.getElem?_cons_succ, List.getElem?_cons_zero]; rfl) (by kernel_rfl) (by kernel_rfl) (by kernel_rfl) (by exact fun _ _ _ h => h) (Or.inr ⟨by rfl, rfl⟩) (by assumption) ?_) | (refine wpAnyH_take (i := 16) (v := ?_) (by simp only [List.getElem?_toArray, List.getElem?_cons_succ, List.getElem?_cons_zero]; rfl) (by kernel_rfl) (by kernel_rfl) (by kernel_rfl) (by exact fun _ _ _ h => h) (Or.inl ⟨by rfl, ?_⟩) (by assumption) ?_; rotate_left; · (intro w hSw; (try dsimp only at hSw); go_simp; (try with_reducible rfl)))
              try simp only [Act.put, List.setIfInBounds_toArray, List.set_cons_zero, List.set_cons_succ]
              first | (refine wpAnyH_take (i := 17) (v := undef) (by simp only [List.getElem?_toArray, List.getElem?_cons_succ, List.getElem?_cons_zero]; rfl) (by kernel_rfl) (by kernel_rfl) (by kernel_rfl) (by exact fun _ _ _ h => h) (Or.inr ⟨by rfl, rfl⟩) (by assumption) ?_) | (refine wpAnyH_take (i := 17) (v := ?_) (by simp only [List.getElem?_toArray, List.getElem?_cons_succ, List.getElem?_cons_zero]; rfl) (by kernel_rfl) (by kernel_rfl) (by kernel_rfl) (by exact fun _ _ _ h => h) (Or.inl ⟨by rfl, ?_⟩) (by assumption) ?_; rotate_left; · (intro w hSw; (try dsimp only at hSw); go_simp; (try with_reducible rfl)))
              try simp only [Act.put, List.setIfInBounds_toArray, List.set_cons_zero, List.set_cons_succ]
              first | (refine wpAnyH_take (i := 18) (v := undef) (by simp only [List.getElem?_toArray, List.getElem?_cons_succ, List.getElem?_cons_zero]; rfl) (by kernel_rfl) (by kernel_rfl) (by kernel_rfl) (by exact fun _ _ _ h => h) (Or.inr ⟨by rfl, rfl⟩) (by assumption) ?_) | (refine wpAnyH_take (i := 18) (v := ?_) (by simp only [List.getElem?_toArray, List.getElem?_cons_succ, List.getElem?_cons_zero]; rfl) (by kernel_rfl) (by kernel_rfl) (by kernel_rfl) (by exact fun _ _ _ h => h) (Or.inl ⟨by rfl, ?_⟩) (by assumption) ?_; rotate_left; · (intro w hSw; (try dsimp only at hSw); go_simp; (try with_reducible rfl)))
              try simp only [Act.put, List.setIfInBounds_toArray, List.set_cons_zero, List.set_cons_succ]
              first | (refine wpAnyH_take (i := 19) (v := undef) (by simp only [List.getElem?_toArray, List.getElem?_cons_succ, List.getElem?_cons_zero]; rfl) (by kernel_rfl) (by kernel_rfl) (by kernel_rfl) (by exact fun _ _ _ h => h) (Or.inr ⟨by rfl, rfl⟩) (by assumption) ?_) | (refine wpAnyH_take (i := 19) (v := ?_) (by simp only [List.getElem?_toArray, List.getElem?_cons_succ, List.getElem?_cons_zero]; rfl) (by kernel_rfl) (by kernel_rfl) (by kernel_rfl) (by exact fun _ _ _ h => h) (Or.inl ⟨by rfl, ?_⟩) (by assumption) ?_; rotate_left; · (intro w hSw; (try dsimp only at hSw); go_simp; (try with_reducible rfl)))
              try simp only [Act.put, List.setIfInBounds_toArray, List.set_cons_zero, List.set_cons_succ]
              first | (refine wpAnyH_take (i := 20) (v := undef) (by simp only [List.getElem?_toArray, List.getElem?_cons_succ, List.getElem?_cons_zero]; rfl) (by kernel_rfl) (by kernel_rfl) (by kernel_rfl) (by exact fun _ _ _ h => h) (Or.inr ⟨by rfl, rfl⟩) (by assumption) ?_) | (refine wpAnyH_take (i := 20) (v := ?_) (by simp only [List.getElem?_toArray, List.getElem?_cons_succ, List.getElem?_cons_zero]; rfl) (by kernel_rfl) (by kernel_rfl) (by kernel_rfl) (by exact fun _ _ _ h => h) (Or.inl ⟨by rfl, ?_⟩) (by assumption) ?_; rotate_left; · (intro w hSw; (try dsimp only at hSw); go_simp; (try with_reducible rfl)))
              try simp only [Act.put, List.setIfInBounds_toArray, List.set_cons_zero, List.set_cons_succ]
              refine wpAnyH_done (by kernel_rfl) ?_ _
              obtain ⟨X5, hX5⟩ : ∃ X5, Y = X5 := ⟨_, rfl⟩
              rw [hX5] at S5
              clear hX5
              go_wp2_with (fail)
              have HB5 := Lib.hid (show (66 * k) ≤ 66 * (k + 1) by omega)
              go_wp2_with (fail)
              go_loopw [15] (fun i W2 => ∃ j : Nat, j ≤ 16 ∧ i = .int .i64 (j : Int) ∧ NS w W2 X5 p ((66 * k)) (L) T (s) (V)) (fun i _ => 16 - (intOf i).toNat)
              case atStart => exact ⟨0, by omega, rfl, S5.out⟩
              case round =>
                obtain ⟨j, hj, rfl, h2⟩ := hrel
                have S2 := Lib.hid h2
                clear h2 S5
                obtain ⟨L5, hL5⟩ : ∃ L5, L = L5 := ⟨_, rfl⟩
                obtain ⟨s5, hs5⟩ : ∃ s5, s = s5 := ⟨_, rfl⟩
                obtain ⟨V5, hV5⟩ : ∃ V5, V = V5 := ⟨_, rfl⟩
                obtain ⟨B5, hB5⟩ : ∃ B5, (66 * k) = B5 := ⟨_, rfl⟩
                rw [hL5, hs5, hV5, hB5] at S2
                rw [hB5] at HB5
                have HEQ := Lib.hid (And.intro hL5 (And.intro hs5 (And.intro hV5 hB5)))
                clear hL5 hs5 hV5 hB5
                by_cases hlt2 : j < 16
                · have hji : (j : Int) < 16 := by omega
                  have hj0 : (0 : Int) ≤ (j : Int) := by omega
                  obtain ⟨A2, c2, e2, -, -⟩ := nown_form4 (S2.out.there.rows j hlt2).row
                  have hc2 := S2.out.there.cell hlt2
                  rw [e2, S2.out.len hlt2] at hc2
                  obtain ⟨ja, hja⟩ : ∃ ja : Nat, j / 4 = ja := ⟨_, rfl⟩
                  obtain ⟨jb, hjb⟩ : ∃ jb : Nat, j % 4 = jb := ⟨_, rfl⟩
                  have hkj : keyN j = ((ja : Int), (jb : Int)) := by unfold keyN; rw [hja, hjb]
                  have ht : (j : Int).tdiv 4 = (ja : Int) := by rw [Int.tdiv_eq_ediv_of_nonneg hj0]; omega
                  have hr : (j : Int).tmod 4 = (jb : Int) := by rw [Int.tmod_eq_emod_of_nonneg hj0]; omega
                  have hw1 : IntKind.i64.wrap ((j : Int).tdiv 4) = (ja : Int) := by rw [ht, IntKind.wrap_i64]; omega
                  have hw2 : IntKind.i64.wrap (ja : Int) = (ja : Int) := by rw [IntKind.wrap_i64]; omega
                  have HC := Lib.hid ((S2.out.step ((Fr.refl NoB wr).drew)).net.count (show InR ((ja : Int), (jb : Int)) from ⟨⟨by simp only; omega, by simp only; omega⟩, by simp only; omega, by simp only; omega⟩))
                  rw [hkj] at hc2
                  obtain ⟨nb, hnb⟩ : ∃ nb, (bag L5 ((ja : Int), (jb : Int))).length = nb := ⟨_, rfl⟩
                  rw [hnb] at hc2 HC
                  have HS2 := Lib.hid (fun Z (f : Fr NoB wr Z) => (show Z.cell? ⟨T, j, none⟩ = some (.slice A2 nb c2) from (f.cell (p := ⟨T, j, none⟩) (World.block_lt_of_cell? _ _ hc2) (fun x => x)).trans hc2))
                  clear hja hjb hkj e2 hnb
                  go_wp2_with (fail)
                  go_region_held3 (fun Z => Z.cell? ⟨T, j, none⟩ = some (.slice A2 nb c2)) (first
                    | with_reducible exact HS2.out _ (Fr.refl NoB wr)
                    | with_reducible exact HS2.out _ ((Fr.refl NoB wr).drew)) (first
                    | ((with_reducible refine HC.out.mono ?_); rintro e w2 ⟨rfl, rfl⟩))
                  go_wp2_with (fail)
                  go_roundw
                  case rel =>
                    refine ⟨j + 1, by omega, by go_num, ?_⟩
                    obtain ⟨e1, e2, e3, e4⟩ := HEQ.out
                    rw [e1, e2, e3, e4]
                    exact S2.out.step ((Fr.refl NoB wr).drew)
                  case measure => simp [intOf]; omega
                · obtain rfl : j = 16 := by omega
                  go_wp2_with (fail)
                  go_roundw
                  case rel => exact ⟨k + 1, L5, X5, s5, V5, by omega, by go_num, S2.out.le HB5.out⟩
                  case measure => simp [intOf]; omega
            · have hd0 : decide (z ≥ 0) = true := decide_eq_true hzz
              have hd1 : decide (0 ≤ z) = true := decide_eq_true hzz
              have hd2 : decide (z < (nv : Int)) = false := decide_eq_false hz1'
              refine wp_region_held_drew (S := fun Z => Z.cell? ⟨β, 3, none⟩ = some (.int .i64 z) ∧ Z.cell? ⟨T, κ, none⟩ = some (.slice A3 nv c3)) (by kernel_rfl) (HS9.out _ ((Fr.refl NoB (W7.drewN q)).drew)) (fun hHeld => ?_)
              simp only [List.size_toArray, List.length_cons, List.length_nil, Nat.reduceAdd]
              first | (refine wpAnyH_take (i := 0) (v := undef) (by simp only [List.getElem?_toArray, List.getElem?_cons_zero]; rfl) (by kernel_rfl) (by kernel_rfl) (by kernel_rfl) (by exact fun _ _ _ h => h) (Or.inr ⟨by rfl, rfl⟩) (by assumption) ?_) | (refine wpAnyH_take (i := 0) (v := ?_) (by simp only [List.getElem?_toArray, List.getElem?_cons_zero]; rfl) (by kernel_rfl) (by kernel_rfl) (by kernel_rfl) (by exact fun _ _ _ h => h) (Or.inl ⟨by rfl, ?_⟩) (by assumption) ?_; rotate_left; · (intro w hSw; (try dsimp only at hSw); go_simp; (try with_reducible rfl)))
              try simp only [Act.put, List.setIfInBounds_toArray, List.set_cons_zero, List.set_cons_succ]
              first | (refine wpAnyH_take (i := 1) (v := undef) (by simp only [List.getElem?_toArray, List.getElem?_cons_succ, List.getElem?_cons_zero]; rfl) (by kernel_rfl) (by kernel_rfl) (by kernel_rfl) (by exact fun _ _ _ h => h) (Or.inr ⟨by rfl, rfl⟩) (by assumption) ?_) | (refine wpAnyH_take (i := 1) (v := ?_) (by simp only [List.getElem?_toArray, List.getElem?_cons_succ, List.getElem?_cons_zero]; rfl) (by kernel_rfl) (by kernel_rfl) (by kernel_rfl) (by exact fun _ _ _ h => h) (Or.inl ⟨by rfl, ?_⟩) (by assumption) ?_; rotate_left; · (intro w hSw; (try dsimp only at hSw); go_simp; (try with_reducible rfl)))
              try simp only [Act.put, List.setIfInBounds_toArray, List.set_cons_zero, List.set_cons_succ]
              first | (refine wpAnyH_take (i := 2) (v := undef) (by simp only [List.getElem?_toArray, List.getElem?_cons_succ, List.getElem?_cons_zero]; rfl) (by kernel_rfl) (by kernel_rfl) (by kernel_rfl) (by exact fun _ _ _ h => h) (Or.inr ⟨by rfl, rfl⟩) (by assumption) ?_) | (refine wpAnyH_take (i := 2) (v := ?_) (by simp only [List.getElem?_toArray, List.getElem?_cons_succ, List.getElem?_cons_zero]; rfl) (by kernel_rfl) (by kernel_rfl) (by kernel_rfl) (by exact fun _ _ _ h => h) (Or.inl ⟨by rfl, ?_⟩) (by assumption) ?_; rotate_left; · (intro w hSw; (try dsimp only at hSw); go_simp; (try with_reducible rfl)))
              try simp only [Act.put, List.setIfInBounds_toArray, List.set_cons_zero, List.set_cons_succ]
              first | (refine wpAnyH_take (i := 3) (v := undef) (by simp only [List.getElem?_toArray, List.getElem?_cons_succ, List.getElem?_cons_zero]; rfl) (by kernel_rfl) (by kernel_rfl) (by kernel_rfl) (by exact fun _ _ _ h => h) (Or.inr ⟨by rfl, rfl⟩) (by assumption) ?_) | (refine wpAnyH_take (i := 3) (v := ?_) (by simp only [List.getElem?_toArray, List.getElem?_cons_succ, List.getElem?_cons_zero]; rfl) (by kernel_rfl) (by kernel_rfl) (by kernel_rfl) (by exact fun _ _ _ h => h) (Or.inl ⟨by rfl, ?_⟩) (by assumption) ?_; rotate_left; · (intro w hSw; (try dsimp only at hSw); go_simp; (try with_reducible rfl)))
              try simp only [Act.put, List.setIfInBounds_toArray, List.set_cons_zero, List.set_cons_succ]
              first | (refine wpAnyH_take (i := 4) (v := undef) (by simp only [List.getElem?_toArray, List.getElem?_cons_succ, List.getElem?_cons_zero]; rfl) (by kernel_rfl) (by kernel_rfl) (by kernel_rfl) (by exact fun _ _ _ h => h) (Or.inr ⟨by rfl, rfl⟩) (by assumption) ?_) | (refine wpAnyH_take (i := 4) (v := ?_) (by simp only [List.getElem?_toArray, List.getElem?_cons_succ, List.getElem?_cons_zero]; rfl) (by kernel_rfl) (by kernel_rfl) (by kernel_rfl) (by exact fun _ _ _ h => h) (Or.inl ⟨by rfl, ?_⟩) (by assumption) ?_; rotate_left; · (intro w hSw; (try dsimp only at hSw); go_simp; (try with_reducible rfl)))
              try simp only [Act.put, List.setIfInBounds_toArray, List.set_cons_zero, List.set_cons_succ]
              first | (refine wpAnyH_take (i := 5) (v := undef) (by simp only [List.getElem?_toArray, List.getElem?_cons_succ, List.getElem?_cons_zero]; rfl) (by kernel_rfl) (by kernel_rfl) (by kernel_rfl) (by exact fun _ _ _ h => h) (Or.inr ⟨by rfl, rfl⟩) (by assumption) ?_) | (refine wpAnyH_take (i := 5) (v := ?_) (by simp only [List.getElem?_toArray, List.getElem?_cons_succ, List.getElem?_cons_zero]; rfl) (by kernel_rfl) (by kernel_rfl) (by kernel_rfl) (by exact fun _ _ _ h => h) (Or.inl ⟨by rfl, ?_⟩) (by assumption) ?_; rotate_left; · (intro w hSw; (try dsimp only at hSw); go_simp; (try with_reducible rfl)))
              try simp only [Act.put, List.setIfInBounds_toArray, List.set_cons_zero, List.set_cons_succ]
              first | (refine wpAnyH_take (i := 6) (v := undef) (by simp only [List.getElem?_toArray, List.getElem?_cons_succ, List.getElem?_cons_zero]; rfl) (by kernel_rfl) (by kernel_rfl) (by kernel_rfl) (by exact fun _ _ _ h => h) (Or.inr ⟨by rfl, rfl⟩) (by assumption) ?_) | (refine wpAnyH_take (i := 6) (v := ?_) (by simp only [List.getElem?_toArray, List.getElem?_cons_succ, List.getElem?_cons_zero]; rfl) (by kernel_rfl) (by kernel_rfl) (by kernel_rfl) (by exact fun _ _ _ h => h) (Or.inl ⟨by rfl, ?_⟩) (by assumption) ?_; rotate_left; · (intro w hSw; (try dsimp only at hSw); go_simp; (try with_reducible rfl)))
              try simp only [Act.put, List.setIfInBounds_toArray, List.set_cons_zero, List.set_cons_succ]
              first | (refine wpAnyH_take (i := 7) (v := undef) (by simp only [List.getElem?_toArray, List.getElem?_cons_succ, List.getElem?_cons_zero]; rfl) (by kernel_rfl) (by kernel_rfl) (by kernel_rfl) (by exact fun _ _ _ h => h) (Or.inr ⟨by rfl, rfl⟩) (by assumption) ?_) | (refine wpAnyH_take (i := 7) (v := ?_) (by simp only [List.getElem?_toArray, List.getElem?_cons_succ, List.getElem?_cons_zero]; rfl) (by kernel_rfl) (by kernel_rfl) (by kernel_rfl) (by exact fun _ _ _ h => h) (Or.inl ⟨by rfl, ?_⟩) (by assumption) ?_; rotate_left; · (intro w hSw; (try dsimp only at hSw); go_simp; (try with_reducible rfl)))
              try simp only [Act.put, List.setIfInBounds_toArray, List.set_cons_zero, List.set_cons_succ]
              first | (refine wpAnyH_take (i := 8) (v := undef) (by simp only [List.getElem?_toArray, List.getElem?_cons_succ, List.getElem?_cons_zero]; rfl) (by kernel_rfl) (by kernel_rfl) (by kernel_rfl) (by exact fun _ _ _ h => h) (Or.inr ⟨by rfl, rfl⟩) (by assumption) ?_) | (refine wpAnyH_take (i := 8) (v := ?_) (by simp only [List.getElem?_toArray, List.getElem?_cons_succ, List.getElem?_cons_zero]; rfl) (by kernel_rfl) (by kernel_rfl) (by kernel_rfl) (by exact fun _ _ _ h => h) (Or.inl ⟨by rfl, ?_⟩) (by assumption) ?_; rotate_left; · (intro w hSw; (try dsimp only at hSw); go_simp; (try with_reducible rfl)))
              try simp only [Act.put, List.setIfInBounds_toArray, List.set_cons_zero, List.set_cons_succ]
              first | (refine wpAnyH_take (i := 9) (v := undef) (by simp only [List.getElem?_toArray, List.getElem?_cons_succ, List.getElem?_cons_zero]; rfl) (by kernel_rfl) (by kernel_rfl) (by kernel_rfl) (by exact fun _ _ _ h => h) (Or.inr ⟨by rfl, rfl⟩) (by assumption) ?_) | (refine wpAnyH_take (i := 9) (v := ?_) (by simp only [List.getElem?_toArray, List.getElem?_cons_succ, List.getElem?_cons_zero]; rfl) (by kernel_rfl) (by kernel_rfl) (by kernel_rfl) (by exact fun _ _ _ h => h) (Or.inl ⟨by rfl, ?_⟩) (by assumption) ?_; rotate_left; · (intro w hSw; (try dsimp only at hSw); go_simp; (try with_reducible rfl)))
              try simp only [Act.put, List.setIfInBounds_toArray, List.set_cons_zero, List.set_cons_succ]
              first | (refine wpAnyH_take (i := 10) (v := undef) (by simp only [List.getElem?_toArray, List.getElem?_cons_succ, List.getElem?_cons_zero]; rfl) (by kernel_rfl) (by kernel_rfl) (by kernel_rfl) (by exact fun _ _ _ h => h) (Or.inr ⟨by rfl, rfl⟩) (by assumption) ?_) | (refine wpAnyH_take (i := 10) (v := ?_) (by simp only [List.getElem?_toArray, List.getElem?_cons_succ, List.getElem?_cons_zero]; rfl) (by kernel_rfl) (by kernel_rfl) (by kernel_rfl) (by exact fun _ _ _ h => h) (Or.inl ⟨by rfl, ?_⟩) (by assumption) ?_; rotate_left; · (intro w hSw; (try dsimp only at hSw); go_simp; (try with_reducible rfl)))
              try simp only [Act.put, List.setIfInBounds_toArray, List.set_cons_zero, List.set_cons_succ]
              first | (refine wpAnyH_take (i := 11) (v := undef) (by simp only [List.getElem?_toArray, List.getElem?_cons_succ, List.getElem?_cons_zero]; rfl) (by kernel_rfl) (by kernel_rfl) (by kernel_rfl) (by exact fun _ _ _ h => h) (Or.inr ⟨by rfl, rfl⟩) (by assumption) ?_) | (refine wpAnyH_take (i := 11) (v := ?_) (by simp only [List.getElem?_toArray, List.getElem?_cons_succ, List.getElem?_cons_zero]; rfl) (by kernel_rfl) (by kernel_rfl) (by kernel_rfl) (by exact fun _ _ _ h => h) (Or.inl ⟨by rfl, ?_⟩) (by assumption) ?_; rotate_left; · (intro w hSw; (try dsimp only at hSw); go_simp; (try with_reducible rfl)))
              try simp only [Act.put, List.setIfInBounds_toArray, List.set_cons_zero, List.set_cons_succ]
              first | (refine wpAnyH_take (i := 12) (v := undef) (by simp only [List.getElem?_toArray, List.getElem?_cons_succ, List.getElem?_cons_zero]; rfl) (by kernel_rfl) (by kernel_rfl) (by kernel_rfl) (by exact fun _ _ _ h => h) (Or.inr ⟨by rfl, rfl⟩) (by assumption) ?_) | (refine wpAnyH_take (i := 12) (v := ?_) (by simp only [List.getElem?_toArray, List.getElem?_cons_succ, List.getElem?_cons_zero]; rfl) (by kernel_rfl) (by kernel_rfl) (by kernel_rfl) (by exact fun _ _ _ h => h) (Or.inl ⟨by rfl, ?_⟩) (by assumption) ?_; rotate_left; · (intro w hSw; (try dsimp only at hSw); go_simp; (try with_reducible rfl)))
              try simp only [Act.put, List.setIfInBounds_toArray, List.set_cons_zero, List.set_cons_succ]
              first | (refine wpAnyH_take (i := 13) (v := undef) (by simp only [List.getElem?_toArray, List.getElem?_cons_succ, List.getElem?_cons_zero]; rfl) (by kernel_rfl) (by kernel_rfl) (by kernel_rfl) (by exact fun _ _ _ h => h) (Or.inr ⟨by rfl, rfl⟩) (by assumption) ?_) | (refine wpAnyH_take (i := 13) (v := ?_) (by simp only [List.getElem?_toArray, List.getElem?_cons_succ, List.getElem?_cons_zero]; rfl) (by kernel_rfl) (by kernel_rfl) (by kernel_rfl) (by exact fun _ _ _ h => h) (Or.inl ⟨by rfl, ?_⟩) (by assumption) ?_; rotate_left; · (intro w hSw; (try dsimp only at hSw); go_simp; (try with_reducible rfl)))
              try simp only [Act.put, List.setIfInBounds_toArray, List.set_cons_zero, List.set_cons_succ]
              first | (refine wpAnyH_take (i := 14) (v := undef) (by simp only [List.getElem?_toArray, List.getElem?_cons_succ, List.getElem?_cons_zero]; rfl) (by kernel_rfl) (by kernel_rfl) (by kernel_rfl) (by exact fun _ _ _ h => h) (Or.inr ⟨by rfl, rfl⟩) (by assumption) ?_) | (refine wpAnyH_take (i := 14) (v := ?_) (by simp only [List.getElem?_toArray, List.getElem?_cons_succ, List.getElem?_cons_zero]; rfl) (by kernel_rfl) (by kernel_rfl) (by kernel_rfl) (by exact fun _ _ _ h => h) (Or.inl ⟨by rfl, ?_⟩) (by assumption) ?_; rotate_left; · (intro w hSw; (try dsimp only at hSw); go_simp; (try with_reducible rfl)))
              try simp only [Act.put, List.setIfInBounds_toArray, List.set_cons_zero, List.set_cons_succ]
              first | (refine wpAnyH_take (i := 15) (v := undef) (by simp only [List.getElem?_toArray, List.getElem?_cons_succ, List.getElem?_cons_zero]; rfl) (by kernel_rfl) (by kernel_rfl) (by kernel_rfl) (by exact fun _ _ _ h => h) (Or.inr ⟨by rfl, rfl⟩) (by assumption) ?_) | (refine wpAnyH_take (i := 15) (v := ?_) (by simp only [List.getElem?_toArray, List.getElem?_cons_succ, List.getElem?_cons_zero]; rfl) (by kernel_rfl) (by kernel_rfl) (by kernel_rfl) (by exact fun _ _ _ h => h) (Or.inl ⟨by rfl, ?_⟩) (by assumption) ?_; rotate_left; · (intro w hSw; (try dsimp only at hSw); go_simp; (try with_reducible rfl)))
              try simp only [Act.put, List.setIfInBounds_toArray, List.set_cons_zero, List.set_cons_succ]
              first | (refine wpAnyH_take (i := 16) (v := undef) (by simp only [List.getElem?_toArray, List.getElem?_cons_succ, List.getElem?_cons_zero]; rfl) (by kernel_rfl) (by kernel_rfl) (by kernel_rfl) (by exact fun _ _ _ h => h) (Or.inr ⟨by rfl, rfl⟩) (by assumption) ?_) | (refine wpAnyH_take (i := 16) (v := ?_) (by simp only [List.getElem?_toArray, List.getElem?_cons_succ, List.getElem?_cons_zero]; rfl) (by kernel_rfl) (by kernel_rfl) (by kernel_rfl) (by exact fun _ _ _ h => h) (Or.inl ⟨by rfl, ?_⟩) (by assumption) ?_; rotate_left; · (intro w hSw; (try dsimp only at hSw); go_simp; (try with_reducible rfl)))
              try simp only [Act.put, List.setIfInBounds_toArray, List.set_cons_zero, List.set_cons_succ]
              first | (refine wpAnyH_take (i := 17) (v := undef) (by simp only [List.getElem?_toArray, List.getElem?_cons_succ, List.getElem?_cons_zero]; rfl) (by kernel_rfl) (by kernel_rfl) (by kernel_rfl) (by exact fun _ _ _ h => h) (Or.inr ⟨by rfl, rfl⟩) (by assumption) ?_) | (refine wpAnyH_take (i := 17) (v := ?_) (by simp only [List.getElem?_toArray, List.getElem?_cons_succ, List.getElem?_cons_zero]; rfl) (by kernel_rfl) (by kernel_rfl) (by kernel_rfl) (by exact fun _ _ _ h => h) (Or.inl ⟨by rfl, ?_⟩) (by assumption) ?_; rotate_left; · (intro w hSw; (try dsimp only at hSw); go_simp; (try with_reducible rfl)))
              try simp only [Act.put, List.setIfInBounds_toArray, List.set_cons_zero, List.set_cons_succ]
              first | (refine wpAnyH_take (i := 18) (v := undef) (by simp only [List.getElem?_toArray, List.getElem?_cons_succ, List.getElem?_cons_zero]; rfl) (by kernel_rfl) (by kernel_rfl) (by kernel_rfl) (by exact fun _ _ _ h => h) (Or.inr ⟨by rfl, rfl⟩) (by assumption) ?_) | (refine wpAnyH_take (i := 18) (v := ?_) (by simp only [List.getElem?_toArray, List.getElem?_cons_succ, List.getElem?_cons_zero]; rfl) (by kernel_rfl) (by kernel_rfl) (by kernel_rfl) (by exact fun _ _ _ h => h) (Or.inl ⟨by rfl, ?_⟩) (by assumption) ?_; rotate_left; · (intro w hSw; (try dsimp only at hSw); go_simp; (try with_reducible rfl)))
              try simp only [Act.put, List.setIfInBounds_toArray, List.set_cons_zero, List.set_cons_succ]
              first | (refine wpAnyH_take (i := 19) (v := undef) (by simp only [List.getElem?_toArray, List.getElem?_cons_succ, List.getElem?_cons_zero]; rfl) (by kernel_rfl) (by kernel_rfl) (by kernel_rfl) (by exact fun _ _ _ h => h) (Or.inr ⟨by rfl, rfl⟩) (by assumption) ?_) | (refine wpAnyH_take (i := 19) (v := ?_) (by simp only [List.getElem?_toArray, List.getElem?_cons_succ, List.getElem?_cons_zero]; rfl) (by kernel_rfl) (by kernel_rfl) (by kernel_rfl) (by exact fun _ _ _ h => h) (Or.inl ⟨by rfl, ?_⟩) (by assumption) ?_; rotate_left; · (intro w hSw; (try dsimp only at hSw); go_simp; (try with_reducible rfl)))
              try simp only [Act.put, List.setIfInBounds_toArray, List.set_cons_zero, List.set_cons_succ]
              first | (refine wpAnyH_take (i := 20) (v := undef) (by simp only [List.getElem?_toArray, List.getElem?_cons_succ, List.getElem?_cons_zero]; rfl) (by kernel_rfl) (by kernel_rfl) (by kernel_rfl) (by exact fun _ _ _ h => h) (Or.inr ⟨by rfl, rfl⟩) (by assumption) ?_) | (refine wpAnyH_take (i := 20) (v := ?_) (by simp only [List.getElem?_toArray, List.getElem?_cons_succ, List.getElem?_cons_zero]; rfl) (by kernel_rfl) (by kernel_rfl) (by kernel_rfl) (by exact fun _ _ _ h => h) (Or.inl ⟨by rfl, ?_⟩) (by assumption) ?_; rotate_left; · (intro w hSw; (try dsimp only at hSw); go_simp; (try with_reducible rfl)))
              try simp only [Act.put, List.setIfInBounds_toArray, List.set_cons_zero, List.set_cons_succ]
              refine wpAnyH_done (by kernel_rfl) ?_ _
              obtain ⟨X5, hX5⟩ : ∃ X5, Y = X5 := ⟨_, rfl⟩
              rw [hX5] at S5
              clear hX5
              go_wp2_with (fail)
              have HB5 := Lib.hid (show (66 * k) ≤ 66 * (k + 1) by omega)
              go_wp2_with (fail)
              go_loopw [15] (fun i W2 => ∃ j : Nat, j ≤ 16 ∧ i = .int .i64 (j : Int) ∧ NS w W2 X5 p ((66 * k)) (L) T (s) (V)) (fun i _ => 16 - (intOf i).toNat)
              case atStart => exact ⟨0, by omega, rfl, S5.out⟩
              case round =>
                obtain ⟨j, hj, rfl, h2⟩ := hrel
                have S2 := Lib.hid h2
                clear h2 S5
                obtain ⟨L5, hL5⟩ : ∃ L5, L = L5 := ⟨_, rfl⟩
                obtain ⟨s5, hs5⟩ : ∃ s5, s = s5 := ⟨_, rfl⟩
                obtain ⟨V5, hV5⟩ : ∃ V5, V = V5 := ⟨_, rfl⟩
                obtain ⟨B5, hB5⟩ : ∃ B5, (66 * k) = B5 := ⟨_, rfl⟩
                rw [hL5, hs5, hV5, hB5] at S2
                rw [hB5] at HB5
                have HEQ := Lib.hid (And.intro hL5 (And.intro hs5 (And.intro hV5 hB5)))
                clear hL5 hs5 hV5 hB5
                by_cases hlt2 : j < 16
                · have hji : (j : Int) < 16 := by omega
                  have hj0 : (0 : Int) ≤ (j : Int) := by omega
                  obtain ⟨A2, c2, e2, -, -⟩ := nown_form4 (S2.out.there.rows j hlt2).row
                  have hc2 := S2.out.there.cell hlt2
                  rw [e2, S2.out.len hlt2] at hc2
                  obtain ⟨ja, hja⟩ : ∃ ja : Nat, j / 4 = ja := ⟨_, rfl⟩
                  obtain ⟨jb, hjb⟩ : ∃ jb : Nat, j % 4 = jb := ⟨_, rfl⟩
                  have hkj : keyN j = ((ja : Int), (jb : Int)) := by unfold keyN; rw [hja, hjb]
                  have ht : (j : Int).tdiv 4 = (ja : Int) := by rw [Int.tdiv_eq_ediv_of_nonneg hj0]; omega
                  have hr : (j : Int).tmod 4 = (jb : Int) := by rw [Int.tmod_eq_emod_of_nonneg hj0]; omega
                  have hw1 : IntKind.i64.wrap ((j : Int).tdiv 4) = (ja : Int) := by rw [ht, IntKind.wrap_i64]; omega
                  have hw2 : IntKind.i64.wrap (ja : Int) = (ja : Int) := by rw [IntKind.wrap_i64]; omega
                  have HC := Lib.hid ((S2.out.step ((Fr.refl NoB wr).drew)).net.count (show InR ((ja : Int), (jb : Int)) from ⟨⟨by simp only; omega, by simp only; omega⟩, by simp only; omega, by simp only; omega⟩))
                  rw [hkj] at hc2
                  obtain ⟨nb, hnb⟩ : ∃ nb, (bag L5 ((ja : Int), (jb : Int))).length = nb := ⟨_, rfl⟩
                  rw [hnb] at hc2 HC
                  have HS2 := Lib.hid (fun Z (f : Fr NoB wr Z) => (show Z.cell? ⟨T, j, none⟩ = some (.slice A2 nb c2) from (f.cell (p := ⟨T, j, none⟩) (World.block_lt_of_cell? _ _ hc2) (fun x => x)).trans hc2))
                  clear hja hjb hkj e2 hnb
                  go_wp2_with (fail)
                  go_region_held3 (fun Z => Z.cell? ⟨T, j, none⟩ = some (.slice A2 nb c2)) (first
                    | with_reducible exact HS2.out _ (Fr.refl NoB wr)
                    | with_reducible exact HS2.out _ ((Fr.refl NoB wr).drew)) (first
                    | ((with_reducible refine HC.out.mono ?_); rintro e w2 ⟨rfl, rfl⟩))
                  go_wp2_with (fail)
                  go_roundw
                  case rel =>
                    refine ⟨j + 1, by omega, by go_num, ?_⟩
                    obtain ⟨e1, e2, e3, e4⟩ := HEQ.out
                    rw [e1, e2, e3, e4]
                    exact S2.out.step ((Fr.refl NoB wr).drew)
                  case measure => simp [intOf]; omega
                · obtain rfl : j = 16 := by omega
                  go_wp2_with (fail)
                  go_roundw
                  case rel => exact ⟨k + 1, L5, X5, s5, V5, by omega, by go_num, S2.out.le HB5.out⟩
                  case measure => simp [intOf]; omega
          | some l2 =>
            obtain ⟨nz, rfl, -, hnn⟩ := meant_some hm
            have HNN := Lib.hid hnn
            have HT := Lib.hid (S7.out.net.take HBK.out.2 HKR.out nz hnn)
            clear hm hnn
            go_wp2_with (fail)
            refine HT.out.mono ?_
            rintro e w8 ⟨A8, c8, rfl, o8, -, n8, f8⟩
            have T8 := Lib.hid (S7.out.there.fr f8 (fun g hg hx => hx hg))
            have ORK8 := Lib.hid (ORK.out.fr f8 (fun g hg hx => hx hg))
            have hl2 : l2.length ≤ 1048576 := S7.out.lens hK16 l2 (by rw [HKEY.out]; exact List.mem_of_getElem? HNN.out)
            have HPL := Lib.hid (place_calls ORK8.out (by have := HLEN.out; have := S7.out.few κ hK16; rw [HKEY.out] at this; rw [HNV.out]; omega) A8 l2 c8 _ _ (own_rd o8) (by omega))
            have gT0 : w8.cell? ⟨T, κ, none⟩ = some (.slice A3 nv c3) := by have := T8.out.cell hK16; rwa [HE3.out] at this
            have g30 : w8.cell? ⟨β, 3, none⟩ = some (.int .i64 (nz : Int)) := (HSF.out _ f8).1
            have N8 := Lib.hid n8
            have F8 := Lib.hid f8
            clear o8 n8 f8 hl2
            go_wp2_with (fail)
            refine HPL.out.mono ?_
            rintro e w9 ⟨⟨r, rfl, hr⟩, q, rfl⟩
            obtain ⟨i, x2, rfl, hi, hxl⟩ : ∃ (i : Nat) (x2 : Pk), r = (i : Int) ∧ (V κ)[i]? = some x2 ∧ x2.l = l2 := by
              rcases hr with h | ⟨-, h⟩
              · exact h
              · have hm2 := (S7.out.perm κ hK16).mem_iff.2 (by rw [HKEY.out]; exact List.mem_of_getElem? HNN.out)
                obtain ⟨y, hy, hyl⟩ := List.mem_map.1 hm2
                exact absurd hyl (h y hy)
            have HI := Lib.hid (And.intro hi hxl)
            have hiv : i < nv := by have := (List.getElem?_eq_some_iff.1 hi).1; rw [HNV.out] at this; exact this
            have H_NV := Lib.hid (show nv ≤ 32 by have h1 := HLEN.out; have h2 := S7.out.few κ hK16; rw [HKEY.out] at h2; omega)
            have hnzv : nz < nv := by have h1 := (List.getElem?_eq_some_iff.1 HNN.out).1; have h2 := HLEN.out; omega
            clear hr hi hxl
            have g3 : (w8.drewN q).cell? ⟨β, 3, none⟩ = some (.int .i64 (nz : Int)) := g30
            have gT : (w8.drewN q).cell? ⟨T, κ, none⟩ = some (.slice A3 nv c3) := gT0
            have HS9 := Lib.hid (fun Z (f : Fr NoB (w8.drewN q) Z) => (show Z.cell? ⟨β, 3, none⟩ = some (.int .i64 (nz : Int)) ∧ Z.cell? ⟨T, κ, none⟩ = some (.slice A3 nv c3) from ⟨(f.cell (p := ⟨β, 3, none⟩) (World.block_lt_of_cell? _ _ g3) (fun x => x)).trans g3, (f.cell (p := ⟨T, κ, none⟩) (World.block_lt_of_cell? _ _ gT) (fun x => x)).trans gT⟩))
            go_wp2_with (fail)
            have hzz : (0 : Int) ≤ (nz : Int) := by omega
            have hd0 : decide ((nz : Int) ≥ 0) = true := decide_eq_true hzz
            have hd1 : decide ((0 : Int) ≤ (nz : Int)) = true := decide_eq_true hzz
            have hd2 : decide ((nz : Int) < (nv : Int)) = true := decide_eq_true (by omega)
            have hd3 : decide ((i : Int) < 0) = false := decide_eq_false (by omega)
            refine wp_region_held_drew (S := fun Z => Z.cell? ⟨β, 3, none⟩ = some (.int .i64 (nz : Int)) ∧ Z.cell? ⟨T, κ, none⟩ = some (.slice A3 nv c3)) (by kernel_rfl) (HS9.out _ ((Fr.refl NoB (w8.drewN q)).drew)) (fun hHeld => ?_)
            simp only [List.size_toArray, List.length_cons, List.length_nil, Nat.reduceAdd]
            first | (refine wpAnyH_take (i := 0) (v := undef) (by simp only [List.getElem?_toArray, List.getElem?_cons_zero]; rfl) (by kernel_rfl) (by kernel_rfl) (by kernel_rfl) (by exact fun _ _ _ h => h) (Or.inr ⟨by rfl, rfl⟩) (by assumption) ?_) | (refine wpAnyH_take (i := 0) (v := ?_) (by simp only [List.getElem?_toArray, List.getElem?_cons_zero]; rfl) (by kernel_rfl) (by kernel_rfl) (by kernel_rfl) (by exact fun _ _ _ h => h) (Or.inl ⟨by rfl, ?_⟩) (by assumption) ?_; rotate_left; · (intro w hSw; (try dsimp only at hSw); go_simp; (try with_reducible rfl)))
            try simp only [Act.put, List.setIfInBounds_toArray, List.set_cons_zero, List.set_cons_succ]
            first | (refine wpAnyH_take (i := 1) (v := undef) (by simp only [List.getElem?_toArray, List.getElem?_cons_succ, List.getElem?_cons_zero]; rfl) (by kernel_rfl) (by kernel_rfl) (by kernel_rfl) (by exact fun _ _ _ h => h) (Or.inr ⟨by rfl, rfl⟩) (by assumption) ?_) | (refine wpAnyH_take (i := 1) (v := ?_) (by simp only [List.getElem?_toArray, List.getElem?_cons_succ, List.getElem?_cons_zero]; rfl) (by kernel_rfl) (by kernel_rfl) (by kernel_rfl) (by exact fun _ _ _ h => h) (Or.inl ⟨by rfl, ?_⟩) (by assumption) ?_; rotate_left; · (intro w hSw; (try dsimp only at hSw); go_simp; (try with_reducible rfl)))
            try simp only [Act.put, List.setIfInBounds_toArray, List.set_cons_zero, List.set_cons_succ]
            first | (refine wpAnyH_take (i := 2) (v := undef) (by simp only [List.getElem?_toArray, List.getElem?_cons_succ, List.getElem?_cons_zero]; rfl) (by kernel_rfl) (by kernel_rfl) (by kernel_rfl) (by exact fun _ _ _ h => h) (Or.inr ⟨by rfl, rfl⟩) (by assumption) ?_) | (refine wpAnyH_take (i := 2) (v := ?_) (by simp only [List.getElem?_toArray, List.getElem?_cons_succ, List.getElem?_cons_zero]; rfl) (by kernel_rfl) (by kernel_rfl) (by kernel_rfl) (by exact fun _ _ _ h => h) (Or.inl ⟨by rfl, ?_⟩) (by assumption) ?_; rotate_left; · (intro w hSw; (try dsimp only at hSw); go_simp; (try with_reducible rfl)))
            try simp only [Act.put, List.setIfInBounds_toArray, List.set_cons_zero, List.set_cons_succ]
            first | (refine wpAnyH_take (i := 3) (v := undef) (by simp only [List.getElem?_toArray, List.getElem?_cons_succ, List.getElem?_cons_zero]; rfl) (by kernel_rfl) (by kernel_rfl) (by kernel_rfl) (by exact fun _ _ _ h => h) (Or.inr ⟨by rfl, rfl⟩) (by assumption) ?_) | (refine wpAnyH_take (i := 3) (v := ?_) (by simp only [List.getElem?_toArray, List.getElem?_cons_succ, List.getElem?_cons_zero]; rfl) (by kernel_rfl) (by kernel_rfl) (by kernel_rfl) (by exact fun _ _ _ h => h) (Or.inl ⟨by rfl, ?_⟩) (by assumption) ?_; rotate_left; · (intro w hSw; (try dsimp only at hSw); go_simp; (try with_reducible rfl)))
            try simp only [Act.put, List.setIfInBounds_toArray, List.set_cons_zero, List.set_cons_succ]
            first | (refine wpAnyH_take (i := 4) (v := undef) (by simp only [List.getElem?_toArray, List.getElem?_cons_succ, List.getElem?_cons_zero]; rfl) (by kernel_rfl) (by kernel_rfl) (by kernel_rfl) (by exact fun _ _ _ h => h) (Or.inr ⟨by rfl, rfl⟩) (by assumption) ?_) | (refine wpAnyH_take (i := 4) (v := ?_) (by simp only [List.getElem?_toArray, List.getElem?_cons_succ, List.getElem?_cons_zero]; rfl) (by kernel_rfl) (by kernel_rfl) (by kernel_rfl) (by exact fun _ _ _ h => h) (Or.inl ⟨by rfl, ?_⟩) (by assumption) ?_; rotate_left; · (intro w hSw; (try dsimp only at hSw); go_simp; (try with_reducible rfl)))
            try simp only [Act.put, List.setIfInBounds_toArray, List.set_cons_zero, List.set_cons_succ]
            first | (refine wpAnyH_take (i := 5) (v := undef) (by simp only [List.getElem?_toArray, List.getElem?_cons_succ, List.getElem?_cons_zero]; rfl) (by kernel_rfl) (by kernel_rfl) (by kernel_rfl) (by exact fun _ _ _ h => h) (Or.inr ⟨by rfl, rfl⟩) (by assumption) ?_) | (refine wpAnyH_take (i := 5) (v := ?_) (by simp only [List.getElem?_toArray, List.getElem?_cons_succ, List.getElem?_cons_zero]; rfl) (by kernel_rfl) (by kernel_rfl) (by kernel_rfl) (by exact fun _ _ _ h => h) (Or.inl ⟨by rfl, ?_⟩) (by assumption) ?_; rotate_left; · (intro w hSw; (try dsimp only at hSw); go_simp; (try with_reducible rfl)))
            try simp only [Act.put, List.setIfInBounds_toArray, List.set_cons_zero, List.set_cons_succ]
            first | (refine wpAnyH_take (i := 6) (v := undef) (by simp only [List.getElem?_toArray, List.getElem?_cons_succ, List.getElem?_cons_zero]; rfl) (by kernel_rfl) (by kernel_rfl) (by kernel_rfl) (by exact fun _ _ _ h => h) (Or.inr ⟨by rfl, rfl⟩) (by assumption) ?_) | (refine wpAnyH_take (i := 6) (v := ?_) (by simp only [List.getElem?_toArray, List.getElem?_cons_succ, List.getElem?_cons_zero]; rfl) (by kernel_rfl) (by kernel_rfl) (by kernel_rfl) (by exact fun _ _ _ h => h) (Or.inl ⟨by rfl, ?_⟩) (by assumption) ?_; rotate_left; · (intro w hSw; (try dsimp only at hSw); go_simp; (try with_reducible rfl)))
            try simp only [Act.put, List.setIfInBounds_toArray, List.set_cons_zero, List.set_cons_succ]
            first | (refine wpAnyH_take (i := 7) (v := undef) (by simp only [List.getElem?_toArray, List.getElem?_cons_succ, List.getElem?_cons_zero]; rfl) (by kernel_rfl) (by kernel_rfl) (by kernel_rfl) (by exact fun _ _ _ h => h) (Or.inr ⟨by rfl, rfl⟩) (by assumption) ?_) | (refine wpAnyH_take (i := 7) (v := ?_) (by simp only [List.getElem?_toArray, List.getElem?_cons_succ, List.getElem?_cons_zero]; rfl) (by kernel_rfl) (by kernel_rfl) (by kernel_rfl) (by exact fun _ _ _ h => h) (Or.inl ⟨by rfl, ?_⟩) (by assumption) ?_; rotate_left; · (intro w hSw; (try dsimp only at hSw); go_simp; (try with_reducible rfl)))
            try simp only [Act.put, List.setIfInBounds_toArray, List.set_cons_zero, List.set_cons_succ]
            first | (refine wpAnyH_take (i := 8) (v := undef) (by simp only [List.getElem?_toArray, List.getElem?_cons_succ, List.getElem?_cons_zero]; rfl) (by kernel_rfl) (by kernel_rfl) (by kernel_rfl) (by exact fun _ _ _ h => h) (Or.inr ⟨by rfl, rfl⟩) (by assumption) ?_) | (refine wpAnyH_take (i := 8) (v := ?_) (by simp only [List.getElem?_toArray, List.getElem?_cons_succ, List.getElem?_cons_zero]; rfl) (by kernel_rfl) (by kernel_rfl) (by kernel_rfl) (by exact fun _ _ _ h => h) (Or.inl ⟨by rfl, ?_⟩) (by assumption) ?_; rotate_left; · (intro w hSw; (try dsimp only at hSw); go_simp; (try with_reducible rfl)))
            try simp only [Act.put, List.setIfInBounds_toArray, List.set_cons_zero, List.set_cons_succ]
            first | (refine wpAnyH_take (i := 9) (v := undef) (by simp only [List.getElem?_toArray, List.getElem?_cons_succ, List.getElem?_cons_zero]; rfl) (by kernel_rfl) (by kernel_rfl) (by kernel_rfl) (by exact fun _ _ _ h => h) (Or.inr ⟨by rfl, rfl⟩) (by assumption) ?_) | (refine wpAnyH_take (i := 9) (v := ?_) (by simp only [List.getElem?_toArray, List.getElem?_cons_succ, List.getElem?_cons_zero]; rfl) (by kernel_rfl) (by kernel_rfl) (by kernel_rfl) (by exact fun _ _ _ h => h) (Or.inl ⟨by rfl, ?_⟩) (by assumption) ?_; rotate_left; · (intro w hSw; (try dsimp only at hSw); go_simp; (try with_reducible rfl)))
            try simp only [Act.put, List.setIfInBounds_toArray, List.set_cons_zero, List.set_cons_succ]
            first | (refine wpAnyH_take (i := 10) (v := undef) (by simp only [List.getElem?_toArray, List.getElem?_cons_succ, List.getElem?_cons_zero]; rfl) (by kernel_rfl) (by kernel_rfl) (by kernel_rfl) (by exact fun _ _ _ h => h) (Or.inr ⟨by rfl, rfl⟩) (by assumption) ?_) | (refine wpAnyH_take (i := 10) (v := ?_) (by simp only [List.getElem?_toArray, List.getElem?_cons_succ, List.getElem?_cons_zero]; rfl) (by kernel_rfl) (by kernel_rfl) (by kernel_rfl) (by exact fun _ _ _ h => h) (Or.inl ⟨by rfl, ?_⟩) (by assumption) ?_; rotate_left; · (intro w hSw; (try dsimp only at hSw); go_simp; (try with_reducible rfl)))
            try simp only [Act.put, List.setIfInBounds_toArray, List.set_cons_zero, List.set_cons_succ]
            first | (refine wpAnyH_take (i := 11) (v := undef) (by simp only [List.getElem?_toArray, List.getElem?_cons_succ, List.getElem?_cons_zero]; rfl) (by kernel_rfl) (by kernel_rfl) (by kernel_rfl) (by exact fun _ _ _ h => h) (Or.inr ⟨by rfl, rfl⟩) (by assumption) ?_) | (refine wpAnyH_take (i := 11) (v := ?_) (by simp only [List.getElem?_toArray, List.getElem?_cons_succ, List.getElem?_cons_zero]; rfl) (by kernel_rfl) (by kernel_rfl) (by kernel_rfl) (by exact fun _ _ _ h => h) (Or.inl ⟨by rfl, ?_⟩) (by assumption) ?_; rotate_left; · (intro w hSw; (try dsimp only at hSw); go_simp; (try with_reducible rfl)))
            try simp only [Act.put, List.setIfInBounds_toArray, List.set_cons_zero, List.set_cons_succ]
            first | (refine wpAnyH_take (i := 12) (v := undef) (by simp only [List.getElem?_toArray, List.getElem?_cons_succ, List.getElem?_cons_zero]; rfl) (by kernel_rfl) (by kernel_rfl) (by kernel_rfl) (by exact fun _ _ _ h => h) (Or.inr ⟨by rfl, rfl⟩) (by assumption) ?_) | (refine wpAnyH_take (i := 12) (v := ?_) (by simp only [List.getElem?_toArray, List.getElem?_cons_succ, List.getElem?_cons_zero]; rfl) (by kernel_rfl) (by kernel_rfl) (by kernel_rfl) (by exact fun _ _ _ h => h) (Or.inl ⟨by rfl, ?_⟩) (by assumption) ?_; rotate_left; · (intro w hSw; (try dsimp only at hSw); go_simp; (try with_reducible rfl)))
            try simp only [Act.put, List.setIfInBounds_toArray, List.set_cons_zero, List.set_cons_succ]
            first | (refine wpAnyH_take (i := 13) (v := undef) (by simp only [List.getElem?_toArray, List.getElem?_cons_succ, List.getElem?_cons_zero]; rfl) (by kernel_rfl) (by kernel_rfl) (by kernel_rfl) (by exact fun _ _ _ h => h) (Or.inr ⟨by rfl, rfl⟩) (by assumption) ?_) | (refine wpAnyH_take (i := 13) (v := ?_) (by simp only [List.getElem?_toArray, List.getElem?_cons_succ, List.getElem?_cons_zero]; rfl) (by kernel_rfl) (by kernel_rfl) (by kernel_rfl) (by exact fun _ _ _ h => h) (Or.inl ⟨by rfl, ?_⟩) (by assumption) ?_; rotate_left; · (intro w hSw; (try dsimp only at hSw); go_simp; (try with_reducible rfl)))
            try simp only [Act.put, List.setIfInBounds_toArray, List.set_cons_zero, List.set_cons_succ]
            first | (refine wpAnyH_take (i := 14) (v := undef) (by simp only [List.getElem?_toArray, List.getElem?_cons_succ, List.getElem?_cons_zero]; rfl) (by kernel_rfl) (by kernel_rfl) (by kernel_rfl) (by exact fun _ _ _ h => h) (Or.inr ⟨by rfl, rfl⟩) (by assumption) ?_) | (refine wpAnyH_take (i := 14) (v := ?_) (by simp only [List.getElem?_toArray, List.getElem?_cons_succ, List.getElem?_cons_zero]; rfl) (by kernel_rfl) (by kernel_rfl) (by kernel_rfl) (by exact fun _ _ _ h => h) (Or.inl ⟨by rfl, ?_⟩) (by assumption) ?_; rotate_left; · (intro w hSw; (try dsimp only at hSw); go_simp; (try with_reducible rfl)))
            try simp only [Act.put, List.setIfInBounds_toArray, List.set_cons_zero, List.set_cons_succ]
            first | (refine wpAnyH_take (i := 15) (v := undef) (by simp only [List.getElem?_toArray, List.getElem?_cons_succ, List.getElem?_cons_zero]; rfl) (by kernel_rfl) (by kernel_rfl) (by kernel_rfl) (by exact fun _ _ _ h => h) (Or.inr ⟨by rfl, rfl⟩) (by assumption) ?_) | (refine wpAnyH_take (i := 15) (v := ?_) (by simp only [List.getElem?_toArray, List.getElem?_cons_succ, List.getElem?_cons_zero]; rfl) (by kernel_rfl) (by kernel_rfl) (by kernel_rfl) (by exact fun _ _ _ h => h) (Or.inl ⟨by rfl, ?_⟩) (by assumption) ?_; rotate_left; · (intro w hSw; (try dsimp only at hSw); go_simp; (try with_reducible rfl)))
            try simp only [Act.put, List.setIfInBounds_toArray, List.set_cons_zero, List.set_cons_succ]
            first | (refine wpAnyH_take (i := 16) (v := undef) (by simp only [List.getElem?_toArray, List.getElem?_cons_succ, List.getElem?_cons_zero]; rfl) (by kernel_rfl) (by kernel_rfl) (by kernel_rfl) (by exact fun _ _ _ h => h) (Or.inr ⟨by rfl, rfl⟩) (by assumption) ?_) | (refine wpAnyH_take (i := 16) (v := ?_) (by simp only [List.getElem?_toArray, List.getElem?_cons_succ, List.getElem?_cons_zero]; rfl) (by kernel_rfl) (by kernel_rfl) (by kernel_rfl) (by exact fun _ _ _ h => h) (Or.inl ⟨by rfl, ?_⟩) (by assumption) ?_; rotate_left; · (intro w hSw; (try dsimp only at hSw); go_simp; (try with_reducible rfl)))
            try simp only [Act.put, List.setIfInBounds_toArray, List.set_cons_zero, List.set_cons_succ]
            first | (refine wpAnyH_take (i := 17) (v := undef) (by simp only [List.getElem?_toArray, List.getElem?_cons_succ, List.getElem?_cons_zero]; rfl) (by kernel_rfl) (by kernel_rfl) (by kernel_rfl) (by exact fun _ _ _ h => h) (Or.inr ⟨by rfl, rfl⟩) (by assumption) ?_) | (refine wpAnyH_take (i := 17) (v := ?_) (by simp only [List.getElem?_toArray, List.getElem?_cons_succ, List.getElem?_cons_zero]; rfl) (by kernel_rfl) (by kernel_rfl) (by kernel_rfl) (by exact fun _ _ _ h => h) (Or.inl ⟨by rfl, ?_⟩) (by assumption) ?_; rotate_left; · (intro w hSw; (try dsimp only at hSw); go_simp; (try with_reducible rfl)))
            try simp only [Act.put, List.setIfInBounds_toArray, List.set_cons_zero, List.set_cons_succ]
            first | (refine wpAnyH_take (i := 18) (v := undef) (by simp only [List.getElem?_toArray, List.getElem?_cons_succ, List.getElem?_cons_zero]; rfl) (by kernel_rfl) (by kernel_rfl) (by kernel_rfl) (by exact fun _ _ _ h => h) (Or.inr ⟨by rfl, rfl⟩) (by assumption) ?_) | (refine wpAnyH_take (i := 18) (v := ?_) (by simp only [List.getElem?_toArray, List.getElem?_cons_succ, List.getElem?_cons_zero]; rfl) (by kernel_rfl) (by kernel_rfl) (by kernel_rfl) (by exact fun _ _ _ h => h) (Or.inl ⟨by rfl, ?_⟩) (by assumption) ?_; rotate_left; · (intro w hSw; (try dsimp only at hSw); go_simp; (try with_reducible rfl)))
            try simp only [Act.put, List.setIfInBounds_toArray, List.set_cons_zero, List.set_cons_succ]
            first | (refine wpAnyH_take (i := 19) (v := undef) (by simp only [List.getElem?_toArray, List.getElem?_cons_succ, List.getElem?_cons_zero]; rfl) (by kernel_rfl) (by kernel_rfl) (by kernel_rfl) (by exact fun _ _ _ h => h) (Or.inr ⟨by rfl, rfl⟩) (by assumption) ?_) | (refine wpAnyH_take (i := 19) (v := ?_) (by simp only [List.getElem?_toArray, List.getElem?_cons_succ, List.getElem?_cons_zero]; rfl) (by kernel_rfl) (by kernel_rfl) (by kernel_rfl) (by exact fun _ _ _ h => h) (Or.inl ⟨by rfl, ?_⟩) (by assumption) ?_; rotate_left; · (intro w hSw; (try dsimp only at hSw); go_simp; (try with_reducible rfl)))
            try simp only [Act.put, List.setIfInBounds_toArray, List.set_cons_zero, List.set_cons_succ]
            first | (refine wpAnyH_take (i := 20) (v := undef) (by simp only [List.getElem?_toArray, List.getElem?_cons_succ, List.getElem?_cons_zero]; rfl) (by kernel_rfl) (by kernel_rfl) (by kernel_rfl) (by exact fun _ _ _ h => h) (Or.inr ⟨by rfl, rfl⟩) (by assumption) ?_) | (refine wpAnyH_take (i := 20) (v := ?_) (by simp only [List.getElem?_toArray, List.getElem?_cons_succ, List.getElem?_cons_zero]; rfl) (by kernel_rfl) (by kernel_rfl) (by kernel_rfl) (by exact fun _ _ _ h => h) (Or.inl ⟨by rfl, ?_⟩) (by assumption) ?_; rotate_left; · (intro w hSw; (try dsimp only at hSw); go_simp; (try with_reducible rfl)))
            try simp only [Act.put, List.setIfInBounds_toArray, List.set_cons_zero, List.set_cons_succ]
            refine wpAnyH_done (by kernel_rfl) ?_ _
            go_wp2_with (fail)
            have hsome := ORK8.out.some (by rw [HNV.out]; omega)
            rw [HNV.out] at hsome
            obtain ⟨g3, c3', hv3, hg3, -⟩ := hsome
            injection hv3 with e1 e2 e3
            subst e1 e3
            have hcap3 : nv ≤ c3 := by
              have hro := ORK8.out.row
              rw [HNV.out] at hro
              exact own_cap hro
            have F9 := Lib.hid (show Fr NoB w8 (w8.drewN q).drew.drew from ((((Fr.refl NoB w8).drewN q).drew).drew))
            have hcd : (w8.drewN q).drew.drew.cell? ⟨T, κ, none⟩ = some (.slice (some ⟨g3, 0, none⟩) nv c3) := gT
            have H32 := H_NV.out
            have hi9 : i ≤ 1000000000 := Nat.le_trans (Nat.le_of_lt hiv) (Nat.le_trans H32 (by decide))
            have hi1 := wrap_succ hi9
            have hi2 := i64_succ hi9
            have hic := not_lt_cast (Nat.le_trans (Nat.le_of_lt hiv) hcap3)
            have hil2 := not_lt_succ hiv
            have hil3 : (i : Int) + 1 ≤ (nv : Int) := Int.not_lt.1 hil2
            have hi01 : (0 : Int) ≤ (i : Int) := Int.natCast_nonneg i
            have hi02 : (0 : Int) ≤ (i : Int) + 1 := Int.le_trans hi01 (Int.le_add_one (Int.le_refl _))
            have HS1 := Lib.hid (fun W (F : Fr NoB w8 W) => val_take (V := V κ) F hg3 (ORK8.out.row.cells (g := g3) rfl) i)
            have HS2 := Lib.hid (fun W (F : Fr NoB w8 W) => val_drop (V := V κ) F hg3 (ORK8.out.row.cells (g := g3) rfl) (i + 1))
            have HL1 := Lib.hid (show (((V κ).map Pk.val).take i).length = i * 1 from tk_l1 HNV.out hiv)
            have HL2 := Lib.hid (show (((V κ).map Pk.val).drop (i + 1)).length = (nv - (i + 1)) * 1 from dr_l1 HNV.out (i + 1))
            have HBD := Lib.hid (show (0 + i ≤ maxLen ∧ (0 + i) * 24 ≤ 140737488355328) ∧ (i + (nv - (i + 1)) ≤ maxLen ∧ (i + (nv - (i + 1))) * 24 ≤ 140737488355328) from bd_two hiv H32)
            have HC8 := Lib.hid (fun W (F : Fr NoB w8 W) => (F.cell (p := ⟨T, κ, none⟩) (World.block_lt_of_cell? _ _ gT0) (fun x => x)).trans gT0)
            have HIV := Lib.hid (And.intro hiv hcap3)
            clear hi9 hiv hnzv hcap3 hg3 gT gT0 g30 hd0 hd1 hd2 hd3 hzz H32 hHeld HS9 hcl HE3 ORK HT HPL e2
            by_cases hce : c3 = i + 1
            · have HM0 := Lib.hid (no_more hce HIV.out.2)
              subst hce
              have hle1 : (i : Int) ≤ (i : Int) + 1 := Int.le_add_one (Int.le_refl _)
              refine wp_region_any (by kernel_rfl) (wpAny_of_J (S := fun j X => j ≠ 16 → X.cell? ⟨T, κ, none⟩ = some (.slice (some ⟨g3, 0, none⟩) nv (i + 1))) _ _ _ _ ?_)
              show wpAnyJ _ _ _ _ _ _ _ _ (w8.drewN q).drew.drew
              generalize (w8.drewN q).drew.drew = W9 at F9 hcd ⊢
              simp only [List.size_toArray, List.length_cons, List.length_nil, Nat.reduceAdd]
              refine J_take (i := 0) (v := ?_) (fun X : World => X.cell? ⟨T, κ, none⟩ = some (.slice (some ⟨g3, 0, none⟩) nv (i + 1))) (fun j => decide (j ≠ 16)) (by simp only [List.getElem?_toArray, List.getElem?_cons_zero]; rfl) (by kernel_rfl) (by kernel_rfl) (by kernel_rfl) (by kernel_rfl) (by exact fun _ _ _ h => h) (fun j X hm h => h (of_decide_eq_true hm)) (fun X h _ => h) hcd (Or.inl ⟨by rfl, ?_⟩) ?_
              rotate_left
              · intro X hX; go_simp; (try with_reducible rfl)
              try simp only [Act.put, List.setIfInBounds_toArray, List.set_cons_zero, List.set_cons_succ]
              refine J_take (i := 2) (v := ?_) (fun X : World => X.cell? ⟨T, κ, none⟩ = some (.slice (some ⟨g3, 0, none⟩) nv (i + 1))) (fun j => decide (j ≠ 16)) (by simp only [List.getElem?_toArray, List.getElem?_cons_succ, List.getElem?_cons_zero]; rfl) (by kernel_rfl) (by kernel_rfl) (by kernel_rfl) (by kernel_rfl) (by exact fun _ _ _ h => h) (fun j X hm h => h (of_decide_eq_true hm)) (fun X h _ => h) hcd (Or.inl ⟨by rfl, ?_⟩) ?_
              rotate_left
              · intro X hX; go_simp; (try with_reducible rfl)
              try simp only [Act.put, List.setIfInBounds_toArray, List.set_cons_zero, List.set_cons_succ]
              refine J_take (i := 3) (v := ?_) (fun X : World => X.cell? ⟨T, κ, none⟩ = some (.slice (some ⟨g3, 0, none⟩) nv (i + 1))) (fun j => decide (j ≠ 16)) (by simp only [List.getElem?_toArray, List.getElem?_cons_succ, List.getElem?_cons_zero]; rfl) (by kernel_rfl) (by kernel_rfl) (by kernel_rfl) (by kernel_rfl) (by exact fun _ _ _ h => h) (fun j X hm h => h (of_decide_eq_true hm)) (fun X h _ => h) hcd (Or.inl ⟨by rfl, ?_⟩) ?_
              rotate_left
              · intro X hX; go_simp; (try with_reducible rfl)
              try simp only [Act.put, List.setIfInBounds_toArray, List.set_cons_zero, List.set_cons_succ]
              refine J_take (i := 4) (v := ?_) (fun X : World => X.cell? ⟨T, κ, none⟩ = some (.slice (some ⟨g3, 0, none⟩) nv (i + 1))) (fun j => decide (j ≠ 16)) (by simp only [List.getElem?_toArray, List.getElem?_cons_succ, List.getElem?_cons_zero]; rfl) (by kernel_rfl) (by kernel_rfl) (by kernel_rfl) (by kernel_rfl) (by exact fun _ _ _ h => h) (fun j X hm h => h (of_decide_eq_true hm)) (fun X h _ => h) hcd (Or.inl ⟨by rfl, ?_⟩) ?_
              rotate_left
              · intro X hX; go_simp; (try with_reducible rfl)
              try simp only [Act.put, List.setIfInBounds_toArray, List.set_cons_zero, List.set_cons_succ]
              refine J_take (i := 5) (v := ?_) (fun X : World => X.cell? ⟨T, κ, none⟩ = some (.slice (some ⟨g3, 0, none⟩) nv (i + 1))) (fun j => decide (j ≠ 16)) (by simp only [List.getElem?_toArray, List.getElem?_cons_succ, List.getElem?_cons_zero]; rfl) (by kernel_rfl) (by kernel_rfl) (by kernel_rfl) (by kernel_rfl) (by exact fun _ _ _ h => h) (fun j X hm h => h (of_decide_eq_true hm)) (fun X h _ => h) hcd (Or.inl ⟨by rfl, ?_⟩) ?_
              rotate_left
              · intro X hX; go_simp; (try with_reducible rfl)
              try simp only [Act.put, List.setIfInBounds_toArray, List.set_cons_zero, List.set_cons_succ]
              refine J_take (i := 6) (v := ?_) (fun X : World => X.cell? ⟨T, κ, none⟩ = some (.slice (some ⟨g3, 0, none⟩) nv (i + 1))) (fun j => decide (j ≠ 16)) (by simp only [List.getElem?_toArray, List.getElem?_cons_succ, List.getElem?_cons_zero]; rfl) (by kernel_rfl) (by kernel_rfl) (by kernel_rfl) (by kernel_rfl) (by exact fun _ _ _ h => h) (fun j X hm h => h (of_decide_eq_true hm)) (fun X h _ => h) hcd (Or.inl ⟨by rfl, ?_⟩) ?_
              rotate_left
              · intro X hX; go_simp; (try with_reducible rfl)
              try simp only [Act.put, List.setIfInBounds_toArray, List.set_cons_zero, List.set_cons_succ]
              refine J_take (i := 8) (v := ?_) (fun X : World => X.cell? ⟨T, κ, none⟩ = some (.slice (some ⟨g3, 0, none⟩) nv (i + 1))) (fun j => decide (j ≠ 16)) (by simp only [List.getElem?_toArray, List.getElem?_cons_succ, List.getElem?_cons_zero]; rfl) (by kernel_rfl) (by kernel_rfl) (by kernel_rfl) (by kernel_rfl) (by exact fun _ _ _ h => h) (fun j X hm h => h (of_decide_eq_true hm)) (fun X h _ => h) hcd (Or.inl ⟨by rfl, ?_⟩) ?_
              rotate_left
              · intro X hX; go_simp; (try with_reducible rfl)
              try simp only [Act.put, List.setIfInBounds_toArray, List.set_cons_zero, List.set_cons_succ]
              refine J_take (i := 9) (v := ?_) (fun X : World => X.cell? ⟨T, κ, none⟩ = some (.slice (some ⟨g3, 0, none⟩) nv (i + 1))) (fun j => decide (j ≠ 16)) (by simp only [List.getElem?_toArray, List.getElem?_cons_succ, List.getElem?_cons_zero]; rfl) (by kernel_rfl) (by kernel_rfl) (by kernel_rfl) (by kernel_rfl) (by exact fun _ _ _ h => h) (fun j X hm h => h (of_decide_eq_true hm)) (fun X h _ => h) hcd (Or.inl ⟨by rfl, ?_⟩) ?_
              rotate_left
              · intro X hX; go_simp; (try with_reducible rfl)
              try simp only [Act.put, List.setIfInBounds_toArray, List.set_cons_zero, List.set_cons_succ]
              refine J_take (i := 10) (v := ?_) (fun X : World => X.cell? ⟨T, κ, none⟩ = some (.slice (some ⟨g3, 0, none⟩) nv (i + 1))) (fun j => decide (j ≠ 16)) (by simp only [List.getElem?_toArray, List.getElem?_cons_succ, List.getElem?_cons_zero]; rfl) (by kernel_rfl) (by kernel_rfl) (by kernel_rfl) (by kernel_rfl) (by exact fun _ _ _ h => h) (fun j X hm h => h (of_decide_eq_true hm)) (fun X h _ => h) hcd (Or.inl ⟨by rfl, ?_⟩) ?_
              rotate_left
              · intro X hX; go_simp; (try with_reducible rfl)
              try simp only [Act.put, List.setIfInBounds_toArray, List.set_cons_zero, List.set_cons_succ]
              refine J_take (i := 11) (v := ?_) (fun X : World => X.cell? ⟨T, κ, none⟩ = some (.slice (some ⟨g3, 0, none⟩) nv (i + 1))) (fun j => decide (j ≠ 16)) (by simp only [List.getElem?_toArray, List.getElem?_cons_succ, List.getElem?_cons_zero]; rfl) (by kernel_rfl) (by kernel_rfl) (by kernel_rfl) (by kernel_rfl) (by exact fun _ _ _ h => h) (fun j X hm h => h (of_decide_eq_true hm)) (fun X h _ => h) hcd (Or.inl ⟨by rfl, ?_⟩) ?_
              rotate_left
              · intro X hX; go_simp; (try with_reducible rfl)
              try simp only [Act.put, List.setIfInBounds_toArray, List.set_cons_zero, List.set_cons_succ]
              refine J_take (i := 12) (v := ?_) (fun X : World => X.cell? ⟨T, κ, none⟩ = some (.slice (some ⟨g3, 0, none⟩) nv (i + 1))) (fun j => decide (j ≠ 16)) (by simp only [List.getElem?_toArray, List.getElem?_cons_succ, List.getElem?_cons_zero]; rfl) (by kernel_rfl) (by kernel_rfl) (by kernel_rfl) (by kernel_rfl) (by exact fun _ _ _ h => h) (fun j X hm h => h (of_decide_eq_true hm)) (fun X h _ => h) hcd (Or.inl ⟨by rfl, ?_⟩) ?_
              rotate_left
              · intro X hX; go_simp; (try with_reducible rfl)
              try simp only [Act.put, List.setIfInBounds_toArray, List.set_cons_zero, List.set_cons_succ]
              refine J_take (i := 13) (v := ?_) (fun X : World => X.cell? ⟨T, κ, none⟩ = some (.slice (some ⟨g3, 0, none⟩) nv (i + 1))) (fun j => decide (j ≠ 16)) (by simp only [List.getElem?_toArray, List.getElem?_cons_succ, List.getElem?_cons_zero]; rfl) (by kernel_rfl) (by kernel_rfl) (by kernel_rfl) (by kernel_rfl) (by exact fun _ _ _ h => h) (fun j X hm h => h (of_decide_eq_true hm)) (fun X h _ => h) hcd (Or.inl ⟨by rfl, ?_⟩) ?_
              rotate_left
              · intro X hX; go_simp; (try with_reducible rfl)
              try simp only [Act.put, List.setIfInBounds_toArray, List.set_cons_zero, List.set_cons_succ]
              refine J_all (rs := [1]) (by kernel_rfl) (by simp) (fun i hi => ?_)
              simp only [List.mem_cons, List.not_mem_nil, or_false] at hi
              subst hi
              refine J_oneH (by simp only [List.getElem?_toArray, List.getElem?_cons_succ, List.getElem?_cons_zero]; rfl) rfl (fun K hK => ?_)
              go_simp
              have F10 := Lib.hid (F9.out.alloc (.cells #[] 22))
              have OM := Lib.hid (World.ownsRow_made W9 (e := 22) (size := 1) (base := w8.heap.size) #[] 0 F9.out.size (Nat.zero_le _) rfl)
              try simp only [Act.put, List.setIfInBounds_toArray, List.set_cons_zero, List.set_cons_succ]
              refine hK.out _ _ ⟨fun _ => HC8.out _ F10.out, ?_⟩
              clear hK K hcd
              refine J_all (rs := [7]) (by kernel_rfl) (by simp) (fun i hi => ?_)
              simp only [List.mem_cons, List.not_mem_nil, or_false] at hi
              subst hi
              refine J_oneH (by simp only [List.getElem?_toArray, List.getElem?_cons_succ, List.getElem?_cons_zero]; rfl) rfl (fun K hK => ?_)
              refine wp_append_src _ (.tmp 115) (.tmp 120) 34 rfl w8.heap.size 22 i0 (.slice none 0 0) 1 24 Try.underlying34 hi0 hz0 hz1 hz2 rfl (by decide) (.slice (some ⟨W9.heap.size, 0, none⟩) 0 0) 0 [] rfl OM.out _ i _ (((V κ).map Pk.val).take i) rfl HL1.out (fun _ => ⟨_, rfl, HS1.out _ F10.out⟩) (vals_tk _ _) HBD.out.1.1 HBD.out.1.2 F10.out.size ?_
              intro v11 W11 hA11
              have o11 := hA11.own
              obtain ⟨A11, c11, rfl, -, -⟩ := nown_form4 o11
              rw [Nat.zero_add, List.nil_append] at o11
              have F11 := Lib.hid (F10.out.trans hA11.fr (fun k hk hx => absurd (OM.out.lt k hx).1 (Nat.not_le.2 hk)))
              have O11 := Lib.hid o11
              clear hA11 o11
              try rw [Nat.zero_add]
              try simp only [Act.put, List.setIfInBounds_toArray, List.set_cons_zero, List.set_cons_succ]
              refine hK.out _ _ ⟨fun _ => HC8.out _ F11.out, ?_⟩
              clear hK K
              refine J_all (rs := [14]) (by kernel_rfl) (by simp) (fun i hi => ?_)
              simp only [List.mem_cons, List.not_mem_nil, or_false] at hi
              subst hi
              refine J_oneH (by simp only [List.getElem?_toArray, List.getElem?_cons_succ, List.getElem?_cons_zero]; rfl) rfl (fun K hK => ?_)
              refine wp_append_src _ (.tmp 121) (.tmp 127) 34 rfl w8.heap.size 22 i0 (.slice none 0 0) 1 24 Try.underlying34 hi0 hz0 hz1 hz2 rfl (by decide) (.slice A11 i c11) i (((V κ).map Pk.val).take i) rfl O11.out _ (nv - (i + 1)) _ (((V κ).map Pk.val).drop (i + 1)) rfl HL2.out (fun h0 => absurd h0 HM0.out) (vals_dr _ _) HBD.out.2.1 HBD.out.2.2 F11.out.size ?_
              intro v12 W12 hA12
              have o12 := hA12.own
              obtain ⟨A12, c12, rfl, -, -⟩ := nown_form4 o12
              have F12 := Lib.hid (F11.out.trans hA12.fr (fun k hk hx => absurd (O11.out.lt k hx).1 (Nat.not_le.2 hk)))
              have O12 := Lib.hid o12
              clear hA12 o12
              have hc12 := HC8.out _ F12.out
              have hz12 := (T8.out.fr F12.out (fun _ _ x => x)).frozen κ
              try simp only [Act.put, List.setIfInBounds_toArray, List.set_cons_zero, List.set_cons_succ]
              refine hK.out _ _ ⟨fun _ => hc12, ?_⟩
              clear hK K
              refine J_all (rs := [15]) (by kernel_rfl) (by simp) (fun i hi => ?_)
              simp only [List.mem_cons, List.not_mem_nil, or_false] at hi
              subst hi
              refine J_oneH (by simp only [List.getElem?_toArray, List.getElem?_cons_succ, List.getElem?_cons_zero]; rfl) rfl (fun K hK => ?_)
              go_simp
              try simp only [Act.put, List.setIfInBounds_toArray, List.set_cons_zero, List.set_cons_succ]
              refine hK.out _ _ ⟨fun _ => hc12, ?_⟩
              clear hK K
              refine J_all (rs := [16]) (by kernel_rfl) (by simp) (fun i hi => ?_)
              simp only [List.mem_cons, List.not_mem_nil, or_false] at hi
              subst hi
              refine J_oneH (by simp only [List.getElem?_toArray, List.getElem?_cons_succ, List.getElem?_cons_zero]; rfl) rfl (fun K hK => ?_)
              go_simp
              try simp only [Act.put, List.setIfInBounds_toArray, List.set_cons_zero, List.set_cons_succ]
              refine hK.out _ _ ⟨fun h => absurd rfl h, ?_⟩
              clear hK K hc12 hz12
              refine J_done (by kernel_rfl) ?_
              obtain ⟨X5, hS5⟩ := S7.out.less hK16 (R := (V κ).take i ++ (V κ).drop (i + 1)) (N8.out.fewer (fun g hg => .inl hg)) F8.out F12.out (less_row HNV.out HIV.out.1 O12.out) (fun y hy => (List.mem_append.1 hy).elim List.mem_of_mem_take List.mem_of_mem_drop) (by rw [HKEY.out]; exact less_perm (by have h1 := S7.out.perm κ hK16; rwa [HKEY.out] at h1) HI.out.1 (by rw [HI.out.2]; exact HNN.out)) (by rw [HKEY.out, bag_drop_same]; exact Nat.le_trans (List.length_eraseIdx_le _ _) (by have := S7.out.few κ hK16; rwa [HKEY.out] at this)) (fun q hq => bag_drop_other (by rw [← HKEY.out]; exact hq) _ _)
              obtain ⟨s9, V9, L9, hS9⟩ : ∃ s9 V9 L9, NS w _ X5 p (66 * k + 1) L9 T s9 V9 := ⟨_, _, _, hS5⟩
              have S5 := Lib.hid hS9
              clear hS5 hS9
              have HB5 := Lib.hid (show (66 * k + 1) ≤ 66 * (k + 1) by omega)
              go_wp2_with (fail)
              go_loopw [15] (fun i W2 => ∃ j : Nat, j ≤ 16 ∧ i = .int .i64 (j : Int) ∧ NS w W2 X5 p ((66 * k + 1)) (L9) T (s9) (V9)) (fun i _ => 16 - (intOf i).toNat)
              case atStart => exact ⟨0, by omega, rfl, S5.out⟩
              case round =>
                obtain ⟨j, hj, rfl, h2⟩ := hrel
                have S2 := Lib.hid h2
                clear h2 S5
                obtain ⟨L5, hL5⟩ : ∃ L5, L9 = L5 := ⟨_, rfl⟩
                obtain ⟨s5, hs5⟩ : ∃ s5, s9 = s5 := ⟨_, rfl⟩
                obtain ⟨V5, hV5⟩ : ∃ V5, V9 = V5 := ⟨_, rfl⟩
                obtain ⟨B5, hB5⟩ : ∃ B5, (66 * k + 1) = B5 := ⟨_, rfl⟩
                rw [hL5, hs5, hV5, hB5] at S2
                rw [hB5] at HB5
                have HEQ := Lib.hid (And.intro hL5 (And.intro hs5 (And.intro hV5 hB5)))
                clear hL5 hs5 hV5 hB5
                by_cases hlt2 : j < 16
                · have hji : (j : Int) < 16 := by omega
                  have hj0 : (0 : Int) ≤ (j : Int) := by omega
                  obtain ⟨A2, c2, e2, -, -⟩ := nown_form4 (S2.out.there.rows j hlt2).row
                  have hc2 := S2.out.there.cell hlt2
                  rw [e2, S2.out.len hlt2] at hc2
                  obtain ⟨ja, hja⟩ : ∃ ja : Nat, j / 4 = ja := ⟨_, rfl⟩
                  obtain ⟨jb, hjb⟩ : ∃ jb : Nat, j % 4 = jb := ⟨_, rfl⟩
                  have hkj : keyN j = ((ja : Int), (jb : Int)) := by unfold keyN; rw [hja, hjb]
                  have ht : (j : Int).tdiv 4 = (ja : Int) := by rw [Int.tdiv_eq_ediv_of_nonneg hj0]; omega
                  have hr : (j : Int).tmod 4 = (jb : Int) := by rw [Int.tmod_eq_emod_of_nonneg hj0]; omega
                  have hw1 : IntKind.i64.wrap ((j : Int).tdiv 4) = (ja : Int) := by rw [ht, IntKind.wrap_i64]; omega
                  have hw2 : IntKind.i64.wrap (ja : Int) = (ja : Int) := by rw [IntKind.wrap_i64]; omega
                  have HC := Lib.hid ((S2.out.step ((Fr.refl NoB wr).drew)).net.count (show InR ((ja : Int), (jb : Int)) from ⟨⟨by simp only; omega, by simp only; omega⟩, by simp only; omega, by simp only; omega⟩))
                  rw [hkj] at hc2
                  obtain ⟨nb, hnb⟩ : ∃ nb, (bag L5 ((ja : Int), (jb : Int))).length = nb := ⟨_, rfl⟩
                  rw [hnb] at hc2 HC
                  have HS2 := Lib.hid (fun Z (f : Fr NoB wr Z) => (show Z.cell? ⟨T, j, none⟩ = some (.slice A2 nb c2) from (f.cell (p := ⟨T, j, none⟩) (World.block_lt_of_cell? _ _ hc2) (fun x => x)).trans hc2))
                  clear hja hjb hkj e2 hnb
                  go_wp2_with (fail)
                  go_region_held3 (fun Z => Z.cell? ⟨T, j, none⟩ = some (.slice A2 nb c2)) (first
                    | with_reducible exact HS2.out _ (Fr.refl NoB wr)
                    | with_reducible exact HS2.out _ ((Fr.refl NoB wr).drew)) (first
                    | ((with_reducible refine HC.out.mono ?_); rintro e w2 ⟨rfl, rfl⟩))
                  go_wp2_with (fail)
                  go_roundw
                  case rel =>
                    refine ⟨j + 1, by omega, by go_num, ?_⟩
                    obtain ⟨e1, e2, e3, e4⟩ := HEQ.out
                    rw [e1, e2, e3, e4]
                    exact S2.out.step ((Fr.refl NoB wr).drew)
                  case measure => simp [intOf]; omega
                · obtain rfl : j = 16 := by omega
                  go_wp2_with (fail)
                  go_roundw
                  case rel => exact ⟨k + 1, L5, X5, s5, V5, by omega, by go_num, S2.out.le HB5.out⟩
                  case measure => simp [intOf]; omega
            · have hle1 : (i : Int) ≤ (c3 : Int) := Int.not_lt.1 hic
              refine wp_region_any (by kernel_rfl) (wpAny_of_J (S := fun j X => j ≠ 16 → X.cell? ⟨T, κ, none⟩ = some (.slice (some ⟨g3, 0, none⟩) nv c3)) _ _ _ _ ?_)
              show wpAnyJ _ _ _ _ _ _ _ _ (w8.drewN q).drew.drew
              generalize (w8.drewN q).drew.drew = W9 at F9 hcd ⊢
              simp only [List.size_toArray, List.length_cons, List.length_nil, Nat.reduceAdd]
              refine J_take (i := 0) (v := ?_) (fun X : World => X.cell? ⟨T, κ, none⟩ = some (.slice (some ⟨g3, 0, none⟩) nv c3)) (fun j => decide (j ≠ 16)) (by simp only [List.getElem?_toArray, List.getElem?_cons_zero]; rfl) (by kernel_rfl) (by kernel_rfl) (by kernel_rfl) (by kernel_rfl) (by exact fun _ _ _ h => h) (fun j X hm h => h (of_decide_eq_true hm)) (fun X h _ => h) hcd (Or.inl ⟨by rfl, ?_⟩) ?_
              rotate_left
              · intro X hX; go_simp; (try with_reducible rfl)
              try simp only [Act.put, List.setIfInBounds_toArray, List.set_cons_zero, List.set_cons_succ]
              refine J_take (i := 2) (v := ?_) (fun X : World => X.cell? ⟨T, κ, none⟩ = some (.slice (some ⟨g3, 0, none⟩) nv c3)) (fun j => decide (j ≠ 16)) (by simp only [List.getElem?_toArray, List.getElem?_cons_succ, List.getElem?_cons_zero]; rfl) (by kernel_rfl) (by kernel_rfl) (by kernel_rfl) (by kernel_rfl) (by exact fun _ _ _ h => h) (fun j X hm h => h (of_decide_eq_true hm)) (fun X h _ => h) hcd (Or.inl ⟨by rfl, ?_⟩) ?_
              rotate_left
              · intro X hX; go_simp; (try with_reducible rfl)
              try simp only [Act.put, List.setIfInBounds_toArray, List.set_cons_zero, List.set_cons_succ]
              refine J_take (i := 3) (v := ?_) (fun X : World => X.cell? ⟨T, κ, none⟩ = some (.slice (some ⟨g3, 0, none⟩) nv c3)) (fun j => decide (j ≠ 16)) (by simp only [List.getElem?_toArray, List.getElem?_cons_succ, List.getElem?_cons_zero]; rfl) (by kernel_rfl) (by kernel_rfl) (by kernel_rfl) (by kernel_rfl) (by exact fun _ _ _ h => h) (fun j X hm h => h (of_decide_eq_true hm)) (fun X h _ => h) hcd (Or.inl ⟨by rfl, ?_⟩) ?_
              rotate_left
              · intro X hX; go_simp; (try with_reducible rfl)
              try simp only [Act.put, List.setIfInBounds_toArray, List.set_cons_zero, List.set_cons_succ]
              refine J_take (i := 4) (v := ?_) (fun X : World => X.cell? ⟨T, κ, none⟩ = some (.slice (some ⟨g3, 0, none⟩) nv c3)) (fun j => decide (j ≠ 16)) (by simp only [List.getElem?_toArray, List.getElem?_cons_succ, List.getElem?_cons_zero]; rfl) (by kernel_rfl) (by kernel_rfl) (by kernel_rfl) (by kernel_rfl) (by exact fun _ _ _ h => h) (fun j X hm h => h (of_decide_eq_true hm)) (fun X h _ => h) hcd (Or.inl ⟨by rfl, ?_⟩) ?_
              rotate_left
              · intro X hX; go_simp; (try with_reducible rfl)
              try simp only [Act.put, List.setIfInBounds_toArray, List.set_cons_zero, List.set_cons_succ]
              refine J_take (i := 5) (v := ?_) (fun X : World => X.cell? ⟨T, κ, none⟩ = some (.slice (some ⟨g3, 0, none⟩) nv c3)) (fun j => decide (j ≠ 16)) (by simp only [List.getElem?_toArray, List.getElem?_cons_succ, List.getElem?_cons_zero]; rfl) (by kernel_rfl) (by kernel_rfl) (by kernel_rfl) (by kernel_rfl) (by exact fun _ _ _ h => h) (fun j X hm h => h (of_decide_eq_true hm)) (fun X h _ => h) hcd (Or.inl ⟨by rfl, ?_⟩) ?_
              rotate_left
              · intro X hX; go_simp; (try with_reducible rfl)
              try simp only [Act.put, List.setIfInBounds_toArray, List.set_cons_zero, List.set_cons_succ]
              refine J_take (i := 6) (v := ?_) (fun X : World => X.cell? ⟨T, κ, none⟩ = some (.slice (some ⟨g3, 0, none⟩) nv c3)) (fun j => decide (j ≠ 16)) (by simp only [List.getElem?_toArray, List.getElem?_cons_succ, List.getElem?_cons_zero]; rfl) (by kernel_rfl) (by kernel_rfl) (by kernel_rfl) (by kernel_rfl) (by exact fun _ _ _ h => h) (fun j X hm h => h (of_decide_eq_true hm)) (fun X h _ => h) hcd (Or.inl ⟨by rfl, ?_⟩) ?_
              rotate_left
              · intro X hX; go_simp; (try with_reducible rfl)
              try simp only [Act.put, List.setIfInBounds_toArray, List.set_cons_zero, List.set_cons_succ]
              refine J_take (i := 8) (v := ?_) (fun X : World => X.cell? ⟨T, κ, none⟩ = some (.slice (some ⟨g3, 0, none⟩) nv c3)) (fun j => decide (j ≠ 16)) (by simp only [List.getElem?_toArray, List.getElem?_cons_succ, List.getElem?_cons_zero]; rfl) (by kernel_rfl) (by kernel_rfl) (by kernel_rfl) (by kernel_rfl) (by exact fun _ _ _ h => h) (fun j X hm h => h (of_decide_eq_true hm)) (fun X h _ => h) hcd (Or.inl ⟨by rfl, ?_⟩) ?_
              rotate_left
              · intro X hX; go_simp; (try with_reducible rfl)
              try simp only [Act.put, List.setIfInBounds_toArray, List.set_cons_zero, List.set_cons_succ]
              refine J_take (i := 9) (v := ?_) (fun X : World => X.cell? ⟨T, κ, none⟩ = some (.slice (some ⟨g3, 0, none⟩) nv c3)) (fun j => decide (j ≠ 16)) (by simp only [List.getElem?_toArray, List.getElem?_cons_succ, List.getElem?_cons_zero]; rfl) (by kernel_rfl) (by kernel_rfl) (by kernel_rfl) (by kernel_rfl) (by exact fun _ _ _ h => h) (fun j X hm h => h (of_decide_eq_true hm)) (fun X h _ => h) hcd (Or.inl ⟨by rfl, ?_⟩) ?_
              rotate_left
              · intro X hX; go_simp; (try with_reducible rfl)
              try simp only [Act.put, List.setIfInBounds_toArray, List.set_cons_zero, List.set_cons_succ]
              refine J_take (i := 10) (v := ?_) (fun X : World => X.cell? ⟨T, κ, none⟩ = some (.slice (some ⟨g3, 0, none⟩) nv c3)) (fun j => decide (j ≠ 16)) (by simp only [List.getElem?_toArray, List.getElem?_cons_succ, List.getElem?_cons_zero]; rfl) (by kernel_rfl) (by kernel_rfl) (by kernel_rfl) (by kernel_rfl) (by exact fun _ _ _ h => h) (fun j X hm h => h (of_decide_eq_true hm)) (fun X h _ => h) hcd (Or.inl ⟨by rfl, ?_⟩) ?_
              rotate_left
              · intro X hX; go_simp; (try with_reducible rfl)
              try simp only [Act.put, List.setIfInBounds_toArray, List.set_cons_zero, List.set_cons_succ]
              refine J_take (i := 11) (v := ?_) (fun X : World => X.cell? ⟨T, κ, none⟩ = some (.slice (some ⟨g3, 0, none⟩) nv c3)) (fun j => decide (j ≠ 16)) (by simp only [List.getElem?_toArray, List.getElem?_cons_succ, List.getElem?_cons_zero]; rfl) (by kernel_rfl) (by kernel_rfl) (by kernel_rfl) (by kernel_rfl) (by exact fun _ _ _ h => h) (fun j X hm h => h (of_decide_eq_true hm)) (fun X h _ => h) hcd (Or.inl ⟨by rfl, ?_⟩) ?_
              rotate_left
              · intro X hX; go_simp; (try with_reducible rfl)
              try simp only [Act.put, List.setIfInBounds_toArray, List.set_cons_zero, List.set_cons_succ]
              refine J_take (i := 12) (v := ?_) (fun X : World => X.cell? ⟨T, κ, none⟩ = some (.slice (some ⟨g3, 0, none⟩) nv c3)) (fun j => decide (j ≠ 16)) (by simp only [List.getElem?_toArray, List.getElem?_cons_succ, List.getElem?_cons_zero]; rfl) (by kernel_rfl) (by kernel_rfl) (by kernel_rfl) (by kernel_rfl) (by exact fun _ _ _ h => h) (fun j X hm h => h (of_decide_eq_true hm)) (fun X h _ => h) hcd (Or.inl ⟨by rfl, ?_⟩) ?_
              rotate_left
              · intro X hX; go_simp; (try with_reducible rfl)
              try simp only [Act.put, List.setIfInBounds_toArray, List.set_cons_zero, List.set_cons_succ]
              refine J_take (i := 13) (v := ?_) (fun X : World => X.cell? ⟨T, κ, none⟩ = some (.slice (some ⟨g3, 0, none⟩) nv c3)) (fun j => decide (j ≠ 16)) (by simp only [List.getElem?_toArray, List.getElem?_cons_succ, List.getElem?_cons_zero]; rfl) (by kernel_rfl) (by kernel_rfl) (by kernel_rfl) (by kernel_rfl) (by exact fun _ _ _ h => h) (fun j X hm h => h (of_decide_eq_true hm)) (fun X h _ => h) hcd (Or.inl ⟨by rfl, ?_⟩) ?_
              rotate_left
              · intro X hX; go_simp; (try with_reducible rfl)
              try simp only [Act.put, List.setIfInBounds_toArray, List.set_cons_zero, List.set_cons_succ]
              refine J_all (rs := [1]) (by kernel_rfl) (by simp) (fun i hi => ?_)
              simp only [List.mem_cons, List.not_mem_nil, or_false] at hi
              subst hi
              refine J_oneH (by simp only [List.getElem?_toArray, List.getElem?_cons_succ, List.getElem?_cons_zero]; rfl) rfl (fun K hK => ?_)
              go_simp
              have F10 := Lib.hid (F9.out.alloc (.cells #[] 22))
              have OM := Lib.hid (World.ownsRow_made W9 (e := 22) (size := 1) (base := w8.heap.size) #[] 0 F9.out.size (Nat.zero_le _) rfl)
              try simp only [Act.put, List.setIfInBounds_toArray, List.set_cons_zero, List.set_cons_succ]
              refine hK.out _ _ ⟨fun _ => HC8.out _ F10.out, ?_⟩
              clear hK K hcd
              refine J_all (rs := [7]) (by kernel_rfl) (by simp) (fun i hi => ?_)
              simp only [List.mem_cons, List.not_mem_nil, or_false] at hi
              subst hi
              refine J_oneH (by simp only [List.getElem?_toArray, List.getElem?_cons_succ, List.getElem?_cons_zero]; rfl) rfl (fun K hK => ?_)
              refine wp_append_src _ (.tmp 115) (.tmp 120) 34 rfl w8.heap.size 22 i0 (.slice none 0 0) 1 24 Try.underlying34 hi0 hz0 hz1 hz2 rfl (by decide) (.slice (some ⟨W9.heap.size, 0, none⟩) 0 0) 0 [] rfl OM.out _ i _ (((V κ).map Pk.val).take i) rfl HL1.out (fun _ => ⟨_, rfl, HS1.out _ F10.out⟩) (vals_tk _ _) HBD.out.1.1 HBD.out.1.2 F10.out.size ?_
              intro v11 W11 hA11
              have o11 := hA11.own
              obtain ⟨A11, c11, rfl, -, -⟩ := nown_form4 o11
              rw [Nat.zero_add, List.nil_append] at o11
              have F11 := Lib.hid (F10.out.trans hA11.fr (fun k hk hx => absurd (OM.out.lt k hx).1 (Nat.not_le.2 hk)))
              have O11 := Lib.hid o11
              clear hA11 o11
              try rw [Nat.zero_add]
              try simp only [Act.put, List.setIfInBounds_toArray, List.set_cons_zero, List.set_cons_succ]
              refine hK.out _ _ ⟨fun _ => HC8.out _ F11.out, ?_⟩
              clear hK K
              refine J_all (rs := [14]) (by kernel_rfl) (by simp) (fun i hi => ?_)
              simp only [List.mem_cons, List.not_mem_nil, or_false] at hi
              subst hi
              refine J_oneH (by simp only [List.getElem?_toArray, List.getElem?_cons_succ, List.getElem?_cons_zero]; rfl) rfl (fun K hK => ?_)
              refine wp_append_src _ (.tmp 121) (.tmp 127) 34 rfl w8.heap.size 22 i0 (.slice none 0 0) 1 24 Try.underlying34 hi0 hz0 hz1 hz2 rfl (by decide) (.slice A11 i c11) i (((V κ).map Pk.val).take i) rfl O11.out _ (nv - (i + 1)) _ (((V κ).map Pk.val).drop (i + 1)) rfl HL2.out (fun _ => ⟨_, rfl, HS2.out _ F11.out⟩) (vals_dr _ _) HBD.out.2.1 HBD.out.2.2 F11.out.size ?_
              intro v12 W12 hA12
              have o12 := hA12.own
              obtain ⟨A12, c12, rfl, -, -⟩ := nown_form4 o12
              have F12 := Lib.hid (F11.out.trans hA12.fr (fun k hk hx => absurd (O11.out.lt k hx).1 (Nat.not_le.2 hk)))
              have O12 := Lib.hid o12
              clear hA12 o12
              have hc12 := HC8.out _ F12.out
              have hz12 := (T8.out.fr F12.out (fun _ _ x => x)).frozen κ
              try simp only [Act.put, List.setIfInBounds_toArray, List.set_cons_zero, List.set_cons_succ]
              refine hK.out _ _ ⟨fun _ => hc12, ?_⟩
              clear hK K
              refine J_all (rs := [15]) (by kernel_rfl) (by simp) (fun i hi => ?_)
              simp only [List.mem_cons, List.not_mem_nil, or_false] at hi
              subst hi
              refine J_oneH (by simp only [List.getElem?_toArray, List.getElem?_cons_succ, List.getElem?_cons_zero]; rfl) rfl (fun K hK => ?_)
              go_simp
              try simp only [Act.put, List.setIfInBounds_toArray, List.set_cons_zero, List.set_cons_succ]
              refine hK.out _ _ ⟨fun _ => hc12, ?_⟩
              clear hK K
              refine J_all (rs := [16]) (by kernel_rfl) (by simp) (fun i hi => ?_)
              simp only [List.mem_cons, List.not_mem_nil, or_false] at hi
              subst hi
              refine J_oneH (by simp only [List.getElem?_toArray, List.getElem?_cons_succ, List.getElem?_cons_zero]; rfl) rfl (fun K hK => ?_)
              go_simp
              try simp only [Act.put, List.setIfInBounds_toArray, List.set_cons_zero, List.set_cons_succ]
              refine hK.out _ _ ⟨fun h => absurd rfl h, ?_⟩
              clear hK K hc12 hz12
              refine J_done (by kernel_rfl) ?_
              obtain ⟨X5, hS5⟩ := S7.out.less hK16 (R := (V κ).take i ++ (V κ).drop (i + 1)) (N8.out.fewer (fun g hg => .inl hg)) F8.out F12.out (less_row HNV.out HIV.out.1 O12.out) (fun y hy => (List.mem_append.1 hy).elim List.mem_of_mem_take List.mem_of_mem_drop) (by rw [HKEY.out]; exact less_perm (by have h1 := S7.out.perm κ hK16; rwa [HKEY.out] at h1) HI.out.1 (by rw [HI.out.2]; exact HNN.out)) (by rw [HKEY.out, bag_drop_same]; exact Nat.le_trans (List.length_eraseIdx_le _ _) (by have := S7.out.few κ hK16; rwa [HKEY.out] at this)) (fun q hq => bag_drop_other (by rw [← HKEY.out]; exact hq) _ _)
              obtain ⟨s9, V9, L9, hS9⟩ : ∃ s9 V9 L9, NS w _ X5 p (66 * k + 1) L9 T s9 V9 := ⟨_, _, _, hS5⟩
              have S5 := Lib.hid hS9
              clear hS5 hS9
              have HB5 := Lib.hid (show (66 * k + 1) ≤ 66 * (k + 1) by omega)
              go_wp2_with (fail)
              go_loopw [15] (fun i W2 => ∃ j : Nat, j ≤ 16 ∧ i = .int .i64 (j : Int) ∧ NS w W2 X5 p ((66 * k + 1)) (L9) T (s9) (V9)) (fun i _ => 16 - (intOf i).toNat)
              case atStart => exact ⟨0, by omega, rfl, S5.out⟩
              case round =>
                obtain ⟨j, hj, rfl, h2⟩ := hrel
                have S2 := Lib.hid h2
                clear h2 S5
                obtain ⟨L5, hL5⟩ : ∃ L5, L9 = L5 := ⟨_, rfl⟩
                obtain ⟨s5, hs5⟩ : ∃ s5, s9 = s5 := ⟨_, rfl⟩
                obtain ⟨V5, hV5⟩ : ∃ V5, V9 = V5 := ⟨_, rfl⟩
                obtain ⟨B5, hB5⟩ : ∃ B5, (66 * k + 1) = B5 := ⟨_, rfl⟩
                rw [hL5, hs5, hV5, hB5] at S2
                rw [hB5] at HB5
                have HEQ := Lib.hid (And.intro hL5 (And.intro hs5 (And.intro hV5 hB5)))
                clear hL5 hs5 hV5 hB5
                by_cases hlt2 : j < 16
                · have hji : (j : Int) < 16 := by omega
                  have hj0 : (0 : Int) ≤ (j : Int) := by omega
                  obtain ⟨A2, c2, e2, -, -⟩ := nown_form4 (S2.out.there.rows j hlt2).row
                  have hc2 := S2.out.there.cell hlt2
                  rw [e2, S2.out.len hlt2] at hc2
                  obtain ⟨ja, hja⟩ : ∃ ja : Nat, j / 4 = ja := ⟨_, rfl⟩
                  obtain ⟨jb, hjb⟩ : ∃ jb : Nat, j % 4 = jb := ⟨_, rfl⟩
                  have hkj : keyN j = ((ja : Int), (jb : Int)) := by unfold keyN; rw [hja, hjb]
                  have ht : (j : Int).tdiv 4 = (ja : Int) := by rw [Int.tdiv_eq_ediv_of_nonneg hj0]; omega
                  have hr : (j : Int).tmod 4 = (jb : Int) := by rw [Int.tmod_eq_emod_of_nonneg hj0]; omega
                  have hw1 : IntKind.i64.wrap ((j : Int).tdiv 4) = (ja : Int) := by rw [ht, IntKind.wrap_i64]; omega
                  have hw2 : IntKind.i64.wrap (ja : Int) = (ja : Int) := by rw [IntKind.wrap_i64]; omega
                  have HC := Lib.hid ((S2.out.step ((Fr.refl NoB wr).drew)).net.count (show InR ((ja : Int), (jb : Int)) from ⟨⟨by simp only; omega, by simp only; omega⟩, by simp only; omega, by simp only; omega⟩))
                  rw [hkj] at hc2
                  obtain ⟨nb, hnb⟩ : ∃ nb, (bag L5 ((ja : Int), (jb : Int))).length = nb := ⟨_, rfl⟩
                  rw [hnb] at hc2 HC
                  have HS2 := Lib.hid (fun Z (f : Fr NoB wr Z) => (show Z.cell? ⟨T, j, none⟩ = some (.slice A2 nb c2) from (f.cell (p := ⟨T, j, none⟩) (World.block_lt_of_cell? _ _ hc2) (fun x => x)).trans hc2))
                  clear hja hjb hkj e2 hnb
                  go_wp2_with (fail)
                  go_region_held3 (fun Z => Z.cell? ⟨T, j, none⟩ = some (.slice A2 nb c2)) (first
                    | with_reducible exact HS2.out _ (Fr.refl NoB wr)
                    | with_reducible exact HS2.out _ ((Fr.refl NoB wr).drew)) (first
                    | ((with_reducible refine HC.out.mono ?_); rintro e w2 ⟨rfl, rfl⟩))
                  go_wp2_with (fail)
                  go_roundw
                  case rel =>
                    refine ⟨j + 1, by omega, by go_num, ?_⟩
                    obtain ⟨e1, e2, e3, e4⟩ := HEQ.out
                    rw [e1, e2, e3, e4]
                    exact S2.out.step ((Fr.refl NoB wr).drew)
                  case measure => simp [intOf]; omega
                · obtain rfl : j = 16 := by omega
                  go_wp2_with (fail)
                  go_roundw
                  case rel => exact ⟨k + 1, L5, X5, s5, V5, by omega, by go_num, S2.out.le HB5.out⟩
                  case measure => simp [intOf]; omega
        · as_aux_lemma =>
          have HP := Lib.hid (peeked_calls S7.out.net S7.out.net.fr.size (by have := HBK.out.1; omega) HKR.out z (by rw [← HKEY.out]; exact S7.out.few κ hK16) (by rw [← HKEY.out]; exact S7.out.lens hK16))
          go_wp2_with (fail)
          refine HP.out.mono ?_
          rintro e w8 ⟨A8, c8, rfl, o8, l8, L8, sb8, n8, f8⟩
          have hb8 := (HSF.out _ f8).1
          have S8 := Lib.hid (S7.out.alone (n8.fewer (fun g hg => .inl hg)) f8 sb8)
          have HT := Lib.hid (n8.twiceA (show 66 * k + 64 < maxLen by have := HBK.out; unfold maxLen; omega) HKR.out z)
          have HSB := Lib.hid sb8
          have HO8 := Lib.hid o8
          have HL8 := Lib.hid l8
          have HF8 := Lib.hid f8
          have HN8 := Lib.hid n8
          have hlb8 : (tkB L ((fm : Int), (tm : Int)) z).length ≤ 1048576 := by
            unfold tkB
            cases hm : meant L ((fm : Int), (tm : Int)) z with
            | none => simp
            | some l2 =>
              obtain ⟨n2, -, -, h2⟩ := meant_some hm
              exact S7.out.lens hK16 l2 (by rw [HKEY.out]; exact List.mem_of_getElem? h2)
          have HLB8 := Lib.hid hlb8
          obtain ⟨A3, c3, e3, -, -⟩ := nown_form4 (S8.out.there.rows κ hK16).row
          have hlen := S8.out.len hK16
          rw [HKEY.out, sb8] at hlen
          have HLEN := Lib.hid hlen
          have HE3 := Lib.hid e3
          clear sb8 n8 f8 o8 l8 hlb8 HP hlen e3
          cases hm : meant L ((fm : Int), (tm : Int)) z with
          | none =>
            have htw : twOk L8 ((fm : Int), (tm : Int)) z = false ∧ twL L8 ((fm : Int), (tm : Int)) z = L8 := by unfold twOk twL; rw [meant_same HSB.out, hm]; exact ⟨rfl, rfl⟩
            rw [htw.1, htw.2] at HT
            clear hm htw
            go_wp2_with (fail)
            refine HT.out.mono ?_
            rintro e w9 ⟨rfl, n9, f9⟩
            obtain ⟨X5, hX5⟩ : ∃ X5, Y = X5 := ⟨_, rfl⟩
            have S5 := Lib.hid (S8.out.alone (n9.fewer (fun g hg => .inl hg)) (f9.mono fun g _ hg hx => hg (.inl hx)) (fun _ => rfl))
            rw [hX5] at S5
            clear hX5 n9 f9
            go_wp2_with (fail)
            have HB5 := Lib.hid (show (66 * k + 64 + 1) ≤ 66 * (k + 1) by omega)
            go_wp2_with (fail)
            go_loopw [15] (fun i W2 => ∃ j : Nat, j ≤ 16 ∧ i = .int .i64 (j : Int) ∧ NS w W2 X5 p ((66 * k + 64 + 1)) (L8) T (s) (V)) (fun i _ => 16 - (intOf i).toNat)
            case atStart => exact ⟨0, by omega, rfl, S5.out⟩
            case round =>
              obtain ⟨j, hj, rfl, h2⟩ := hrel
              have S2 := Lib.hid h2
              clear h2 S5
              obtain ⟨L5, hL5⟩ : ∃ L5, L8 = L5 := ⟨_, rfl⟩
              obtain ⟨s5, hs5⟩ : ∃ s5, s = s5 := ⟨_, rfl⟩
              obtain ⟨V5, hV5⟩ : ∃ V5, V = V5 := ⟨_, rfl⟩
              obtain ⟨B5, hB5⟩ : ∃ B5, (66 * k + 64 + 1) = B5 := ⟨_, rfl⟩
              rw [hL5, hs5, hV5, hB5] at S2
              rw [hB5] at HB5
              have HEQ := Lib.hid (And.intro hL5 (And.intro hs5 (And.intro hV5 hB5)))
              clear hL5 hs5 hV5 hB5
              by_cases hlt2 : j < 16
              · have hji : (j : Int) < 16 := by omega
                have hj0 : (0 : Int) ≤ (j : Int) := by omega
                obtain ⟨A2, c2, e2, -, -⟩ := nown_form4 (S2.out.there.rows j hlt2).row
                have hc2 := S2.out.there.cell hlt2
                rw [e2, S2.out.len hlt2] at hc2
                obtain ⟨ja, hja⟩ : ∃ ja : Nat, j / 4 = ja := ⟨_, rfl⟩
                obtain ⟨jb, hjb⟩ : ∃ jb : Nat, j % 4 = jb := ⟨_, rfl⟩
                have hkj : keyN j = ((ja : Int), (jb : Int)) := by unfold keyN; rw [hja, hjb]
                have ht : (j : Int).tdiv 4 = (ja : Int) := by rw [Int.tdiv_eq_ediv_of_nonneg hj0]; omega
                have hr : (j : Int).tmod 4 = (jb : Int) := by rw [Int.tmod_eq_emod_of_nonneg hj0]; omega
                have hw1 : IntKind.i64.wrap ((j : Int).tdiv 4) = (ja : Int) := by rw [ht, IntKind.wrap_i64]; omega
                have hw2 : IntKind.i64.wrap (ja : Int) = (ja : Int) := by rw [IntKind.wrap_i64]; omega
                have HC := Lib.hid ((S2.out.step ((Fr.refl NoB wr).drew)).net.count (show InR ((ja : Int), (jb : Int)) from ⟨⟨by simp only; omega, by simp only; omega⟩, by simp only; omega, by simp only; omega⟩))
                rw [hkj] at hc2
                obtain ⟨nb, hnb⟩ : ∃ nb, (bag L5 ((ja : Int), (jb : Int))).length = nb := ⟨_, rfl⟩
                rw [hnb] at hc2 HC
                have HS2 := Lib.hid (fun Z (f : Fr NoB wr Z) => (show Z.cell? ⟨T, j, none⟩ = some (.slice A2 nb c2) from (f.cell (p := ⟨T, j, none⟩) (World.block_lt_of_cell? _ _ hc2) (fun x => x)).trans hc2))
                clear hja hjb hkj e2 hnb
                go_wp2_with (fail)
                go_region_held3 (fun Z => Z.cell? ⟨T, j, none⟩ = some (.slice A2 nb c2)) (first
                  | with_reducible exact HS2.out _ (Fr.refl NoB wr)
                  | with_reducible exact HS2.out _ ((Fr.refl NoB wr).drew)) (first
                  | ((with_reducible refine HC.out.mono ?_); rintro e w2 ⟨rfl, rfl⟩))
                go_wp2_with (fail)
                go_roundw
                case rel =>
                  refine ⟨j + 1, by omega, by go_num, ?_⟩
                  obtain ⟨e1, e2, e3, e4⟩ := HEQ.out
                  rw [e1, e2, e3, e4]
                  exact S2.out.step ((Fr.refl NoB wr).drew)
                case measure => simp [intOf]; omega
              · obtain rfl : j = 16 := by omega
                go_wp2_with (fail)
                go_roundw
                case rel => exact ⟨k + 1, L5, X5, s5, V5, by omega, by go_num, S2.out.le HB5.out⟩
                case measure => simp [intOf]; omega
          | some l2 =>
            have hbl2 : tkB L ((fm : Int), (tm : Int)) z = l2 := by unfold tkB; rw [hm]; rfl
            have hms : meant L8 ((fm : Int), (tm : Int)) z = some l2 := by rw [meant_same HSB.out, hm]
            rw [hbl2] at HO8 HL8 HT HLB8 HN8 ⊢
            clear hbl2 hm
            obtain ⟨nv, hnv⟩ : ∃ nv, (V κ).length = nv := ⟨_, rfl⟩
            have HNV := Lib.hid hnv
            by_cases hfull : (bag L ((fm : Int), (tm : Int))).length < 32
            · have htw : twOk L8 ((fm : Int), (tm : Int)) z = true ∧ twL L8 ((fm : Int), (tm : Int)) z = L8 ++ [(((fm : Int), (tm : Int)), l2)] := by unfold twOk twL; rw [hms]; exact sendok_true (by rw [HSB.out]; exact hfull) HLB8.out
              rw [htw.1, htw.2] at HT
              have hnv32 : (nv : Int) < 32 := by have := HLEN.out; omega
              have HFU := Lib.hid hfull
              clear htw hms hnv hfull
              go_wp2_with (fail)
              refine HT.out.mono ?_
              rintro e w9 ⟨rfl, n9, f9⟩
              have T9 := Lib.hid (S8.out.there.fr f9 (fun g hg hx => hx (.inl hg)))
              have HE := Lib.hid (show s κ = .slice A3 nv c3 from by have := HE3.out; rw [HNV.out] at this; exact this)
              have hcl := T9.out.cell hK16
              rw [HE.out] at hcl
              have N9 := Lib.hid n9
              have F9 := Lib.hid f9
              have TA := Lib.hid (T9.out.fr ((Fr.refl NoB w9).alloc (.cells #[.slice A8 l2.length c8] 22)) (fun _ _ x => x))
              have NWA := Lib.hid (World.news_of_block (heap_alloc_new w9 (.cells #[.slice A8 l2.length c8] 22)))
              have ORW := Lib.hid (show (w9.alloc (.cells #[.slice A8 l2.length c8] 22)).ownsRow 0 22 1 (.slice A3 nv c3) nv ((V κ).map Pk.val) from by have := (TA.out.rows κ hK16).row; rwa [HE.out, HNV.out] at this)
              clear n9 f9 HE3
              go_wp2_with (first | (at_builtin; refine wpList_append_src _ rfl _ _ 34 rfl 0 22 i0 (.slice none 0 0) 1 24 Try.underlying34 hi0 hz0 hz1 hz2 rfl (by decide) (.slice A3 nv c3) nv ((V κ).map Pk.val) rfl ORW.out _ 1 _ [Pk.val ⟨A8, c8, l2⟩] rfl rfl (fun _ => ⟨_, rfl, NWA.out⟩) (by intro u hu; rw [List.mem_singleton.1 hu]; rfl) (by unfold maxLen; omega) (by omega) (Nat.zero_le _) ?_; intro v4 W4 hA4; obtain ⟨A10, c10, rfl, -, -⟩ := nown_form4 hA4.own; have A4 := Lib.hid hA4; have hth := TA.out.thaw hK16 (show Fr _ _ W4 from by rw [HE.out]; exact hA4.fr); obtain ⟨hc4, hz4⟩ := hth; rw [HE.out] at hc4; clear hA4) | fail)
              have S8w : NS w w8 (fun g => Y g ∨ (Value.slice A8 l2.length c8).ownBlock = some g) p (66 * k + 64) L8 T s V := ⟨HN8.out, S8.out.there.mono (fun g hg => .inl hg), fun g hg => hg.elim (S8.out.low g) (fun e => (HL8.out g e).elim (S8.out.low g) id), S8.out.perm, S8.out.few⟩
              obtain ⟨X5, hS5⟩ := S8w.more hK16 (x := ⟨A8, c8, l2⟩) N9.out F9.out (Fr.refl NoB w9) (ownBlock_kept HO8.out F9.out (fun g hg hx => hx (.inr hg))) (fun g hg => .inl (.inr hg)) HLB8.out (by rw [HE.out, HNV.out]; exact A4.out) (by rw [HKEY.out]; exact bag_snoc_same _ _ _) (fun q hq => bag_snoc_other _ (by rw [← HKEY.out]; exact Ne.symm hq) _) (by rw [HKEY.out, HSB.out]; exact HFU.out)
              have S5 := Lib.hid hS5
              clear hS5
              have HB5 := Lib.hid (show (66 * k + 64 + 1) ≤ 66 * (k + 1) by omega)
              go_wp2_with (fail)
              go_loopw [15] (fun i W2 => ∃ j : Nat, j ≤ 16 ∧ i = .int .i64 (j : Int) ∧ NS w W2 X5 p ((66 * k + 64 + 1)) ((L8 ++ [(((fm : Int), (tm : Int)), l2)])) T ((updN s κ (.slice A10 (nv + 1) c10))) ((updN V κ (V κ ++ [⟨A8, c8, l2⟩])))) (fun i _ => 16 - (intOf i).toNat)
              case atStart => exact ⟨0, by omega, rfl, S5.out⟩
              case round =>
                obtain ⟨j, hj, rfl, h2⟩ := hrel
                have S2 := Lib.hid h2
                clear h2 S5
                obtain ⟨L5, hL5⟩ : ∃ L5, (L8 ++ [(((fm : Int), (tm : Int)), l2)]) = L5 := ⟨_, rfl⟩
                obtain ⟨s5, hs5⟩ : ∃ s5, (updN s κ (.slice A10 (nv + 1) c10)) = s5 := ⟨_, rfl⟩
                obtain ⟨V5, hV5⟩ : ∃ V5, (updN V κ (V κ ++ [⟨A8, c8, l2⟩])) = V5 := ⟨_, rfl⟩
                obtain ⟨B5, hB5⟩ : ∃ B5, (66 * k + 64 + 1) = B5 := ⟨_, rfl⟩
                rw [hL5, hs5, hV5, hB5] at S2
                rw [hB5] at HB5
                have HEQ := Lib.hid (And.intro hL5 (And.intro hs5 (And.intro hV5 hB5)))
                clear hL5 hs5 hV5 hB5
                by_cases hlt2 : j < 16
                · have hji : (j : Int) < 16 := by omega
                  have hj0 : (0 : Int) ≤ (j : Int) := by omega
                  obtain ⟨A2, c2, e2, -, -⟩ := nown_form4 (S2.out.there.rows j hlt2).row
                  have hc2 := S2.out.there.cell hlt2
                  rw [e2, S2.out.len hlt2] at hc2
                  obtain ⟨ja, hja⟩ : ∃ ja : Nat, j / 4 = ja := ⟨_, rfl⟩
                  obtain ⟨jb, hjb⟩ : ∃ jb : Nat, j % 4 = jb := ⟨_, rfl⟩
                  have hkj : keyN j = ((ja : Int), (jb : Int)) := by unfold keyN; rw [hja, hjb]
                  have ht : (j : Int).tdiv 4 = (ja : Int) := by rw [Int.tdiv_eq_ediv_of_nonneg hj0]; omega
                  have hr : (j : Int).tmod 4 = (jb : Int) := by rw [Int.tmod_eq_emod_of_nonneg hj0]; omega
                  have hw1 : IntKind.i64.wrap ((j : Int).tdiv 4) = (ja : Int) := by rw [ht, IntKind.wrap_i64]; omega
                  have hw2 : IntKind.i64.wrap (ja : Int) = (ja : Int) := by rw [IntKind.wrap_i64]; omega
                  have HC := Lib.hid ((S2.out.step ((Fr.refl NoB wr).drew)).net.count (show InR ((ja : Int), (jb : Int)) from ⟨⟨by simp only; omega, by simp only; omega⟩, by simp only; omega, by simp only; omega⟩))
                  rw [hkj] at hc2
                  obtain ⟨nb, hnb⟩ : ∃ nb, (bag L5 ((ja : Int), (jb : Int))).length = nb := ⟨_, rfl⟩
                  rw [hnb] at hc2 HC
                  have HS2 := Lib.hid (fun Z (f : Fr NoB wr Z) => (show Z.cell? ⟨T, j, none⟩ = some (.slice A2 nb c2) from (f.cell (p := ⟨T, j, none⟩) (World.block_lt_of_cell? _ _ hc2) (fun x => x)).trans hc2))
                  clear hja hjb hkj e2 hnb
                  go_wp2_with (fail)
                  go_region_held3 (fun Z => Z.cell? ⟨T, j, none⟩ = some (.slice A2 nb c2)) (first
                    | with_reducible exact HS2.out _ (Fr.refl NoB wr)
                    | with_reducible exact HS2.out _ ((Fr.refl NoB wr).drew)) (first
                    | ((with_reducible refine HC.out.mono ?_); rintro e w2 ⟨rfl, rfl⟩))
                  go_wp2_with (fail)
                  go_roundw
                  case rel =>
                    refine ⟨j + 1, by omega, by go_num, ?_⟩
                    obtain ⟨e1, e2, e3, e4⟩ := HEQ.out
                    rw [e1, e2, e3, e4]
                    exact S2.out.step ((Fr.refl NoB wr).drew)
                  case measure => simp [intOf]; omega
                · obtain rfl : j = 16 := by omega
                  go_wp2_with (fail)
                  go_roundw
                  case rel => exact ⟨k + 1, L5, X5, s5, V5, by omega, by go_num, S2.out.le HB5.out⟩
                  case measure => simp [intOf]; omega
            · have htw : twOk L8 ((fm : Int), (tm : Int)) z = false ∧ twL L8 ((fm : Int), (tm : Int)) z = L8 := by unfold twOk twL; rw [hms]; exact sendok_false (.inl (by rw [HSB.out]; exact Nat.le_of_not_lt hfull))
              rw [htw.1, htw.2] at HT
              have hnv32 : ¬ (nv : Int) < 32 := by have := HLEN.out; omega
              clear htw hms hnv hfull
              go_wp2_with (fail)
              refine HT.out.mono ?_
              rintro e w9 ⟨rfl, n9, f9⟩
              obtain ⟨X5, hX5⟩ : ∃ X5, Y = X5 := ⟨_, rfl⟩
              have S5 := Lib.hid (S8.out.alone (n9.fewer (fun g hg => .inl hg)) (f9.mono fun g _ hg hx => hg (.inl hx)) (fun _ => rfl))
              have hcl := S5.out.there.cell hK16
              rw [HE3.out, HNV.out] at hcl
              rw [hX5] at S5
              clear hX5 n9 f9
              go_wp2_with (fail)
              have HB5 := Lib.hid (show (66 * k + 64 + 1) ≤ 66 * (k + 1) by omega)
              go_wp2_with (fail)
              go_loopw [15] (fun i W2 => ∃ j : Nat, j ≤ 16 ∧ i = .int .i64 (j : Int) ∧ NS w W2 X5 p ((66 * k + 64 + 1)) (L8) T (s) (V)) (fun i _ => 16 - (intOf i).toNat)
              case atStart => exact ⟨0, by omega, rfl, S5.out⟩
              case round =>
                obtain ⟨j, hj, rfl, h2⟩ := hrel
                have S2 := Lib.hid h2
                clear h2 S5
                obtain ⟨L5, hL5⟩ : ∃ L5, L8 = L5 := ⟨_, rfl⟩
                obtain ⟨s5, hs5⟩ : ∃ s5, s = s5 := ⟨_, rfl⟩
                obtain ⟨V5, hV5⟩ : ∃ V5, V = V5 := ⟨_, rfl⟩
                obtain ⟨B5, hB5⟩ : ∃ B5, (66 * k + 64 + 1) = B5 := ⟨_, rfl⟩
                rw [hL5, hs5, hV5, hB5] at S2
                rw [hB5] at HB5
                have HEQ := Lib.hid (And.intro hL5 (And.intro hs5 (And.intro hV5 hB5)))
                clear hL5 hs5 hV5 hB5
                by_cases hlt2 : j < 16
                · have hji : (j : Int) < 16 := by omega
                  have hj0 : (0 : Int) ≤ (j : Int) := by omega
                  obtain ⟨A2, c2, e2, -, -⟩ := nown_form4 (S2.out.there.rows j hlt2).row
                  have hc2 := S2.out.there.cell hlt2
                  rw [e2, S2.out.len hlt2] at hc2
                  obtain ⟨ja, hja⟩ : ∃ ja : Nat, j / 4 = ja := ⟨_, rfl⟩
                  obtain ⟨jb, hjb⟩ : ∃ jb : Nat, j % 4 = jb := ⟨_, rfl⟩
                  have hkj : keyN j = ((ja : Int), (jb : Int)) := by unfold keyN; rw [hja, hjb]
                  have ht : (j : Int).tdiv 4 = (ja : Int) := by rw [Int.tdiv_eq_ediv_of_nonneg hj0]; omega
                  have hr : (j : Int).tmod 4 = (jb : Int) := by rw [Int.tmod_eq_emod_of_nonneg hj0]; omega
                  have hw1 : IntKind.i64.wrap ((j : Int).tdiv 4) = (ja : Int) := by rw [ht, IntKind.wrap_i64]; omega
                  have hw2 : IntKind.i64.wrap (ja : Int) = (ja : Int) := by rw [IntKind.wrap_i64]; omega
                  have HC := Lib.hid ((S2.out.step ((Fr.refl NoB wr).drew)).net.count (show InR ((ja : Int), (jb : Int)) from ⟨⟨by simp only; omega, by simp only; omega⟩, by simp only; omega, by simp only; omega⟩))
                  rw [hkj] at hc2
                  obtain ⟨nb, hnb⟩ : ∃ nb, (bag L5 ((ja : Int), (jb : Int))).length = nb := ⟨_, rfl⟩
                  rw [hnb] at hc2 HC
                  have HS2 := Lib.hid (fun Z (f : Fr NoB wr Z) => (show Z.cell? ⟨T, j, none⟩ = some (.slice A2 nb c2) from (f.cell (p := ⟨T, j, none⟩) (World.block_lt_of_cell? _ _ hc2) (fun x => x)).trans hc2))
                  clear hja hjb hkj e2 hnb
                  go_wp2_with (fail)
                  go_region_held3 (fun Z => Z.cell? ⟨T, j, none⟩ = some (.slice A2 nb c2)) (first
                    | with_reducible exact HS2.out _ (Fr.refl NoB wr)
                    | with_reducible exact HS2.out _ ((Fr.refl NoB wr).drew)) (first
                    | ((with_reducible refine HC.out.mono ?_); rintro e w2 ⟨rfl, rfl⟩))
                  go_wp2_with (fail)
                  go_roundw
                  case rel =>
                    refine ⟨j + 1, by omega, by go_num, ?_⟩
                    obtain ⟨e1, e2, e3, e4⟩ := HEQ.out
                    rw [e1, e2, e3, e4]
                    exact S2.out.step ((Fr.refl NoB wr).drew)
                  case measure => simp [intOf]; omega
                · obtain rfl : j = 16 := by omega
                  go_wp2_with (fail)
                  go_roundw
                  case rel => exact ⟨k + 1, L5, X5, s5, V5, by omega, by go_num, S2.out.le HB5.out⟩
                  case measure => simp [intOf]; omega
        · as_aux_lemma =>
          obtain ⟨κ2, hκ2⟩ : ∃ κ2 : Nat, 4 * (tm : Int) + (fm : Int) = (κ2 : Int) := ⟨4 * tm + fm, by omega⟩
          have hκ16 : κ2 < 16 := by omega
          have hkey2 : keyN κ2 = ((tm : Int), (fm : Int)) := by unfold keyN; exact Prod.ext (by simp only; omega) (by simp only; omega)
          have HKEY2 := Lib.hid hkey2
          clear hkey2
          have hκI : (κ2 : Int) < 16 := by omega
          have hκ0 : (0 : Int) ≤ (κ2 : Int) := by omega
          go_wp2_with (fail)
          refine (S7.out.net.clear HKR.out).mono ?_
          rintro e w8 ⟨rfl, n8, f8⟩
          have T8 := Lib.hid (S7.out.there.fr f8 (fun g hg hx => hx hg))
          have hz1' := T8.out.frozen κ
          have hz2' := T8.out.frozen κ2
          have hc1' := T8.out.cell hK16
          have hc2' := T8.out.cell hκ16
          have T82 := Lib.hid (T8.out.put hK16 (Fr.refl NoB w8) (fun _ x => x.elim) (fun _ x => x) (OR.nil w8 Y) (fun g hg => by simp [Value.ownBlock] at hg))
          have hz22 := T82.out.frozen κ2
          have hc22 := T82.out.cell hκ16
          obtain ⟨u22, hu22⟩ : ∃ u, updN s κ (Value.slice none 0 0) κ2 = u := ⟨_, rfl⟩
          rw [hu22] at hc22
          clear hu22
          obtain ⟨X5, hX5⟩ : ∃ X5, Y = X5 := ⟨_, rfl⟩
          have S5 := Lib.hid (S7.out.cleared hK16 hκ16 HKEY.out HKEY2.out n8 f8)
          rw [hX5] at S5
          clear n8 f8 hX5
          go_wp2_with (fail)
          have HB5 := Lib.hid (show (66 * k) ≤ 66 * (k + 1) by omega)
          go_wp2_with (fail)
          go_loopw [15] (fun i W2 => ∃ j : Nat, j ≤ 16 ∧ i = .int .i64 (j : Int) ∧ NS w W2 X5 p ((66 * k)) ((clearL L (fm : Int) (tm : Int))) T ((updN (updN s κ (.slice none 0 0)) κ2 (.slice none 0 0))) ((updN (updN V κ []) κ2 []))) (fun i _ => 16 - (intOf i).toNat)
          case atStart => exact ⟨0, by omega, rfl, S5.out⟩
          case round =>
            obtain ⟨j, hj, rfl, h2⟩ := hrel
            have S2 := Lib.hid h2
            clear h2 S5
            obtain ⟨L5, hL5⟩ : ∃ L5, (clearL L (fm : Int) (tm : Int)) = L5 := ⟨_, rfl⟩
            obtain ⟨s5, hs5⟩ : ∃ s5, (updN (updN s κ (.slice none 0 0)) κ2 (.slice none 0 0)) = s5 := ⟨_, rfl⟩
            obtain ⟨V5, hV5⟩ : ∃ V5, (updN (updN V κ []) κ2 []) = V5 := ⟨_, rfl⟩
            obtain ⟨B5, hB5⟩ : ∃ B5, (66 * k) = B5 := ⟨_, rfl⟩
            rw [hL5, hs5, hV5, hB5] at S2
            rw [hB5] at HB5
            have HEQ := Lib.hid (And.intro hL5 (And.intro hs5 (And.intro hV5 hB5)))
            clear hL5 hs5 hV5 hB5
            by_cases hlt2 : j < 16
            · have hji : (j : Int) < 16 := by omega
              have hj0 : (0 : Int) ≤ (j : Int) := by omega
              obtain ⟨A2, c2, e2, -, -⟩ := nown_form4 (S2.out.there.rows j hlt2).row
              have hc2 := S2.out.there.cell hlt2
              rw [e2, S2.out.len hlt2] at hc2
              obtain ⟨ja, hja⟩ : ∃ ja : Nat, j / 4 = ja := ⟨_, rfl⟩
              obtain ⟨jb, hjb⟩ : ∃ jb : Nat, j % 4 = jb := ⟨_, rfl⟩
              have hkj : keyN j = ((ja : Int), (jb : Int)) := by unfold keyN; rw [hja, hjb]
              have ht : (j : Int).tdiv 4 = (ja : Int) := by rw [Int.tdiv_eq_ediv_of_nonneg hj0]; omega
              have hr : (j : Int).tmod 4 = (jb : Int) := by rw [Int.tmod_eq_emod_of_nonneg hj0]; omega
              have hw1 : IntKind.i64.wrap ((j : Int).tdiv 4) = (ja : Int) := by rw [ht, IntKind.wrap_i64]; omega
              have hw2 : IntKind.i64.wrap (ja : Int) = (ja : Int) := by rw [IntKind.wrap_i64]; omega
              have HC := Lib.hid ((S2.out.step ((Fr.refl NoB wr).drew)).net.count (show InR ((ja : Int), (jb : Int)) from ⟨⟨by simp only; omega, by simp only; omega⟩, by simp only; omega, by simp only; omega⟩))
              rw [hkj] at hc2
              obtain ⟨nb, hnb⟩ : ∃ nb, (bag L5 ((ja : Int), (jb : Int))).length = nb := ⟨_, rfl⟩
              rw [hnb] at hc2 HC
              have HS2 := Lib.hid (fun Z (f : Fr NoB wr Z) => (show Z.cell? ⟨T, j, none⟩ = some (.slice A2 nb c2) from (f.cell (p := ⟨T, j, none⟩) (World.block_lt_of_cell? _ _ hc2) (fun x => x)).trans hc2))
              clear hja hjb hkj e2 hnb
              go_wp2_with (fail)
              go_region_held3 (fun Z => Z.cell? ⟨T, j, none⟩ = some (.slice A2 nb c2)) (first
                | with_reducible exact HS2.out _ (Fr.refl NoB wr)
                | with_reducible exact HS2.out _ ((Fr.refl NoB wr).drew)) (first
                | ((with_reducible refine HC.out.mono ?_); rintro e w2 ⟨rfl, rfl⟩))
              go_wp2_with (fail)
              go_roundw
              case rel =>
                refine ⟨j + 1, by omega, by go_num, ?_⟩
                obtain ⟨e1, e2, e3, e4⟩ := HEQ.out
                rw [e1, e2, e3, e4]
                exact S2.out.step ((Fr.refl NoB wr).drew)
              case measure => simp [intOf]; omega
            · obtain rfl : j = 16 := by omega
              go_wp2_with (fail)
              go_roundw
              case rel => exact ⟨k + 1, L5, X5, s5, V5, by omega, by go_num, S2.out.le HB5.out⟩
              case measure => simp [intOf]; omega
    · obtain rfl : k = 200 := by omega
      go_wp2
      go_ret
      exact ⟨rfl, S.out.net.fr⟩
end Go.Proofs.Ytmgkenbfjlahpaa

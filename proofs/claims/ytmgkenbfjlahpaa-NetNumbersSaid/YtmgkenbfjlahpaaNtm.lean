/-
  Ntm: NetNumbers: the walk.
-/
import Derived.Test.YtmgkenbfjlahpaaNtl
import Derived.Laws.OwnMore
namespace Go.Proofs.Ytmgkenbfjlahpaa
open Go.RowKit Go.WideMaps Go.Sort

/-- The link at the ends. -/
abbrev KE : Lk := (-9223372036854775808, 9223372036854775807)
def nlK (k : Nat) : List (Lk × List UInt8) := (List.range k).map fun i => (KE, [UInt8.ofNat i])
theorem nlK_succ (k : Nat) : nlK (k + 1) = nlK k ++ [(KE, [UInt8.ofNat k])] := by simp [nlK, List.range_succ]
theorem nlK_bag (k : Nat) : bag (nlK k) KE = (List.range k).map fun i => [UInt8.ofNat i] := by
  induction k with
  | zero => rfl
  | succ k ih => rw [nlK_succ, bag_snoc_same, ih, List.range_succ, List.map_append]; rfl
theorem nlK_len (k : Nat) : (bag (nlK k) KE).length = k := by rw [nlK_bag]; simp
theorem u8_cast {k : Nat} (h : k < 32) : (k : Int) % 256 = ((UInt8.ofNat k).toNat : Int) := by
  simp only [UInt8.toNat_ofNat']; omega

theorem rd_one (w : World) (k : Nat) (h : k < 32) (t : TypeId) : Rd (w.alloc (.cells #[.int .u8 (k : Int)] t)) 0 (w.alloc (.cells #[.int .u8 (k : Int)] t)).heap.size (some ⟨w.heap.size, 0, none⟩) [UInt8.ofNat k] := by
  have h1 := rd_new w [UInt8.ofNat k] t (0, 0)
  have h2 : (bv [UInt8.ofNat k]).toArray = #[.int .u8 (k : Int)] := by
    have := u8_cast h
    rw [show (k : Int) % 256 = (k : Int) by omega] at this
    rw [this]; rfl
  rw [h2] at h1
  exact h1
theorem nm1 : sendOk (nlK 32) KE [] = false ∧ sendL (nlK 32) KE [] = nlK 32 := sendok_false (.inl (by rw [nlK_len]; exact Nat.le_refl _))
theorem nm2 : (bag (nlK 32) KE)[0]? = some [0] ∧ (bag (nlK 32) KE)[31]? = some [31] ∧ (bag (nlK 31) KE)[30]? = some [30] := by
  rw [nlK_bag, nlK_bag]; exact ⟨rfl, rfl, rfl⟩
theorem nm3 : sendOk (nlK 32) KE [0] = false ∧ sendL (nlK 32) KE [0] = nlK 32 := sendok_false (.inl (by rw [nlK_len]; exact Nat.le_refl _))
theorem drop_last {α : Type} (L : List (Lk × α)) (k : Lk) (x : α) : dropL (L ++ [(k, x)]) k (bag L k).length = L := by
  induction L with
  | nil => simp [dropL, bag]
  | cons y L ih =>
    obtain ⟨k', z⟩ := y
    by_cases h : k' = k
    · subst h
      rw [bag_cons_same, List.length_cons, List.cons_append]
      simp only [dropL, if_true]
      rw [ih]
    · rw [bag_cons_other h, List.cons_append]
      simp only [dropL, if_neg h]
      rw [ih]
theorem nm4 : dropL (nlK 32) KE 31 = nlK 31 := by
  have h := drop_last (nlK 31) KE [UInt8.ofNat 31]
  rw [nlK_len] at h
  rw [nlK_succ 31]
  exact h
theorem nm5 : sendOk (nlK 31) KE [30] = true ∧ sendL (nlK 31) KE [30] = nlK 31 ++ [(KE, [30])] := sendok_true (by rw [nlK_len]; omega) (by decide)
theorem nm6 : dropL (nlK 31 ++ [(KE, ([30] : List UInt8))]) KE 31 = nlK 31 ∧ (bag (nlK 31 ++ [(KE, ([30] : List UInt8))]) KE)[31]? = some [30] := by
  have h := drop_last (nlK 31) KE [30]
  rw [nlK_len] at h
  refine ⟨h, ?_⟩
  rw [bag_snoc_same, List.getElem?_append_right (by rw [nlK_len]; omega), nlK_len]; rfl

theorem made (n : Nat) (hn : n ≤ 1048577) : ∃ Z : List UInt8, Z.length = n ∧ ∀ W : World, (Instr.makeSlice 22 (.int .i64 (n : Int)) (.int .i64 (n : Int))).run Try.prog W = .ok (.slice (some ⟨W.heap.size, 0, none⟩) n n) (W.alloc (.cells (bv Z).toArray 5)) := by
  obtain ⟨i0, hi, hz0, hz1, hz2⟩ := info_parts info_byte
  refine ⟨List.replicate n 0, by simp, fun W => ?_⟩
  have h := run_make (P := Try.prog) W 22 5 i0 (.int .u8 0) Try.underlying22 hi hz0 .i64 .i64 (n : Int) (n : Int) (by omega) (by omega) (by rw [hz2]; omega) (by omega)
  rw [hz1] at h
  have e : (bv (List.replicate n 0)).toArray = madeCells #[.int .u8 0] n := by
    apply Array.toList_inj.1
    rw [toList_madeCells_one, List.toList_toArray, bv, List.map_replicate]; rfl
  rw [e]
  simpa [Value.cells] using h
section
variable (Z : List UInt8)
def mL1 : List (Lk × List UInt8) := [((1, 1), Z)]
def mL2 : List (Lk × List UInt8) := [((1, 1), Z), ((1, 1), [])]
def mL3 : List (Lk × List UInt8) := [((1, 1), Z), ((1, 1), []), ((3, 2), [])]
def mL4 : List (Lk × List UInt8) := [((1, 1), Z), ((1, 1), []), ((3, 2), []), ((2, 3), [])]
def mL5 : List (Lk × List UInt8) := [((1, 1), Z), ((1, 1), []), ((3, 2), []), ((2, 3), []), ((2, -3), [])]
def mL6 : List (Lk × List UInt8) := [((1, 1), Z), ((1, 1), []), ((3, 2), []), ((2, 3), []), ((2, -3), []), ((-1, 3), [])]
theorem mS0 (Y : List UInt8) (h : Y.length = 1048577) : sendOk [] (1, 1) Y = false ∧ sendL [] (1, 1) Y = [] := sendok_false (.inr (by omega))
theorem mS1 (h : Z.length = 1048576) : sendOk [] (1, 1) Z = true ∧ sendL [] (1, 1) Z = mL1 Z := sendok_true (by decide) (by omega)
theorem mS2 : sendOk (mL1 Z) (1, 1) [] = true ∧ sendL (mL1 Z) (1, 1) [] = mL2 Z := sendok_true (show 1 < 32 by omega) (by decide)
theorem mS3 : sendOk (mL2 Z) (3, 2) [] = true ∧ sendL (mL2 Z) (3, 2) [] = mL3 Z := sendok_true (show 0 < 32 by omega) (by decide)
theorem mS4 : sendOk (mL3 Z) (2, 3) [] = true ∧ sendL (mL3 Z) (2, 3) [] = mL4 Z := sendok_true (show 0 < 32 by omega) (by decide)
theorem mS5 : sendOk (mL4 Z) (2, -3) [] = true ∧ sendL (mL4 Z) (2, -3) [] = mL5 Z := sendok_true (show 0 < 32 by omega) (by decide)
theorem mS6 : sendOk (mL5 Z) (-1, 3) [] = true ∧ sendL (mL5 Z) (-1, 3) [] = mL6 Z := sendok_true (show 0 < 32 by omega) (by decide)
theorem mS7 : linksL (mL6 Z) = [(-1, 3), (1, 1), (2, -3), (2, 3), (3, 2)] := rfl
theorem mS8 : linksL (clearL (clearL (clearL (mL6 Z) 3 2) 1 1) 9 9) = [(-1, 3), (2, -3)] := rfl
end
theorem eq_true_of {α : Type} [BEq α] [LawfulBEq α] (x : α) : (x == x) = true := by simp

set_option maxRecDepth 8000 in
set_option maxHeartbeats 6400000 in
theorem numbers_walk (w : World) : Calls Try.prog 6 #[] w fun e w' => e = .returned (.bool true) ∧ Fr NoB w w' := by
  have hke : InR (-9223372036854775808, 9223372036854775807) := by unfold InR; omega
  have h11 : InR (1, 1) := by unfold InR; omega
  have h32 : InR (3, 2) := by unfold InR; omega
  have h23 : InR (2, 3) := by unfold InR; omega
  have h2m : InR (2, -3) := by unfold InR; omega
  have hm3 : InR (-1, 3) := by unfold InR; omega
  have h99 : InR (9, 9) := by unfold InR; omega
  obtain ⟨Y, hY, hmY⟩ := made 1048577 (by omega)
  obtain ⟨Z, hZ, hmZ⟩ := made 1048576 (by omega)
  rw [show ((1048577 : Nat) : Int) = 1048577 from rfl] at hmY
  rw [show ((1048576 : Nat) : Int) = 1048576 from rfl] at hmZ
  have HR1 := Lib.hid (fun W => rd_new W Y 5 (0, 0))
  have HR2 := Lib.hid (fun W => rd_new W Z 5 (0, 0))
  obtain ⟨MY, hMY⟩ : ∃ M, (bv Y).toArray = M := ⟨_, rfl⟩
  obtain ⟨MZ, hMZ⟩ : ∃ M, (bv Z).toArray = M := ⟨_, rfl⟩
  rw [hMY] at hmY HR1
  rw [hMZ] at hmZ HR2
  have HY := Lib.hid hY
  have HZ := Lib.hid hZ
  clear hMY hMZ hY hZ
  go_enter Try.func6, Try.ntmps6
  go_wp2_with (fail)
  refine (BN.new (X := fun _ => False) (Fr.refl NoB w) (fun _ x => x.elim)).mono ?_
  rintro e w1 ⟨p, rfl, hN, -⟩
  have N1 := Lib.hid hN
  clear hN
  go_wp2_with (fail)
  go_loopw [2] (fun s W => ∃ k : Nat, k ≤ 32 ∧ s = .int .i64 (k : Int) ∧ BN w W (fun _ => False) p k (nlK k)) (fun s _ => 32 - (intOf s).toNat)
  case atStart => exact ⟨0, by omega, rfl, N1.out⟩
  case round =>
    obtain ⟨k, hk, rfl, hN⟩ := hrel
    have N := Lib.hid hN
    clear hN N1
    by_cases hlt : k < 32
    · have hki : (k : Int) < 32 := by omega
      have hcv := u8_cast hlt
      have hs := (N.out.step ((Fr.refl NoB wr).alloc (.cells #[.int .u8 (k : Int)] 5))).send (by unfold maxLen; omega) hke _ _ 1 _ _ (rd_one wr k hlt 5)
      rw [(sendok_true (L := nlK k) (k := KE) (b := [UInt8.ofNat k]) (by rw [nlK_len]; omega) (by simp)).1, (sendok_true (L := nlK k) (k := KE) (b := [UInt8.ofNat k]) (by rw [nlK_len]; omega) (by simp)).2, ← nlK_succ] at hs
      go_wp2_with (fail)
      refine hs.mono ?_
      rintro e w2 ⟨rfl, hN, -⟩
      go_wp2
      go_roundw
      case rel => exact ⟨k + 1, by omega, by go_num, hN⟩
      case measure => simp [intOf]; omega
    · obtain rfl : k = 32 := by omega
      have s1 := N.out.send (by unfold maxLen; omega) hke none [] 0 0 0 (Rd.nil _ _ _ _)
      rw [nm1.1, nm1.2] at s1
      go_wp2_with (fail)
      refine s1.mono ?_
      rintro e w2 ⟨rfl, hN, -⟩
      have N2 := Lib.hid hN
      clear hN s1 N
      have s2 := N2.out.twice (by unfold maxLen; omega) hke 0 nm2.1
      rw [nm3.1, nm3.2] at s2
      go_wp2_with (fail)
      refine s2.mono ?_
      rintro e w3 ⟨rfl, hN, -⟩
      have N3 := Lib.hid hN
      clear hN s2 N2
      have s3 := N3.out.count hke
      rw [nlK_len] at s3
      go_wp2_with (fail)
      refine s3.mono ?_
      rintro e w4 ⟨rfl, rfl⟩
      clear s3
      go_wp2_with (fail)
      refine (N3.out.takeno hke 32 (.inr (by rw [nlK_len]; omega))).mono ?_
      rintro e w4 ⟨rfl, rfl⟩
      go_wp2_with (fail)
      refine (N3.out.takeno hke (-1) (.inl (by omega))).mono ?_
      rintro e w4 ⟨rfl, rfl⟩
      have s4 := N3.out.take (by unfold maxLen; omega) hke 31 nm2.2.1
      rw [nm4] at s4
      go_wp2_with (fail)
      refine s4.mono ?_
      rintro e w5 ⟨CA, cc, rfl, hco, -, hN, -⟩
      have N5 := Lib.hid hN
      have C5 := Lib.hid hco
      clear hN s4 hco N3
      have s5 := N5.out.twice (by unfold maxLen; omega) hke 30 nm2.2.2
      rw [nm5.1, nm5.2] at s5
      go_wp2_with (fail)
      refine s5.mono ?_
      rintro e w6 ⟨rfl, hN, f6⟩
      have N6 := Lib.hid hN
      have C6 := Lib.hid (own_keep C5.out fun g hg => f6.block g (C5.out.lt g hg).2 (fun x => x (.inr hg)))
      clear hN s5 N5 C5 f6
      have s6 := N6.out.take (by unfold maxLen; omega) hke 31 nm6.2
      rw [nm6.1] at s6
      go_wp2_with (fail)
      refine s6.mono ?_
      rintro e w7 ⟨FA, fc, rfl, hfo, hfx, hN, f7⟩
      have F7 := Lib.hid hN.fr
      have C7 := Lib.hid (own_keep C6.out fun g hg => f7.block g (C6.out.lt g hg).2 (fun x => x (.inr hg)))
      have O7 := Lib.hid hfo
      clear hN s6 N6 C6 f7 hfo hfx
      have c1 := same_calls CA (some ⟨w7.heap.size, 0, none⟩) [31] [31] cc 1 _ _ _ _ _ ((own_rd C7.out).fr ((Fr.refl NoB w7).alloc (.cells #[.int .u8 31] 5)) (Nat.le_refl _) (fun _ _ _ x => x)) (rd_new w7 [31] 5 (0, 0)) (by decide) (by decide)
      rw [show (([31] : List UInt8) == [31]) = true from rfl] at c1
      go_wp2_with (fail)
      refine c1.mono ?_
      rintro e w8 ⟨rfl, n8, rfl⟩
      have F8 := Lib.hid ((F7.out.alloc (.cells #[.int .u8 31] 5)).drewN n8)
      have O8 := Lib.hid (own_step O7.out (((Fr.refl NoB w7).alloc (.cells #[.int .u8 31] 5)).drewN n8))
      generalize (w7.alloc (.cells #[.int .u8 31] 5)).drewN n8 = w8 at F8 O8 ⊢
      clear c1 C7 O7 F7
      have c2 := same_calls FA (some ⟨w8.heap.size, 0, none⟩) [30] [30] fc 1 _ _ _ _ _ ((own_rd O8.out).fr ((Fr.refl NoB w8).alloc (.cells #[.int .u8 30] 5)) (Nat.le_refl _) (fun _ _ _ x => x)) (rd_new w8 [30] 5 (0, 0)) (by decide) (by decide)
      rw [show (([30] : List UInt8) == [30]) = true from rfl] at c2
      go_wp2_with (fail)
      refine c2.mono ?_
      rintro e w9 ⟨rfl, n9, rfl⟩
      have F9 := Lib.hid ((F8.out.alloc (.cells #[.int .u8 30] 5)).drewN n9)
      generalize (w8.alloc (.cells #[.int .u8 30] 5)).drewN n9 = w9 at F9 ⊢
      clear c2 O8 F8
      go_wp2_with (fail)
      refine (BN.new (X := fun _ => False) F9.out (fun _ x => x.elim)).mono ?_
      rintro e x1 ⟨q, rfl, hN, -⟩
      have M1 := Lib.hid hN
      clear hN F9
      have s0 := (M1.out.step ((Fr.refl NoB x1).alloc (.cells MY 5))).send (by unfold maxLen; omega) h11 (some ⟨x1.heap.size, 0, none⟩) Y 1048577 _ _ (HR1.out x1)
      rw [(mS0 Y HY.out).1, (mS0 Y HY.out).2, HY.out] at s0
      go_wp2_with (fail)
      refine s0.mono ?_
      rintro e x2 ⟨rfl, hN, -⟩
      have M2 := Lib.hid hN
      clear hN s0 M1
      have s1 := (M2.out.step ((Fr.refl NoB x2).alloc (.cells MZ 5))).send (by unfold maxLen; omega) h11 (some ⟨x2.heap.size, 0, none⟩) Z 1048576 _ _ (HR2.out x2)
      rw [(mS1 Z HZ.out).1, (mS1 Z HZ.out).2, HZ.out] at s1
      go_wp2_with (fail)
      refine s1.mono ?_
      rintro e x3 ⟨rfl, hN, -⟩
      have M3 := Lib.hid hN
      clear hN s1 M2
      have s2 := M3.out.send (by unfold maxLen; omega) h11 none [] 0 0 0 (Rd.nil _ _ _ _)
      rw [(mS2 Z).1, (mS2 Z).2] at s2
      go_wp2_with (fail)
      refine s2.mono ?_
      rintro e x4 ⟨rfl, hN, -⟩
      have M4 := Lib.hid hN
      clear hN s2 M3
      have s3 := M4.out.send (by unfold maxLen; omega) h32 none [] 0 0 0 (Rd.nil _ _ _ _)
      rw [(mS3 Z).1, (mS3 Z).2] at s3
      go_wp2_with (fail)
      refine s3.mono ?_
      rintro e x5 ⟨rfl, hN, -⟩
      have M5 := Lib.hid hN
      clear hN s3 M4
      have s4 := M5.out.send (by unfold maxLen; omega) h23 none [] 0 0 0 (Rd.nil _ _ _ _)
      rw [(mS4 Z).1, (mS4 Z).2] at s4
      go_wp2_with (fail)
      refine s4.mono ?_
      rintro e x6 ⟨rfl, hN, -⟩
      have M6 := Lib.hid hN
      clear hN s4 M5
      have s5 := M6.out.send (by unfold maxLen; omega) h2m none [] 0 0 0 (Rd.nil _ _ _ _)
      rw [(mS5 Z).1, (mS5 Z).2] at s5
      go_wp2_with (fail)
      refine s5.mono ?_
      rintro e x7 ⟨rfl, hN, -⟩
      have M7 := Lib.hid hN
      clear hN s5 M6
      have s6 := M7.out.send (by unfold maxLen; omega) hm3 none [] 0 0 0 (Rd.nil _ _ _ _)
      rw [(mS6 Z).1, (mS6 Z).2] at s6
      go_wp2_with (fail)
      refine s6.mono ?_
      rintro e x8 ⟨rfl, hN, -⟩
      have M8 := Lib.hid hN
      clear hN s6 M7
      have l1 := M8.out.links (by omega)
      rw [mS7 Z] at l1
      go_wp2_with (fail)
      refine l1.mono ?_
      rintro e y1 ⟨LA, lc, rfl, hk, hN, -⟩
      have MA := Lib.hid (hN.step ((Fr.refl NoB y1).alloc (.cells (kcs [(-1, 3), (1, 1), (2, -3), (2, 3), (3, 2)]).toArray 52)))
      have HK := Lib.hid (hk.fr ((Fr.refl NoB y1).alloc (.cells (kcs [(-1, 3), (1, 1), (2, -3), (2, 3), (3, 2)]).toArray 52)) (fun _ _ _ x => x))
      clear hN hk l1 M8
      have q1 := slinks_calls LA (some ⟨y1.heap.size, 0, none⟩) [(-1, 3), (1, 1), (2, -3), (2, 3), (3, 2)] [(-1, 3), (1, 1), (2, -3), (2, 3), (3, 2)] lc 5 _ HK.out (rdk_new y1 _ _) (by decide) (by decide)
      rw [show (([(-1, 3), (1, 1), (2, -3), (2, 3), (3, 2)] : List Lk) == [(-1, 3), (1, 1), (2, -3), (2, 3), (3, 2)]) = true from rfl] at q1
      go_wp2_with (fail)
      refine q1.mono ?_
      rintro e y2 ⟨rfl, m2, rfl⟩
      have MB := Lib.hid (MA.out.step ((Fr.refl NoB _).drewN m2))
      generalize (y1.alloc (.cells (kcs [(-1, 3), (1, 1), (2, -3), (2, 3), (3, 2)]).toArray 52)).drewN m2 = y2 at MB ⊢
      clear q1 HK MA
      go_wp2_with (fail)
      refine (MB.out.clear h32).mono ?_
      rintro e y3 ⟨rfl, hN, -⟩
      have MC := Lib.hid hN
      clear hN MB
      go_wp2_with (fail)
      refine (MC.out.clear h11).mono ?_
      rintro e y4 ⟨rfl, hN, -⟩
      have MD := Lib.hid hN
      clear hN MC
      go_wp2_with (fail)
      refine (MD.out.clear h99).mono ?_
      rintro e y5 ⟨rfl, hN, -⟩
      have ME := Lib.hid hN
      clear hN MD
      have l2 := ME.out.links (by omega)
      rw [mS8 Z] at l2
      go_wp2_with (fail)
      refine l2.mono ?_
      rintro e y6 ⟨LB, ld, rfl, hk, hN, -⟩
      have MF := Lib.hid ((hN.step ((Fr.refl NoB y6).alloc (.cells (kcs [(-1, 3), (2, -3)]).toArray 52))).fr)
      have HK2 := Lib.hid (hk.fr ((Fr.refl NoB y6).alloc (.cells (kcs [(-1, 3), (2, -3)]).toArray 52)) (fun _ _ _ x => x))
      clear hN hk l2 ME
      have q2 := slinks_calls LB (some ⟨y6.heap.size, 0, none⟩) [(-1, 3), (2, -3)] [(-1, 3), (2, -3)] ld 2 _ HK2.out (rdk_new y6 _ _) (by decide) (by decide)
      rw [show (([(-1, 3), (2, -3)] : List Lk) == [(-1, 3), (2, -3)]) = true from rfl] at q2
      go_wp2_with (fail)
      refine q2.mono ?_
      rintro e y7 ⟨rfl, m7, rfl⟩
      have FG := Lib.hid (MF.out.drewN m7)
      generalize (y6.alloc (.cells (kcs [(-1, 3), (2, -3)]).toArray 52)).drewN m7 = y7 at FG ⊢
      clear q2 HK2 MF
      go_wp2_with (fail)
      refine (awake_calls y7).mono ?_
      rintro e y8 ⟨rfl, f8⟩
      go_wp2
      go_ret
      exact ⟨rfl, FG.out.then f8⟩
end Go.Proofs.Ytmgkenbfjlahpaa
